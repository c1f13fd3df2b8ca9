/- Package light: Take. No claim of its own; no condition. -/
import Derived.Test.YtglneailkgminaaLigE
import Derived.Test.YtglneailkgminaaLawR
namespace Go.Proofs.Ytglneailkgminaa
open Go.ChangeShapes Go.WideShapes Go.ChangeAt Go.RowKit
set_option linter.unusedVariables false
set_option linter.unusedSimpArgs false
def wantF (m h : Mark) (l : List Vote) (roots : List ByteArray) (q : Int) : Bool := (chkC m l roots q == 0) && higherF m h
def LightV (m : Mark) (A : Option Addr) (n c : Nat) (t : Int) : Value := .agg #[.int .i64 m.view, .int .i64 m.height, .string m.block, .slice A n c, .int .i64 t]
/-- What Take leaves. -/
def TakePost (m h : Mark) (l lh : List Vote) (t t1 : Int) (b : Bool) (w : World) (e : Ending) (w' : World) : Prop :=
  (∃ A5 c5, e = .returned (.tuple #[LightV (if b then m else h) A5 (if b then l else lh).length c5 (if b then t1 else t), .bool b]) ∧ (if b then l else lh).length ≤ c5 ∧ c5 ≤ maxLen ∧ kVote.Row 28 0 w' A5 (if b then l else lh)) ∧ Below w.heap.size w w'
def tkA (G : Nat) (m h : Mark) (A A2 Ar : Option Addr) (nL nH nR c c2 cr : Nat) (q res : Int) (hi : Bool) : Nat → Value → World → Prop
  | 0, y, _ => y = .agg #[.int .i64 m.view, .int .i64 m.height, .string m.block, .slice A2 nL c2]
  | 1, y, _ => y = .pointer (some ⟨G + 1, 0, none⟩)
  | 2, y, _ => y = .slice Ar nR cr
  | 3, y, _ => y = .pointer (some ⟨G + 1, 2, none⟩)
  | 4, y, _ => y = .int .i64 q
  | 5, y, _ => y = .int .i64 res
  | 6, y, _ => y = .bool true
  | 7, y, _ => y = .bool true
  | 8, y, _ => y = undef
  | 9, y, _ => y = undef
  | 10, y, _ => y = undef
  | 11, y, _ => y = undef
  | 12, y, _ => y = undef
  | 13, y, _ => y = undef
  | 14, y, _ => y = undef
  | 15, y, _ => y = .bool true
  | _, _, _ => True
def tkB (G : Nat) (m h : Mark) (A A2 Ar : Option Addr) (nL nH nR c c2 cr : Nat) (q res : Int) (hi : Bool) : Nat → Value → World → Prop
  | 0, y, _ => y = .agg #[.int .i64 m.view, .int .i64 m.height, .string m.block, .slice A2 nL c2]
  | 1, y, _ => y = .pointer (some ⟨G + 1, 0, none⟩)
  | 2, y, _ => y = .slice Ar nR cr
  | 3, y, _ => y = .pointer (some ⟨G + 1, 2, none⟩)
  | 4, y, _ => y = .int .i64 q
  | 5, y, _ => y = .int .i64 0
  | 6, y, _ => y = .bool false
  | 7, y, _ => y = .bool false
  | 8, y, _ => y = .agg #[.int .i64 m.view, .int .i64 m.height, .string m.block, .slice A2 nL c2]
  | 9, y, _ => y = .agg #[.int .i64 m.view, .int .i64 m.height, .string m.block]
  | 10, y, _ => y = .pointer (some ⟨G, 0, none⟩)
  | 11, y, _ => y = .agg #[.int .i64 h.view, .int .i64 h.height, .string h.block, .slice A nH c]
  | 12, y, _ => y = .agg #[.int .i64 h.view, .int .i64 h.height, .string h.block]
  | 13, y, _ => y = .bool hi
  | 14, y, _ => y = .bool (!hi)
  | 15, y, _ => y = .bool (!hi)
  | _, _, _ => True
def tk2 (G : Nat) (m : Mark) (l : List Vote) (A : Option Addr) (c : Nat) (t t1 : Int) : Nat → Value → World → Prop
  | 0, y, w => y = .pointer (some ⟨G, 0, none⟩)
  | 1, y, w => y = .agg #[.int .i64 m.view, .int .i64 m.height, .string m.block, .slice A l.length c]
  | 2, y, w => ∃ A5 c5, y = .agg #[.int .i64 m.view, .int .i64 m.height, .string m.block, .slice A5 l.length c5] ∧ l.length ≤ c5 ∧ c5 ≤ maxLen ∧ kVote.Row 28 0 w A5 l
  | 3, y, w => y = .pointer (some ⟨G, 4, none⟩)
  | 4, y, w => y = .int .i64 t
  | 5, y, w => ∃ A5 c5, y = .agg #[.int .i64 m.view, .int .i64 m.height, .string m.block, .slice A5 l.length c5, .int .i64 (t)] ∧ l.length ≤ c5 ∧ c5 ≤ maxLen ∧ kVote.Row 28 0 w A5 l
  | _, _, _ => True
def tk3 (G : Nat) (m : Mark) (l : List Vote) (A : Option Addr) (c : Nat) (t t1 : Int) : Nat → Value → World → Prop
  | 0, y, w => y = .agg #[.int .i64 m.view, .int .i64 m.height, .string m.block, .slice A l.length c]
  | 1, y, w => ∃ A5 c5, y = .agg #[.int .i64 m.view, .int .i64 m.height, .string m.block, .slice A5 l.length c5] ∧ l.length ≤ c5 ∧ c5 ≤ maxLen ∧ kVote.Row 28 0 w A5 l
  | 2, y, w => y = .pointer (some ⟨G, 4, none⟩)
  | 3, y, w => y = .int .i64 t
  | 4, y, w => y = .int .i64 t1
  | 5, y, w => ∃ A5 c5, y = .agg #[.int .i64 m.view, .int .i64 m.height, .string m.block, .slice A5 l.length c5, .int .i64 (t1)] ∧ l.length ≤ c5 ∧ c5 ≤ maxLen ∧ kVote.Row 28 0 w A5 l
  | _, _, _ => True
set_option maxHeartbeats 16000000 in
set_option maxRecDepth 100000 in
theorem take_calls (m h : Mark) (l lh : List Vote) (roots : List ByteArray) (t t1 q base cap : Int) (ht1 : IntKind.i64.wrap (t + 1) = t1) (A A2 Ar Ac : Option Addr) (c c2 cr nC cc B0 : Nat) (w : World) (hB0 : B0 ≤ w.heap.size) (hl : l.length ≤ 1048576) (hlh : lh.length ≤ 1048576) (hlr : roots.length ≤ 1048576)
    (hr : kVote.Row 28 B0 w A2 l) (hrh : kVote.Row 28 B0 w A lh) (hrr : Kd.str.Row 9 B0 w Ar roots) :
    Calls Try.prog 26 #[.agg #[.int .i64 h.view, .int .i64 h.height, .string h.block, .slice A lh.length c, .int .i64 t], .agg #[.slice Ar roots.length cr, .slice Ac nC cc, .int .i64 q, .int .i64 base, .int .i64 cap], .agg #[.int .i64 m.view, .int .i64 m.height, .string m.block, .slice A2 l.length c2]] w (TakePost m h l lh t t1 (wantF m h l roots q) w) := by
  have q0 := bl_alloc (bl_alloc (bl_alloc (bl_alloc (Below.refl w.heap.size w) (.cells #[.int .i64 h.view, .int .i64 h.height, .string h.block, .slice A lh.length c, .int .i64 t] 55)) (.cells #[.slice Ar roots.length cr, .slice Ac nC cc, .int .i64 q, .int .i64 base, .int .i64 cap] 57)) (.cells #[.int .i64 m.view, .int .i64 m.height, .string m.block, .slice A2 l.length c2] 35)) (.cells #[.int .i64 0, .int .i64 0, .string ⟨#[]⟩, .slice none 0 0, .int .i64 0] 55)
  have a0 : ((((w.alloc (.cells #[.int .i64 h.view, .int .i64 h.height, .string h.block, .slice A lh.length c, .int .i64 t] 55)).alloc (.cells #[.slice Ar roots.length cr, .slice Ac nC cc, .int .i64 q, .int .i64 base, .int .i64 cap] 57)).alloc (.cells #[.int .i64 m.view, .int .i64 m.height, .string m.block, .slice A2 l.length c2] 35)).alloc (.cells #[.int .i64 0, .int .i64 0, .string ⟨#[]⟩, .slice none 0 0, .int .i64 0] 55)).heap[w.heap.size]? = some (.cells #[.int .i64 h.view, .int .i64 h.height, .string h.block, .slice A lh.length c, .int .i64 t] 55 (0, 0)) := alloc_old (alloc_old (alloc_old (alloc_new w _) _) _) _
  have a1 : ((((w.alloc (.cells #[.int .i64 h.view, .int .i64 h.height, .string h.block, .slice A lh.length c, .int .i64 t] 55)).alloc (.cells #[.slice Ar roots.length cr, .slice Ac nC cc, .int .i64 q, .int .i64 base, .int .i64 cap] 57)).alloc (.cells #[.int .i64 m.view, .int .i64 m.height, .string m.block, .slice A2 l.length c2] 35)).alloc (.cells #[.int .i64 0, .int .i64 0, .string ⟨#[]⟩, .slice none 0 0, .int .i64 0] 55)).heap[w.heap.size + 1]? = some (.cells #[.slice Ar roots.length cr, .slice Ac nC cc, .int .i64 q, .int .i64 base, .int .i64 cap] 57 (0, 0)) := by
    have := alloc_old (alloc_old (alloc_new (w.alloc (.cells #[.int .i64 h.view, .int .i64 h.height, .string h.block, .slice A lh.length c, .int .i64 t] 55)) (.cells #[.slice Ar roots.length cr, .slice Ac nC cc, .int .i64 q, .int .i64 base, .int .i64 cap] 57)) (.cells #[.int .i64 m.view, .int .i64 m.height, .string m.block, .slice A2 l.length c2] 35)) (.cells #[.int .i64 0, .int .i64 0, .string ⟨#[]⟩, .slice none 0 0, .int .i64 0] 55)
    rwa [World.size_alloc] at this
  have a2 : ((((w.alloc (.cells #[.int .i64 h.view, .int .i64 h.height, .string h.block, .slice A lh.length c, .int .i64 t] 55)).alloc (.cells #[.slice Ar roots.length cr, .slice Ac nC cc, .int .i64 q, .int .i64 base, .int .i64 cap] 57)).alloc (.cells #[.int .i64 m.view, .int .i64 m.height, .string m.block, .slice A2 l.length c2] 35)).alloc (.cells #[.int .i64 0, .int .i64 0, .string ⟨#[]⟩, .slice none 0 0, .int .i64 0] 55)).heap[w.heap.size + 1 + 1]? = some (.cells #[.int .i64 m.view, .int .i64 m.height, .string m.block, .slice A2 l.length c2] 35 (0, 0)) := by
    have := alloc_old (alloc_new ((w.alloc (.cells #[.int .i64 h.view, .int .i64 h.height, .string h.block, .slice A lh.length c, .int .i64 t] 55)).alloc (.cells #[.slice Ar roots.length cr, .slice Ac nC cc, .int .i64 q, .int .i64 base, .int .i64 cap] 57)) (.cells #[.int .i64 m.view, .int .i64 m.height, .string m.block, .slice A2 l.length c2] 35)) (.cells #[.int .i64 0, .int .i64 0, .string ⟨#[]⟩, .slice none 0 0, .int .i64 0] 55)
    rwa [World.size_alloc, World.size_alloc] at this
  have a3 : ((((w.alloc (.cells #[.int .i64 h.view, .int .i64 h.height, .string h.block, .slice A lh.length c, .int .i64 t] 55)).alloc (.cells #[.slice Ar roots.length cr, .slice Ac nC cc, .int .i64 q, .int .i64 base, .int .i64 cap] 57)).alloc (.cells #[.int .i64 m.view, .int .i64 m.height, .string m.block, .slice A2 l.length c2] 35)).alloc (.cells #[.int .i64 0, .int .i64 0, .string ⟨#[]⟩, .slice none 0 0, .int .i64 0] 55)).heap[w.heap.size + 1 + 1 + 1]? = some (.cells #[.int .i64 0, .int .i64 0, .string ⟨#[]⟩, .slice none 0 0, .int .i64 0] 55 (0, 0)) := by
    have := alloc_new (((w.alloc (.cells #[.int .i64 h.view, .int .i64 h.height, .string h.block, .slice A lh.length c, .int .i64 t] 55)).alloc (.cells #[.slice Ar roots.length cr, .slice Ac nC cc, .int .i64 q, .int .i64 base, .int .i64 cap] 57)).alloc (.cells #[.int .i64 m.view, .int .i64 m.height, .string m.block, .slice A2 l.length c2] 35)) (.cells #[.int .i64 0, .int .i64 0, .string ⟨#[]⟩, .slice none 0 0, .int .i64 0] 55)
    rwa [World.size_alloc, World.size_alloc, World.size_alloc] at this
  have hrq := Kd.row_below q0 hr
  have hrhq := Kd.row_below q0 hrh
  have hrrq := Kd.row_below q0 hrr
  obtain ⟨res, hres⟩ : ∃ r, chkC m l roots q = r := ⟨_, rfl⟩
  obtain ⟨hi, hhi⟩ : ∃ r, higherF m h = r := ⟨_, rfl⟩
  have hw : wantF m h l roots q = ((res == 0) && hi) := by unfold wantF; rw [hres, hhi]
  rw [hw]
  obtain ⟨bb, hbb⟩ : ∃ bb, ((res == 0) && hi) = bb := ⟨_, rfl⟩
  rw [hbb]
  have HBB := Lib.hid hbb
  have HT := Lib.hid ht1
  have hck := fun (W : World) (h1 : kVote.Row 28 B0 W A2 l) (h2 : Kd.str.Row 9 B0 W Ar roots) => check_calls m l roots q A2 Ar c2 cr B0 W hl hlr h1 h2
  have hh := fun W => higher_calls m h W
  simp only [hres] at hck
  simp only [hhi] at hh
  have HCK := Lib.hid hck
  have HH := Lib.hid hh
  have hcx := fun (W : World) (h1 : kVote.Row 28 B0 W A2 l) => copied_calls m l A2 l.length c2 W B0 rfl (by omega) h1
  have hch := fun (W : World) (h1 : kVote.Row 28 B0 W A lh) => copied_calls h lh A lh.length c W B0 rfl (by omega) h1
  have HCX := Lib.hid hcx
  have HCH := Lib.hid hch
  clear hck hh hr hrh hrr hw hres hhi hcx hch hbb ht1
  go_enter Try.func26, Try.ntmps26
  go_upto_region 1 with fail
  change Code.wp _ _ _ _ ((((w.alloc (.cells #[.int .i64 h.view, .int .i64 h.height, .string h.block, .slice A lh.length c, .int .i64 t] 55)).alloc (.cells #[.slice Ar roots.length cr, .slice Ac nC cc, .int .i64 q, .int .i64 base, .int .i64 cap] 57)).alloc (.cells #[.int .i64 m.view, .int .i64 m.height, .string m.block, .slice A2 l.length c2] 35)).alloc (.cells #[.int .i64 0, .int .i64 0, .string ⟨#[]⟩, .slice none 0 0, .int .i64 0] 55))
  obtain ⟨G, hG⟩ : ∃ G, w.heap.size = G := ⟨_, rfl⟩
  have leG : w.heap.size ≤ G := by omega
  generalize (((w.alloc (.cells #[.int .i64 h.view, .int .i64 h.height, .string h.block, .slice A lh.length c, .int .i64 t] 55)).alloc (.cells #[.slice Ar roots.length cr, .slice Ac nC cc, .int .i64 q, .int .i64 base, .int .i64 cap] 57)).alloc (.cells #[.int .i64 m.view, .int .i64 m.height, .string m.block, .slice A2 l.length c2] 35)).alloc (.cells #[.int .i64 0, .int .i64 0, .string ⟨#[]⟩, .slice none 0 0, .int .i64 0] 55) = V at *
  simp only [hG] at a0 a1 a2 a3 ⊢
  clear hG
  have HA0 := Lib.hid a0
  have HA1 := Lib.hid a1
  have HA2 := Lib.hid a2
  have HA3 := Lib.hid a3
  have HROW := Lib.hid hrq
  have HROH := Lib.hid hrhq
  have HRR := Lib.hid hrrq
  clear a0 a1 a2 a3 hrq hrhq hrrq
  by_cases hz : res = 0
  case neg =>
    have hne : (res != 0) = true := by rw [bne_iff_ne]; exact hz
    obtain rfl : bb = false := by rw [← HBB.out, show (res == 0) = false by rw [beq_eq_false_iff_ne]; exact hz]; rfl
    have HNE := Lib.hid hne
    clear hne hz HBB
    refine wp_region_invA (by kernel_rfl) (by kernel_rfl) Rb (tkA G m h A A2 Ar l.length lh.length roots.length c c2 cr q res false) rb_refl rb_trans ⟨?_, ?_, ?_, ?_, ?_, ?_, ?_, ?_, ?_, ?_, ?_, ?_, ?_, ?_, ?_, ?_, trivial⟩ ?_
    · intro Fr u hN hO w1 hR hdep K hK
      rw [if_pos (by rfl)]
      have y5 : Fr.tmps[5]? = some (.pointer (some ⟨G + 1 + 1, 0, none⟩)) := hO 5 _ rfl rfl
      clear hN hO hdep
      have gg := block_below hR HA2.out
      have z0 := block_cell gg (i := 0) rfl
      have z1 := block_cell gg (i := 1) rfl
      have z2 := block_cell gg (i := 2) rfl
      have z3 := block_cell gg (i := 3) rfl
      go_simp
      refine hK _ _ (rb_refl _) fun w3 h3 => ?_
      exact rfl
    · intro Fr u hN hO w1 hR hdep K hK
      rw [if_pos (by rfl)]
      have y4 : Fr.tmps[4]? = some (.pointer (some ⟨G + 1, 0, none⟩)) := hO 4 _ rfl rfl
      clear hN hO hdep
      go_simp
      refine hK _ _ (rb_refl _) fun w3 h3 => ?_
      exact rfl
    · intro Fr u hN hO w1 hR hdep K hK
      rw [if_pos (by rfl)]
      have x1 : Fr.tmps[9]? = some (u 1) := hN 1 _ 9 rfl rfl rfl
      rw [show u 1 = .pointer (some ⟨G + 1, 0, none⟩) from hdep 1 (by kernel_rfl) w1 (rb_refl _)] at x1
      clear hN hO hdep
      have gg := block_below hR HA1.out
      have z0 := block_cell gg (i := 0) rfl
      have z1 := block_cell gg (i := 1) rfl
      have z2 := block_cell gg (i := 2) rfl
      have z3 := block_cell gg (i := 3) rfl
      have z4 := block_cell gg (i := 4) rfl
      go_simp
      refine hK _ _ (rb_refl _) fun w3 h3 => ?_
      exact rfl
    · intro Fr u hN hO w1 hR hdep K hK
      rw [if_pos (by rfl)]
      have y4 : Fr.tmps[4]? = some (.pointer (some ⟨G + 1, 0, none⟩)) := hO 4 _ rfl rfl
      clear hN hO hdep
      go_simp
      refine hK _ _ (rb_refl _) fun w3 h3 => ?_
      exact rfl
    · intro Fr u hN hO w1 hR hdep K hK
      rw [if_pos (by rfl)]
      have x3 : Fr.tmps[11]? = some (u 3) := hN 3 _ 11 rfl rfl rfl
      rw [show u 3 = .pointer (some ⟨G + 1, 2, none⟩) from hdep 3 (by kernel_rfl) w1 (rb_refl _)] at x3
      clear hN hO hdep
      have gg := block_below hR HA1.out
      have z0 := block_cell gg (i := 0) rfl
      have z1 := block_cell gg (i := 1) rfl
      have z2 := block_cell gg (i := 2) rfl
      have z3 := block_cell gg (i := 3) rfl
      have z4 := block_cell gg (i := 4) rfl
      go_simp
      refine hK _ _ (rb_refl _) fun w3 h3 => ?_
      exact rfl
    · intro Fr u hN hO w1 hR hdep K hK
      rw [if_pos (by rfl)]
      have x0 : Fr.tmps[8]? = some (u 0) := hN 0 _ 8 rfl rfl rfl
      rw [show u 0 = .agg #[.int .i64 m.view, .int .i64 m.height, .string m.block, .slice A2 l.length c2] from hdep 0 (by kernel_rfl) w1 (rb_refl _)] at x0
      have x2 : Fr.tmps[10]? = some (u 2) := hN 2 _ 10 rfl rfl rfl
      rw [show u 2 = .slice Ar roots.length cr from hdep 2 (by kernel_rfl) w1 (rb_refl _)] at x2
      have x4 : Fr.tmps[12]? = some (u 4) := hN 4 _ 12 rfl rfl rfl
      rw [show u 4 = .int .i64 q from hdep 4 (by kernel_rfl) w1 (rb_refl _)] at x4
      clear hN hO hdep
      go_simp
      refine (HCK.out w1 (Kd.row_below hR HROW.out) (Kd.row_below hR HRR.out)).mono ?_
      rintro x w2 ⟨rfl, b2⟩
      refine hK _ _ b2 fun w3 h3 => ?_
      exact rfl
    · intro Fr u hN hO w1 hR hdep K hK
      rw [if_pos (by rfl)]
      have x5 : Fr.tmps[13]? = some (u 5) := hN 5 _ 13 rfl rfl rfl
      rw [show u 5 = .int .i64 res from hdep 5 (by kernel_rfl) w1 (rb_refl _)] at x5
      clear hN hO hdep
      have hne := HNE.out
      go_simp
      refine hK _ _ (rb_refl _) fun w3 h3 => ?_
      exact rfl
    · intro Fr u hN hO w1 hR hdep K hK
      rw [if_pos (by rfl)]
      have x6 : Fr.tmps[14]? = some (u 6) := hN 6 _ 14 rfl rfl rfl
      rw [show u 6 = .bool true from hdep 6 (by kernel_rfl) w1 (rb_refl _)] at x6
      clear hN hO hdep
      go_simp
      refine hK _ _ (rb_refl _) fun w3 h3 => ?_
      exact rfl
    · intro Fr u hN hO w1 hR hdep K hK
      have gx : Fr.tmps[15]? = some (u 7) := hN 7 _ 15 rfl rfl rfl
      rw [show u 7 = .bool true from hdep 7 (by kernel_rfl) w1 (rb_refl _)] at gx
      rw [if_neg (wanted_off (s := 15) rfl (by kernel_rfl) gx (by decide))]
      exact hK _ _ (rb_refl _) fun w3 h3 => rfl
    · intro Fr u hN hO w1 hR hdep K hK
      have gx : Fr.tmps[15]? = some (u 7) := hN 7 _ 15 rfl rfl rfl
      rw [show u 7 = .bool true from hdep 7 (by kernel_rfl) w1 (rb_refl _)] at gx
      rw [if_neg (wanted_off (s := 15) rfl (by kernel_rfl) gx (by decide))]
      exact hK _ _ (rb_refl _) fun w3 h3 => rfl
    · intro Fr u hN hO w1 hR hdep K hK
      have gx : Fr.tmps[15]? = some (u 7) := hN 7 _ 15 rfl rfl rfl
      rw [show u 7 = .bool true from hdep 7 (by kernel_rfl) w1 (rb_refl _)] at gx
      rw [if_neg (wanted_off (s := 15) rfl (by kernel_rfl) gx (by decide))]
      exact hK _ _ (rb_refl _) fun w3 h3 => rfl
    · intro Fr u hN hO w1 hR hdep K hK
      have gx : Fr.tmps[15]? = some (u 7) := hN 7 _ 15 rfl rfl rfl
      rw [show u 7 = .bool true from hdep 7 (by kernel_rfl) w1 (rb_refl _)] at gx
      rw [if_neg (wanted_off (s := 15) rfl (by kernel_rfl) gx (by decide))]
      exact hK _ _ (rb_refl _) fun w3 h3 => rfl
    · intro Fr u hN hO w1 hR hdep K hK
      have gx : Fr.tmps[15]? = some (u 7) := hN 7 _ 15 rfl rfl rfl
      rw [show u 7 = .bool true from hdep 7 (by kernel_rfl) w1 (rb_refl _)] at gx
      rw [if_neg (wanted_off (s := 15) rfl (by kernel_rfl) gx (by decide))]
      exact hK _ _ (rb_refl _) fun w3 h3 => rfl
    · intro Fr u hN hO w1 hR hdep K hK
      have gx : Fr.tmps[15]? = some (u 7) := hN 7 _ 15 rfl rfl rfl
      rw [show u 7 = .bool true from hdep 7 (by kernel_rfl) w1 (rb_refl _)] at gx
      rw [if_neg (wanted_off (s := 15) rfl (by kernel_rfl) gx (by decide))]
      exact hK _ _ (rb_refl _) fun w3 h3 => rfl
    · intro Fr u hN hO w1 hR hdep K hK
      have gx : Fr.tmps[15]? = some (u 7) := hN 7 _ 15 rfl rfl rfl
      rw [show u 7 = .bool true from hdep 7 (by kernel_rfl) w1 (rb_refl _)] at gx
      rw [if_neg (wanted_off (s := 15) rfl (by kernel_rfl) gx (by decide))]
      exact hK _ _ (rb_refl _) fun w3 h3 => rfl
    · intro Fr u hN hO w1 hR hdep K hK
      rw [if_pos (by rfl)]
      have x7 : Fr.tmps[15]? = some (u 7) := hN 7 _ 15 rfl rfl rfl
      rw [show u 7 = .bool true from hdep 7 (by kernel_rfl) w1 (rb_refl _)] at x7
      have x14 : Fr.tmps[22]? = some (u 14) := hN 14 _ 22 rfl rfl rfl
      rw [show u 14 = undef from hdep 14 (by kernel_rfl) w1 (rb_refl _)] at x14
      clear hN hO hdep
      go_simp
      refine hK _ _ (rb_refl _) fun w3 h3 => ?_
      exact rfl
    · intro u w' hR hall
      have h15 : u 15 = .bool true := hall 15 (by decide)
      have bw : Below V.heap.size V w' := bl_trans (bl_drew (Below.refl _ _)) hR
      have bw2 := bl_trans q0 bw
      clear hall
      simp only [frameF, Act.put, List.setIfInBounds_toArray, List.set_cons_zero, List.set_cons_succ, Nat.reduceAdd, h15]
      clear h15
      have HB0 := Lib.hid (block_below bw HA0.out)
      have HB2 := Lib.hid (block_below bw HA2.out)
      have HB3 := Lib.hid (block_below bw HA3.out)
      have HROW2 := Lib.hid (Kd.row_below bw HROW.out)
      have HROH2 := Lib.hid (Kd.row_below bw HROH.out)
      clear HA0 HA1 HA2 HA3 HROW HROH HRR hR
      go_upto_region 2 with fail
      refine wp_region_any (by kernel_rfl) ?_
      refine wpAny_invt' [true, true, true, true, true, true, false, false] [6, 7] (by kernel_rfl) (by kernel_rfl) Rb (tk2 G h lh A c t t1) rb_refl rb_trans ⟨?_, ?_, ?_, ?_, ?_, ?_, trivial⟩ ?_
      · intro u w1 hR hdep K hK
        rw [if_pos (by rfl)]
        simp only [frameM, frameM_nil, Act.put, List.setIfInBounds_toArray, List.set_cons_zero, List.set_cons_succ, Nat.reduceAdd] at hK ⊢
        clear hdep
        go_simp
        refine hK _ _ (rb_refl _) fun w3 h3 => ?_
        exact rfl
      · intro u w1 hR hdep K hK
        rw [if_pos (by rfl)]
        simp only [frameM, frameM_nil, Act.put, List.setIfInBounds_toArray, List.set_cons_zero, List.set_cons_succ, Nat.reduceAdd] at hK ⊢
        have u0 : u 0 = .pointer (some ⟨G, 0, none⟩) := hdep 0 (by kernel_rfl) w1 (rb_refl _)
        have gg := block_below hR HB0.out
        have z0 := block_cell gg (i := 0) rfl
        have z1 := block_cell gg (i := 1) rfl
        have z2 := block_cell gg (i := 2) rfl
        have z3 := block_cell gg (i := 3) rfl
        have z4 := block_cell gg (i := 4) rfl
        simp only [u0] at hK ⊢
        clear u0 hdep
        go_simp
        refine hK _ _ (rb_refl _) fun w3 h3 => ?_
        exact rfl
      · intro u w1 hR hdep K hK
        rw [if_pos (by rfl)]
        simp only [frameM, frameM_nil, Act.put, List.setIfInBounds_toArray, List.set_cons_zero, List.set_cons_succ, Nat.reduceAdd] at hK ⊢
        have u1 : u 1 = .agg #[.int .i64 h.view, .int .i64 h.height, .string h.block, .slice A lh.length c] := hdep 1 (by kernel_rfl) w1 (rb_refl _)
        simp only [u1] at hK ⊢
        clear u1 hdep
        go_simp
        refine (HCH.out w1 (Kd.row_below hR HROH2.out)).mono ?_
        rintro e w2 ⟨⟨A5, c5, rfl, k1, k2, k3⟩, b2⟩
        refine hK _ _ b2 fun w3 h3 => ?_
        exact ⟨A5, c5, rfl, k1, k2, Kd.row_below h3 k3⟩
      · intro u w1 hR hdep K hK
        rw [if_pos (by rfl)]
        simp only [frameM, frameM_nil, Act.put, List.setIfInBounds_toArray, List.set_cons_zero, List.set_cons_succ, Nat.reduceAdd] at hK ⊢
        clear hdep
        go_simp
        refine hK _ _ (rb_refl _) fun w3 h3 => ?_
        exact rfl
      · intro u w1 hR hdep K hK
        rw [if_pos (by rfl)]
        simp only [frameM, frameM_nil, Act.put, List.setIfInBounds_toArray, List.set_cons_zero, List.set_cons_succ, Nat.reduceAdd] at hK ⊢
        have u3 : u 3 = .pointer (some ⟨G, 4, none⟩) := hdep 3 (by kernel_rfl) w1 (rb_refl _)
        have gg := block_below hR HB0.out
        have z0 := block_cell gg (i := 0) rfl
        have z1 := block_cell gg (i := 1) rfl
        have z2 := block_cell gg (i := 2) rfl
        have z3 := block_cell gg (i := 3) rfl
        have z4 := block_cell gg (i := 4) rfl
        simp only [u3] at hK ⊢
        clear u3 hdep
        go_simp
        refine hK _ _ (rb_refl _) fun w3 h3 => ?_
        exact rfl
      · intro u w1 hR hdep K hK
        rw [if_pos (by rfl)]
        simp only [frameM, frameM_nil, Act.put, List.setIfInBounds_toArray, List.set_cons_zero, List.set_cons_succ, Nat.reduceAdd] at hK ⊢
        obtain ⟨A5, c5, hu, k1, k2, k3⟩ := hdep 2 (by kernel_rfl) w1 (rb_refl _)
        have u4 : u 4 = .int .i64 (t) := hdep 4 (by kernel_rfl) w1 (rb_refl _)
        simp only [hu, u4] at hK ⊢
        clear hdep hu u4
        go_simp
        refine hK _ _ (rb_refl _) fun w3 h3 => ?_
        exact ⟨A5, c5, rfl, k1, k2, Kd.row_below h3 k3⟩
      · intro u w1 hR hall
        obtain ⟨A5, c5, e5, k1, k2, k3⟩ := hall 5 rfl
        have hb1 := bl_trans bw2 (bl_trans (bl_drew (Below.refl _ _)) hR)
        have g3 := block_below hR HB3.out
        have Y0 := block_cell g3 (i := 0) rfl
        have Y1 := block_cell g3 (i := 1) rfl
        have Y2 := block_cell g3 (i := 2) rfl
        have Y3 := block_cell g3 (i := 3) rfl
        have Y4 := block_cell g3 (i := 4) rfl
        have Z0 : w1.frozen? ⟨G + 1 + 1 + 1, 0, none⟩ = false := block_free g3
        have Z1 : w1.frozen? ⟨G + 1 + 1 + 1, 1, none⟩ = false := block_free g3
        have Z2 : w1.frozen? ⟨G + 1 + 1 + 1, 2, none⟩ = false := block_free g3
        have Z3 : w1.frozen? ⟨G + 1 + 1 + 1, 3, none⟩ = false := block_free g3
        have Z4 : w1.frozen? ⟨G + 1 + 1 + 1, 4, none⟩ = false := block_free g3
        change wpList _ _ _ ([_, _]) _ _
        simp only [frameM, frameM_nil, Act.put, List.setIfInBounds_toArray, List.set_cons_zero, List.set_cons_succ, Nat.reduceAdd, e5]
        clear hall e5
        go_wp2_with fail
        have R := res5 (p := .int .i64 h.view) (q := .int .i64 h.height) (r := .string h.block) (s := .slice A5 lh.length c5) (u := .int .i64 (t)) g3
        have le3 : w.heap.size ≤ G + 1 + 1 + 1 := by omega
        have bz := bel5 (p := .int .i64 h.view) (q := .int .i64 h.height) (r := .string h.block) (s := .slice A5 lh.length c5) (u := .int .i64 (t)) hb1 le3
        have rz := Kd.row_keep (keep5 (E := [28]) (p := .int .i64 h.view) (q := .int .i64 h.height) (r := .string h.block) (s := .slice A5 lh.length c5) (u := .int .i64 (t)) g3 (Nat.zero_le _) (by decide)) k3
        generalize ((((w1.setCell ⟨G + 1 + 1 + 1, 0, none⟩ (.int .i64 h.view)).setCell ⟨G + 1 + 1 + 1, 1, none⟩ (.int .i64 h.height)).setCell ⟨G + 1 + 1 + 1, 2, none⟩ (.string h.block)).setCell ⟨G + 1 + 1 + 1, 3, none⟩ (.slice A5 lh.length c5)).setCell ⟨G + 1 + 1 + 1, 4, none⟩ (.int .i64 (t)) = Wf at *
        have z0 := block_cell R (i := 0) rfl
        have z1 := block_cell R (i := 1) rfl
        have z2 := block_cell R (i := 2) rfl
        have z3 := block_cell R (i := 3) rfl
        have z4 := block_cell R (i := 4) rfl
        refine bodyPost_ret (v := .tuple #[.agg #[.int .i64 h.view, .int .i64 h.height, .string h.block, .slice A5 lh.length c5, .int .i64 (t)], .bool false]) (by simp [results, Try.results26, go_sem, z0, z1, z2, z3, z4]) rfl ?_
        exact ⟨⟨A5, c5, rfl, k1, k2, rz⟩, bz⟩
  case pos =>
    subst hz
    obtain rfl : bb = hi := by rw [← HBB.out]; simp
    clear HBB
    cases bb
    case false =>
      refine wp_region_invA (by kernel_rfl) (by kernel_rfl) Rb (tkB G m h A A2 Ar l.length lh.length roots.length c c2 cr q 0 false) rb_refl rb_trans ⟨?_, ?_, ?_, ?_, ?_, ?_, ?_, ?_, ?_, ?_, ?_, ?_, ?_, ?_, ?_, ?_, trivial⟩ ?_
      · intro Fr u hN hO w1 hR hdep K hK
        rw [if_pos (by rfl)]
        have y5 : Fr.tmps[5]? = some (.pointer (some ⟨G + 1 + 1, 0, none⟩)) := hO 5 _ rfl rfl
        clear hN hO hdep
        have gg := block_below hR HA2.out
        have z0 := block_cell gg (i := 0) rfl
        have z1 := block_cell gg (i := 1) rfl
        have z2 := block_cell gg (i := 2) rfl
        have z3 := block_cell gg (i := 3) rfl
        go_simp
        refine hK _ _ (rb_refl _) fun w3 h3 => ?_
        exact rfl
      · intro Fr u hN hO w1 hR hdep K hK
        rw [if_pos (by rfl)]
        have y4 : Fr.tmps[4]? = some (.pointer (some ⟨G + 1, 0, none⟩)) := hO 4 _ rfl rfl
        clear hN hO hdep
        go_simp
        refine hK _ _ (rb_refl _) fun w3 h3 => ?_
        exact rfl
      · intro Fr u hN hO w1 hR hdep K hK
        rw [if_pos (by rfl)]
        have x1 : Fr.tmps[9]? = some (u 1) := hN 1 _ 9 rfl rfl rfl
        rw [show u 1 = .pointer (some ⟨G + 1, 0, none⟩) from hdep 1 (by kernel_rfl) w1 (rb_refl _)] at x1
        clear hN hO hdep
        have gg := block_below hR HA1.out
        have z0 := block_cell gg (i := 0) rfl
        have z1 := block_cell gg (i := 1) rfl
        have z2 := block_cell gg (i := 2) rfl
        have z3 := block_cell gg (i := 3) rfl
        have z4 := block_cell gg (i := 4) rfl
        go_simp
        refine hK _ _ (rb_refl _) fun w3 h3 => ?_
        exact rfl
      · intro Fr u hN hO w1 hR hdep K hK
        rw [if_pos (by rfl)]
        have y4 : Fr.tmps[4]? = some (.pointer (some ⟨G + 1, 0, none⟩)) := hO 4 _ rfl rfl
        clear hN hO hdep
        go_simp
        refine hK _ _ (rb_refl _) fun w3 h3 => ?_
        exact rfl
      · intro Fr u hN hO w1 hR hdep K hK
        rw [if_pos (by rfl)]
        have x3 : Fr.tmps[11]? = some (u 3) := hN 3 _ 11 rfl rfl rfl
        rw [show u 3 = .pointer (some ⟨G + 1, 2, none⟩) from hdep 3 (by kernel_rfl) w1 (rb_refl _)] at x3
        clear hN hO hdep
        have gg := block_below hR HA1.out
        have z0 := block_cell gg (i := 0) rfl
        have z1 := block_cell gg (i := 1) rfl
        have z2 := block_cell gg (i := 2) rfl
        have z3 := block_cell gg (i := 3) rfl
        have z4 := block_cell gg (i := 4) rfl
        go_simp
        refine hK _ _ (rb_refl _) fun w3 h3 => ?_
        exact rfl
      · intro Fr u hN hO w1 hR hdep K hK
        rw [if_pos (by rfl)]
        have x0 : Fr.tmps[8]? = some (u 0) := hN 0 _ 8 rfl rfl rfl
        rw [show u 0 = .agg #[.int .i64 m.view, .int .i64 m.height, .string m.block, .slice A2 l.length c2] from hdep 0 (by kernel_rfl) w1 (rb_refl _)] at x0
        have x2 : Fr.tmps[10]? = some (u 2) := hN 2 _ 10 rfl rfl rfl
        rw [show u 2 = .slice Ar roots.length cr from hdep 2 (by kernel_rfl) w1 (rb_refl _)] at x2
        have x4 : Fr.tmps[12]? = some (u 4) := hN 4 _ 12 rfl rfl rfl
        rw [show u 4 = .int .i64 q from hdep 4 (by kernel_rfl) w1 (rb_refl _)] at x4
        clear hN hO hdep
        go_simp
        refine (HCK.out w1 (Kd.row_below hR HROW.out) (Kd.row_below hR HRR.out)).mono ?_
        rintro x w2 ⟨rfl, b2⟩
        refine hK _ _ b2 fun w3 h3 => ?_
        exact rfl
      · intro Fr u hN hO w1 hR hdep K hK
        rw [if_pos (by rfl)]
        have x5 : Fr.tmps[13]? = some (u 5) := hN 5 _ 13 rfl rfl rfl
        rw [show u 5 = .int .i64 0 from hdep 5 (by kernel_rfl) w1 (rb_refl _)] at x5
        clear hN hO hdep
        go_simp
        refine hK _ _ (rb_refl _) fun w3 h3 => ?_
        exact rfl
      · intro Fr u hN hO w1 hR hdep K hK
        rw [if_pos (by rfl)]
        have x6 : Fr.tmps[14]? = some (u 6) := hN 6 _ 14 rfl rfl rfl
        rw [show u 6 = .bool false from hdep 6 (by kernel_rfl) w1 (rb_refl _)] at x6
        clear hN hO hdep
        go_simp
        refine hK _ _ (rb_refl _) fun w3 h3 => ?_
        exact rfl
      · intro Fr u hN hO w1 hR hdep K hK
        have gx : Fr.tmps[15]? = some (u 7) := hN 7 _ 15 rfl rfl rfl
        rw [show u 7 = .bool false from hdep 7 (by kernel_rfl) w1 (rb_refl _)] at gx
        rw [if_pos (wanted_on (s := 15) rfl (by kernel_rfl) gx)]
        have y5 : Fr.tmps[5]? = some (.pointer (some ⟨G + 1 + 1, 0, none⟩)) := hO 5 _ rfl rfl
        clear hN hO hdep gx
        have gg := block_below hR HA2.out
        have z0 := block_cell gg (i := 0) rfl
        have z1 := block_cell gg (i := 1) rfl
        have z2 := block_cell gg (i := 2) rfl
        have z3 := block_cell gg (i := 3) rfl
        go_simp
        refine hK _ _ (rb_refl _) fun w3 h3 => ?_
        exact rfl
      · intro Fr u hN hO w1 hR hdep K hK
        have gx : Fr.tmps[15]? = some (u 7) := hN 7 _ 15 rfl rfl rfl
        rw [show u 7 = .bool false from hdep 7 (by kernel_rfl) w1 (rb_refl _)] at gx
        rw [if_pos (wanted_on (s := 15) rfl (by kernel_rfl) gx)]
        have x8 : Fr.tmps[16]? = some (u 8) := hN 8 _ 16 rfl rfl rfl
        rw [show u 8 = .agg #[.int .i64 m.view, .int .i64 m.height, .string m.block, .slice A2 l.length c2] from hdep 8 (by kernel_rfl) w1 (rb_refl _)] at x8
        clear hN hO hdep gx
        go_simp
        refine (cmark_calls m _ _ _ _).mono ?_
        rintro x w2 ⟨rfl, b2⟩
        refine hK _ _ b2 fun w3 h3 => ?_
        exact rfl
      · intro Fr u hN hO w1 hR hdep K hK
        have gx : Fr.tmps[15]? = some (u 7) := hN 7 _ 15 rfl rfl rfl
        rw [show u 7 = .bool false from hdep 7 (by kernel_rfl) w1 (rb_refl _)] at gx
        rw [if_pos (wanted_on (s := 15) rfl (by kernel_rfl) gx)]
        have y3 : Fr.tmps[3]? = some (.pointer (some ⟨G, 0, none⟩)) := hO 3 _ rfl rfl
        clear hN hO hdep gx
        go_simp
        refine hK _ _ (rb_refl _) fun w3 h3 => ?_
        exact rfl
      · intro Fr u hN hO w1 hR hdep K hK
        have gx : Fr.tmps[15]? = some (u 7) := hN 7 _ 15 rfl rfl rfl
        rw [show u 7 = .bool false from hdep 7 (by kernel_rfl) w1 (rb_refl _)] at gx
        rw [if_pos (wanted_on (s := 15) rfl (by kernel_rfl) gx)]
        have x10 : Fr.tmps[18]? = some (u 10) := hN 10 _ 18 rfl rfl rfl
        rw [show u 10 = .pointer (some ⟨G, 0, none⟩) from hdep 10 (by kernel_rfl) w1 (rb_refl _)] at x10
        clear hN hO hdep gx
        have gg := block_below hR HA0.out
        have z0 := block_cell gg (i := 0) rfl
        have z1 := block_cell gg (i := 1) rfl
        have z2 := block_cell gg (i := 2) rfl
        have z3 := block_cell gg (i := 3) rfl
        have z4 := block_cell gg (i := 4) rfl
        go_simp
        refine hK _ _ (rb_refl _) fun w3 h3 => ?_
        exact rfl
      · intro Fr u hN hO w1 hR hdep K hK
        have gx : Fr.tmps[15]? = some (u 7) := hN 7 _ 15 rfl rfl rfl
        rw [show u 7 = .bool false from hdep 7 (by kernel_rfl) w1 (rb_refl _)] at gx
        rw [if_pos (wanted_on (s := 15) rfl (by kernel_rfl) gx)]
        have x11 : Fr.tmps[19]? = some (u 11) := hN 11 _ 19 rfl rfl rfl
        rw [show u 11 = .agg #[.int .i64 h.view, .int .i64 h.height, .string h.block, .slice A lh.length c] from hdep 11 (by kernel_rfl) w1 (rb_refl _)] at x11
        clear hN hO hdep gx
        go_simp
        refine (cmark_calls h _ _ _ _).mono ?_
        rintro x w2 ⟨rfl, b2⟩
        refine hK _ _ b2 fun w3 h3 => ?_
        exact rfl
      · intro Fr u hN hO w1 hR hdep K hK
        have gx : Fr.tmps[15]? = some (u 7) := hN 7 _ 15 rfl rfl rfl
        rw [show u 7 = .bool false from hdep 7 (by kernel_rfl) w1 (rb_refl _)] at gx
        rw [if_pos (wanted_on (s := 15) rfl (by kernel_rfl) gx)]
        have x9 : Fr.tmps[17]? = some (u 9) := hN 9 _ 17 rfl rfl rfl
        rw [show u 9 = .agg #[.int .i64 m.view, .int .i64 m.height, .string m.block] from hdep 9 (by kernel_rfl) w1 (rb_refl _)] at x9
        have x12 : Fr.tmps[20]? = some (u 12) := hN 12 _ 20 rfl rfl rfl
        rw [show u 12 = .agg #[.int .i64 h.view, .int .i64 h.height, .string h.block] from hdep 12 (by kernel_rfl) w1 (rb_refl _)] at x12
        clear hN hO hdep gx
        go_simp
        refine (HH.out w1).mono ?_
        rintro x w2 ⟨rfl, g2⟩; have b2 := gd_below g2
        refine hK _ _ b2 fun w3 h3 => ?_
        exact rfl
      · intro Fr u hN hO w1 hR hdep K hK
        have gx : Fr.tmps[15]? = some (u 7) := hN 7 _ 15 rfl rfl rfl
        rw [show u 7 = .bool false from hdep 7 (by kernel_rfl) w1 (rb_refl _)] at gx
        rw [if_pos (wanted_on (s := 15) rfl (by kernel_rfl) gx)]
        have x13 : Fr.tmps[21]? = some (u 13) := hN 13 _ 21 rfl rfl rfl
        rw [show u 13 = .bool false from hdep 13 (by kernel_rfl) w1 (rb_refl _)] at x13
        clear hN hO hdep gx
        go_simp
        refine hK _ _ (rb_refl _) fun w3 h3 => ?_
        exact rfl
      · intro Fr u hN hO w1 hR hdep K hK
        rw [if_pos (by rfl)]
        have x7 : Fr.tmps[15]? = some (u 7) := hN 7 _ 15 rfl rfl rfl
        rw [show u 7 = .bool false from hdep 7 (by kernel_rfl) w1 (rb_refl _)] at x7
        have x14 : Fr.tmps[22]? = some (u 14) := hN 14 _ 22 rfl rfl rfl
        rw [show u 14 = .bool true from hdep 14 (by kernel_rfl) w1 (rb_refl _)] at x14
        clear hN hO hdep
        go_simp
        refine hK _ _ (rb_refl _) fun w3 h3 => ?_
        exact rfl
      · intro u w' hR hall
        have h15 : u 15 = .bool true := hall 15 (by decide)
        have bw : Below V.heap.size V w' := bl_trans (bl_drew (Below.refl _ _)) hR
        have bw2 := bl_trans q0 bw
        clear hall
        simp only [frameF, Act.put, List.setIfInBounds_toArray, List.set_cons_zero, List.set_cons_succ, Nat.reduceAdd, h15]
        clear h15
        have HB0 := Lib.hid (block_below bw HA0.out)
        have HB2 := Lib.hid (block_below bw HA2.out)
        have HB3 := Lib.hid (block_below bw HA3.out)
        have HROW2 := Lib.hid (Kd.row_below bw HROW.out)
        have HROH2 := Lib.hid (Kd.row_below bw HROH.out)
        clear HA0 HA1 HA2 HA3 HROW HROH HRR hR
        go_upto_region 2 with fail
        refine wp_region_any (by kernel_rfl) ?_
        refine wpAny_invt' [true, true, true, true, true, true, false, false] [6, 7] (by kernel_rfl) (by kernel_rfl) Rb (tk2 G h lh A c t t1) rb_refl rb_trans ⟨?_, ?_, ?_, ?_, ?_, ?_, trivial⟩ ?_
        · intro u w1 hR hdep K hK
          rw [if_pos (by rfl)]
          simp only [frameM, frameM_nil, Act.put, List.setIfInBounds_toArray, List.set_cons_zero, List.set_cons_succ, Nat.reduceAdd] at hK ⊢
          clear hdep
          go_simp
          refine hK _ _ (rb_refl _) fun w3 h3 => ?_
          exact rfl
        · intro u w1 hR hdep K hK
          rw [if_pos (by rfl)]
          simp only [frameM, frameM_nil, Act.put, List.setIfInBounds_toArray, List.set_cons_zero, List.set_cons_succ, Nat.reduceAdd] at hK ⊢
          have u0 : u 0 = .pointer (some ⟨G, 0, none⟩) := hdep 0 (by kernel_rfl) w1 (rb_refl _)
          have gg := block_below hR HB0.out
          have z0 := block_cell gg (i := 0) rfl
          have z1 := block_cell gg (i := 1) rfl
          have z2 := block_cell gg (i := 2) rfl
          have z3 := block_cell gg (i := 3) rfl
          have z4 := block_cell gg (i := 4) rfl
          simp only [u0] at hK ⊢
          clear u0 hdep
          go_simp
          refine hK _ _ (rb_refl _) fun w3 h3 => ?_
          exact rfl
        · intro u w1 hR hdep K hK
          rw [if_pos (by rfl)]
          simp only [frameM, frameM_nil, Act.put, List.setIfInBounds_toArray, List.set_cons_zero, List.set_cons_succ, Nat.reduceAdd] at hK ⊢
          have u1 : u 1 = .agg #[.int .i64 h.view, .int .i64 h.height, .string h.block, .slice A lh.length c] := hdep 1 (by kernel_rfl) w1 (rb_refl _)
          simp only [u1] at hK ⊢
          clear u1 hdep
          go_simp
          refine (HCH.out w1 (Kd.row_below hR HROH2.out)).mono ?_
          rintro e w2 ⟨⟨A5, c5, rfl, k1, k2, k3⟩, b2⟩
          refine hK _ _ b2 fun w3 h3 => ?_
          exact ⟨A5, c5, rfl, k1, k2, Kd.row_below h3 k3⟩
        · intro u w1 hR hdep K hK
          rw [if_pos (by rfl)]
          simp only [frameM, frameM_nil, Act.put, List.setIfInBounds_toArray, List.set_cons_zero, List.set_cons_succ, Nat.reduceAdd] at hK ⊢
          clear hdep
          go_simp
          refine hK _ _ (rb_refl _) fun w3 h3 => ?_
          exact rfl
        · intro u w1 hR hdep K hK
          rw [if_pos (by rfl)]
          simp only [frameM, frameM_nil, Act.put, List.setIfInBounds_toArray, List.set_cons_zero, List.set_cons_succ, Nat.reduceAdd] at hK ⊢
          have u3 : u 3 = .pointer (some ⟨G, 4, none⟩) := hdep 3 (by kernel_rfl) w1 (rb_refl _)
          have gg := block_below hR HB0.out
          have z0 := block_cell gg (i := 0) rfl
          have z1 := block_cell gg (i := 1) rfl
          have z2 := block_cell gg (i := 2) rfl
          have z3 := block_cell gg (i := 3) rfl
          have z4 := block_cell gg (i := 4) rfl
          simp only [u3] at hK ⊢
          clear u3 hdep
          go_simp
          refine hK _ _ (rb_refl _) fun w3 h3 => ?_
          exact rfl
        · intro u w1 hR hdep K hK
          rw [if_pos (by rfl)]
          simp only [frameM, frameM_nil, Act.put, List.setIfInBounds_toArray, List.set_cons_zero, List.set_cons_succ, Nat.reduceAdd] at hK ⊢
          obtain ⟨A5, c5, hu, k1, k2, k3⟩ := hdep 2 (by kernel_rfl) w1 (rb_refl _)
          have u4 : u 4 = .int .i64 (t) := hdep 4 (by kernel_rfl) w1 (rb_refl _)
          simp only [hu, u4] at hK ⊢
          clear hdep hu u4
          go_simp
          refine hK _ _ (rb_refl _) fun w3 h3 => ?_
          exact ⟨A5, c5, rfl, k1, k2, Kd.row_below h3 k3⟩
        · intro u w1 hR hall
          obtain ⟨A5, c5, e5, k1, k2, k3⟩ := hall 5 rfl
          have hb1 := bl_trans bw2 (bl_trans (bl_drew (Below.refl _ _)) hR)
          have g3 := block_below hR HB3.out
          have Y0 := block_cell g3 (i := 0) rfl
          have Y1 := block_cell g3 (i := 1) rfl
          have Y2 := block_cell g3 (i := 2) rfl
          have Y3 := block_cell g3 (i := 3) rfl
          have Y4 := block_cell g3 (i := 4) rfl
          have Z0 : w1.frozen? ⟨G + 1 + 1 + 1, 0, none⟩ = false := block_free g3
          have Z1 : w1.frozen? ⟨G + 1 + 1 + 1, 1, none⟩ = false := block_free g3
          have Z2 : w1.frozen? ⟨G + 1 + 1 + 1, 2, none⟩ = false := block_free g3
          have Z3 : w1.frozen? ⟨G + 1 + 1 + 1, 3, none⟩ = false := block_free g3
          have Z4 : w1.frozen? ⟨G + 1 + 1 + 1, 4, none⟩ = false := block_free g3
          change wpList _ _ _ ([_, _]) _ _
          simp only [frameM, frameM_nil, Act.put, List.setIfInBounds_toArray, List.set_cons_zero, List.set_cons_succ, Nat.reduceAdd, e5]
          clear hall e5
          go_wp2_with fail
          have R := res5 (p := .int .i64 h.view) (q := .int .i64 h.height) (r := .string h.block) (s := .slice A5 lh.length c5) (u := .int .i64 (t)) g3
          have le3 : w.heap.size ≤ G + 1 + 1 + 1 := by omega
          have bz := bel5 (p := .int .i64 h.view) (q := .int .i64 h.height) (r := .string h.block) (s := .slice A5 lh.length c5) (u := .int .i64 (t)) hb1 le3
          have rz := Kd.row_keep (keep5 (E := [28]) (p := .int .i64 h.view) (q := .int .i64 h.height) (r := .string h.block) (s := .slice A5 lh.length c5) (u := .int .i64 (t)) g3 (Nat.zero_le _) (by decide)) k3
          generalize ((((w1.setCell ⟨G + 1 + 1 + 1, 0, none⟩ (.int .i64 h.view)).setCell ⟨G + 1 + 1 + 1, 1, none⟩ (.int .i64 h.height)).setCell ⟨G + 1 + 1 + 1, 2, none⟩ (.string h.block)).setCell ⟨G + 1 + 1 + 1, 3, none⟩ (.slice A5 lh.length c5)).setCell ⟨G + 1 + 1 + 1, 4, none⟩ (.int .i64 (t)) = Wf at *
          have z0 := block_cell R (i := 0) rfl
          have z1 := block_cell R (i := 1) rfl
          have z2 := block_cell R (i := 2) rfl
          have z3 := block_cell R (i := 3) rfl
          have z4 := block_cell R (i := 4) rfl
          refine bodyPost_ret (v := .tuple #[.agg #[.int .i64 h.view, .int .i64 h.height, .string h.block, .slice A5 lh.length c5, .int .i64 (t)], .bool false]) (by simp [results, Try.results26, go_sem, z0, z1, z2, z3, z4]) rfl ?_
          exact ⟨⟨A5, c5, rfl, k1, k2, rz⟩, bz⟩
    case true =>
      refine wp_region_invA (by kernel_rfl) (by kernel_rfl) Rb (tkB G m h A A2 Ar l.length lh.length roots.length c c2 cr q 0 true) rb_refl rb_trans ⟨?_, ?_, ?_, ?_, ?_, ?_, ?_, ?_, ?_, ?_, ?_, ?_, ?_, ?_, ?_, ?_, trivial⟩ ?_
      · intro Fr u hN hO w1 hR hdep K hK
        rw [if_pos (by rfl)]
        have y5 : Fr.tmps[5]? = some (.pointer (some ⟨G + 1 + 1, 0, none⟩)) := hO 5 _ rfl rfl
        clear hN hO hdep
        have gg := block_below hR HA2.out
        have z0 := block_cell gg (i := 0) rfl
        have z1 := block_cell gg (i := 1) rfl
        have z2 := block_cell gg (i := 2) rfl
        have z3 := block_cell gg (i := 3) rfl
        go_simp
        refine hK _ _ (rb_refl _) fun w3 h3 => ?_
        exact rfl
      · intro Fr u hN hO w1 hR hdep K hK
        rw [if_pos (by rfl)]
        have y4 : Fr.tmps[4]? = some (.pointer (some ⟨G + 1, 0, none⟩)) := hO 4 _ rfl rfl
        clear hN hO hdep
        go_simp
        refine hK _ _ (rb_refl _) fun w3 h3 => ?_
        exact rfl
      · intro Fr u hN hO w1 hR hdep K hK
        rw [if_pos (by rfl)]
        have x1 : Fr.tmps[9]? = some (u 1) := hN 1 _ 9 rfl rfl rfl
        rw [show u 1 = .pointer (some ⟨G + 1, 0, none⟩) from hdep 1 (by kernel_rfl) w1 (rb_refl _)] at x1
        clear hN hO hdep
        have gg := block_below hR HA1.out
        have z0 := block_cell gg (i := 0) rfl
        have z1 := block_cell gg (i := 1) rfl
        have z2 := block_cell gg (i := 2) rfl
        have z3 := block_cell gg (i := 3) rfl
        have z4 := block_cell gg (i := 4) rfl
        go_simp
        refine hK _ _ (rb_refl _) fun w3 h3 => ?_
        exact rfl
      · intro Fr u hN hO w1 hR hdep K hK
        rw [if_pos (by rfl)]
        have y4 : Fr.tmps[4]? = some (.pointer (some ⟨G + 1, 0, none⟩)) := hO 4 _ rfl rfl
        clear hN hO hdep
        go_simp
        refine hK _ _ (rb_refl _) fun w3 h3 => ?_
        exact rfl
      · intro Fr u hN hO w1 hR hdep K hK
        rw [if_pos (by rfl)]
        have x3 : Fr.tmps[11]? = some (u 3) := hN 3 _ 11 rfl rfl rfl
        rw [show u 3 = .pointer (some ⟨G + 1, 2, none⟩) from hdep 3 (by kernel_rfl) w1 (rb_refl _)] at x3
        clear hN hO hdep
        have gg := block_below hR HA1.out
        have z0 := block_cell gg (i := 0) rfl
        have z1 := block_cell gg (i := 1) rfl
        have z2 := block_cell gg (i := 2) rfl
        have z3 := block_cell gg (i := 3) rfl
        have z4 := block_cell gg (i := 4) rfl
        go_simp
        refine hK _ _ (rb_refl _) fun w3 h3 => ?_
        exact rfl
      · intro Fr u hN hO w1 hR hdep K hK
        rw [if_pos (by rfl)]
        have x0 : Fr.tmps[8]? = some (u 0) := hN 0 _ 8 rfl rfl rfl
        rw [show u 0 = .agg #[.int .i64 m.view, .int .i64 m.height, .string m.block, .slice A2 l.length c2] from hdep 0 (by kernel_rfl) w1 (rb_refl _)] at x0
        have x2 : Fr.tmps[10]? = some (u 2) := hN 2 _ 10 rfl rfl rfl
        rw [show u 2 = .slice Ar roots.length cr from hdep 2 (by kernel_rfl) w1 (rb_refl _)] at x2
        have x4 : Fr.tmps[12]? = some (u 4) := hN 4 _ 12 rfl rfl rfl
        rw [show u 4 = .int .i64 q from hdep 4 (by kernel_rfl) w1 (rb_refl _)] at x4
        clear hN hO hdep
        go_simp
        refine (HCK.out w1 (Kd.row_below hR HROW.out) (Kd.row_below hR HRR.out)).mono ?_
        rintro x w2 ⟨rfl, b2⟩
        refine hK _ _ b2 fun w3 h3 => ?_
        exact rfl
      · intro Fr u hN hO w1 hR hdep K hK
        rw [if_pos (by rfl)]
        have x5 : Fr.tmps[13]? = some (u 5) := hN 5 _ 13 rfl rfl rfl
        rw [show u 5 = .int .i64 0 from hdep 5 (by kernel_rfl) w1 (rb_refl _)] at x5
        clear hN hO hdep
        go_simp
        refine hK _ _ (rb_refl _) fun w3 h3 => ?_
        exact rfl
      · intro Fr u hN hO w1 hR hdep K hK
        rw [if_pos (by rfl)]
        have x6 : Fr.tmps[14]? = some (u 6) := hN 6 _ 14 rfl rfl rfl
        rw [show u 6 = .bool false from hdep 6 (by kernel_rfl) w1 (rb_refl _)] at x6
        clear hN hO hdep
        go_simp
        refine hK _ _ (rb_refl _) fun w3 h3 => ?_
        exact rfl
      · intro Fr u hN hO w1 hR hdep K hK
        have gx : Fr.tmps[15]? = some (u 7) := hN 7 _ 15 rfl rfl rfl
        rw [show u 7 = .bool false from hdep 7 (by kernel_rfl) w1 (rb_refl _)] at gx
        rw [if_pos (wanted_on (s := 15) rfl (by kernel_rfl) gx)]
        have y5 : Fr.tmps[5]? = some (.pointer (some ⟨G + 1 + 1, 0, none⟩)) := hO 5 _ rfl rfl
        clear hN hO hdep gx
        have gg := block_below hR HA2.out
        have z0 := block_cell gg (i := 0) rfl
        have z1 := block_cell gg (i := 1) rfl
        have z2 := block_cell gg (i := 2) rfl
        have z3 := block_cell gg (i := 3) rfl
        go_simp
        refine hK _ _ (rb_refl _) fun w3 h3 => ?_
        exact rfl
      · intro Fr u hN hO w1 hR hdep K hK
        have gx : Fr.tmps[15]? = some (u 7) := hN 7 _ 15 rfl rfl rfl
        rw [show u 7 = .bool false from hdep 7 (by kernel_rfl) w1 (rb_refl _)] at gx
        rw [if_pos (wanted_on (s := 15) rfl (by kernel_rfl) gx)]
        have x8 : Fr.tmps[16]? = some (u 8) := hN 8 _ 16 rfl rfl rfl
        rw [show u 8 = .agg #[.int .i64 m.view, .int .i64 m.height, .string m.block, .slice A2 l.length c2] from hdep 8 (by kernel_rfl) w1 (rb_refl _)] at x8
        clear hN hO hdep gx
        go_simp
        refine (cmark_calls m _ _ _ _).mono ?_
        rintro x w2 ⟨rfl, b2⟩
        refine hK _ _ b2 fun w3 h3 => ?_
        exact rfl
      · intro Fr u hN hO w1 hR hdep K hK
        have gx : Fr.tmps[15]? = some (u 7) := hN 7 _ 15 rfl rfl rfl
        rw [show u 7 = .bool false from hdep 7 (by kernel_rfl) w1 (rb_refl _)] at gx
        rw [if_pos (wanted_on (s := 15) rfl (by kernel_rfl) gx)]
        have y3 : Fr.tmps[3]? = some (.pointer (some ⟨G, 0, none⟩)) := hO 3 _ rfl rfl
        clear hN hO hdep gx
        go_simp
        refine hK _ _ (rb_refl _) fun w3 h3 => ?_
        exact rfl
      · intro Fr u hN hO w1 hR hdep K hK
        have gx : Fr.tmps[15]? = some (u 7) := hN 7 _ 15 rfl rfl rfl
        rw [show u 7 = .bool false from hdep 7 (by kernel_rfl) w1 (rb_refl _)] at gx
        rw [if_pos (wanted_on (s := 15) rfl (by kernel_rfl) gx)]
        have x10 : Fr.tmps[18]? = some (u 10) := hN 10 _ 18 rfl rfl rfl
        rw [show u 10 = .pointer (some ⟨G, 0, none⟩) from hdep 10 (by kernel_rfl) w1 (rb_refl _)] at x10
        clear hN hO hdep gx
        have gg := block_below hR HA0.out
        have z0 := block_cell gg (i := 0) rfl
        have z1 := block_cell gg (i := 1) rfl
        have z2 := block_cell gg (i := 2) rfl
        have z3 := block_cell gg (i := 3) rfl
        have z4 := block_cell gg (i := 4) rfl
        go_simp
        refine hK _ _ (rb_refl _) fun w3 h3 => ?_
        exact rfl
      · intro Fr u hN hO w1 hR hdep K hK
        have gx : Fr.tmps[15]? = some (u 7) := hN 7 _ 15 rfl rfl rfl
        rw [show u 7 = .bool false from hdep 7 (by kernel_rfl) w1 (rb_refl _)] at gx
        rw [if_pos (wanted_on (s := 15) rfl (by kernel_rfl) gx)]
        have x11 : Fr.tmps[19]? = some (u 11) := hN 11 _ 19 rfl rfl rfl
        rw [show u 11 = .agg #[.int .i64 h.view, .int .i64 h.height, .string h.block, .slice A lh.length c] from hdep 11 (by kernel_rfl) w1 (rb_refl _)] at x11
        clear hN hO hdep gx
        go_simp
        refine (cmark_calls h _ _ _ _).mono ?_
        rintro x w2 ⟨rfl, b2⟩
        refine hK _ _ b2 fun w3 h3 => ?_
        exact rfl
      · intro Fr u hN hO w1 hR hdep K hK
        have gx : Fr.tmps[15]? = some (u 7) := hN 7 _ 15 rfl rfl rfl
        rw [show u 7 = .bool false from hdep 7 (by kernel_rfl) w1 (rb_refl _)] at gx
        rw [if_pos (wanted_on (s := 15) rfl (by kernel_rfl) gx)]
        have x9 : Fr.tmps[17]? = some (u 9) := hN 9 _ 17 rfl rfl rfl
        rw [show u 9 = .agg #[.int .i64 m.view, .int .i64 m.height, .string m.block] from hdep 9 (by kernel_rfl) w1 (rb_refl _)] at x9
        have x12 : Fr.tmps[20]? = some (u 12) := hN 12 _ 20 rfl rfl rfl
        rw [show u 12 = .agg #[.int .i64 h.view, .int .i64 h.height, .string h.block] from hdep 12 (by kernel_rfl) w1 (rb_refl _)] at x12
        clear hN hO hdep gx
        go_simp
        refine (HH.out w1).mono ?_
        rintro x w2 ⟨rfl, g2⟩; have b2 := gd_below g2
        refine hK _ _ b2 fun w3 h3 => ?_
        exact rfl
      · intro Fr u hN hO w1 hR hdep K hK
        have gx : Fr.tmps[15]? = some (u 7) := hN 7 _ 15 rfl rfl rfl
        rw [show u 7 = .bool false from hdep 7 (by kernel_rfl) w1 (rb_refl _)] at gx
        rw [if_pos (wanted_on (s := 15) rfl (by kernel_rfl) gx)]
        have x13 : Fr.tmps[21]? = some (u 13) := hN 13 _ 21 rfl rfl rfl
        rw [show u 13 = .bool true from hdep 13 (by kernel_rfl) w1 (rb_refl _)] at x13
        clear hN hO hdep gx
        go_simp
        refine hK _ _ (rb_refl _) fun w3 h3 => ?_
        exact rfl
      · intro Fr u hN hO w1 hR hdep K hK
        rw [if_pos (by rfl)]
        have x7 : Fr.tmps[15]? = some (u 7) := hN 7 _ 15 rfl rfl rfl
        rw [show u 7 = .bool false from hdep 7 (by kernel_rfl) w1 (rb_refl _)] at x7
        have x14 : Fr.tmps[22]? = some (u 14) := hN 14 _ 22 rfl rfl rfl
        rw [show u 14 = .bool false from hdep 14 (by kernel_rfl) w1 (rb_refl _)] at x14
        clear hN hO hdep
        go_simp
        refine hK _ _ (rb_refl _) fun w3 h3 => ?_
        exact rfl
      · intro u w' hR hall
        have h15 : u 15 = .bool false := hall 15 (by decide)
        have bw : Below V.heap.size V w' := bl_trans (bl_drew (Below.refl _ _)) hR
        have bw2 := bl_trans q0 bw
        clear hall
        simp only [frameF, Act.put, List.setIfInBounds_toArray, List.set_cons_zero, List.set_cons_succ, Nat.reduceAdd, h15]
        clear h15
        have HB0 := Lib.hid (block_below bw HA0.out)
        have HB2 := Lib.hid (block_below bw HA2.out)
        have HB3 := Lib.hid (block_below bw HA3.out)
        have HROW2 := Lib.hid (Kd.row_below bw HROW.out)
        have HROH2 := Lib.hid (Kd.row_below bw HROH.out)
        clear HA0 HA1 HA2 HA3 HROW HROH HRR hR
        go_upto_region 3 with fail
        refine wp_region_any (by kernel_rfl) ?_
        refine wpAny_invt' [true, true, true, true, true, true, false, false] [6, 7] (by kernel_rfl) (by kernel_rfl) Rb (tk3 G m l A2 c2 t t1) rb_refl rb_trans ⟨?_, ?_, ?_, ?_, ?_, ?_, trivial⟩ ?_
        · intro u w1 hR hdep K hK
          rw [if_pos (by rfl)]
          simp only [frameM, frameM_nil, Act.put, List.setIfInBounds_toArray, List.set_cons_zero, List.set_cons_succ, Nat.reduceAdd] at hK ⊢
          have gg := block_below hR HB2.out
          have z0 := block_cell gg (i := 0) rfl
          have z1 := block_cell gg (i := 1) rfl
          have z2 := block_cell gg (i := 2) rfl
          have z3 := block_cell gg (i := 3) rfl
          clear hdep
          go_simp
          refine hK _ _ (rb_refl _) fun w3 h3 => ?_
          exact rfl
        · intro u w1 hR hdep K hK
          rw [if_pos (by rfl)]
          simp only [frameM, frameM_nil, Act.put, List.setIfInBounds_toArray, List.set_cons_zero, List.set_cons_succ, Nat.reduceAdd] at hK ⊢
          have u0 : u 0 = .agg #[.int .i64 m.view, .int .i64 m.height, .string m.block, .slice A2 l.length c2] := hdep 0 (by kernel_rfl) w1 (rb_refl _)
          simp only [u0] at hK ⊢
          clear u0 hdep
          go_simp
          refine (HCX.out w1 (Kd.row_below hR HROW2.out)).mono ?_
          rintro e w2 ⟨⟨A5, c5, rfl, k1, k2, k3⟩, b2⟩
          refine hK _ _ b2 fun w3 h3 => ?_
          exact ⟨A5, c5, rfl, k1, k2, Kd.row_below h3 k3⟩
        · intro u w1 hR hdep K hK
          rw [if_pos (by rfl)]
          simp only [frameM, frameM_nil, Act.put, List.setIfInBounds_toArray, List.set_cons_zero, List.set_cons_succ, Nat.reduceAdd] at hK ⊢
          clear hdep
          go_simp
          refine hK _ _ (rb_refl _) fun w3 h3 => ?_
          exact rfl
        · intro u w1 hR hdep K hK
          rw [if_pos (by rfl)]
          simp only [frameM, frameM_nil, Act.put, List.setIfInBounds_toArray, List.set_cons_zero, List.set_cons_succ, Nat.reduceAdd] at hK ⊢
          have u2 : u 2 = .pointer (some ⟨G, 4, none⟩) := hdep 2 (by kernel_rfl) w1 (rb_refl _)
          have gg := block_below hR HB0.out
          have z0 := block_cell gg (i := 0) rfl
          have z1 := block_cell gg (i := 1) rfl
          have z2 := block_cell gg (i := 2) rfl
          have z3 := block_cell gg (i := 3) rfl
          have z4 := block_cell gg (i := 4) rfl
          simp only [u2] at hK ⊢
          clear u2 hdep
          go_simp
          refine hK _ _ (rb_refl _) fun w3 h3 => ?_
          exact rfl
        · intro u w1 hR hdep K hK
          rw [if_pos (by rfl)]
          simp only [frameM, frameM_nil, Act.put, List.setIfInBounds_toArray, List.set_cons_zero, List.set_cons_succ, Nat.reduceAdd] at hK ⊢
          have u3 : u 3 = .int .i64 t := hdep 3 (by kernel_rfl) w1 (rb_refl _)
          simp only [u3] at hK ⊢
          clear u3 hdep
          go_simp
          refine hK _ _ (rb_refl _) fun w3 h3 => ?_
          exact congrArg (Value.int .i64) HT.out
        · intro u w1 hR hdep K hK
          rw [if_pos (by rfl)]
          simp only [frameM, frameM_nil, Act.put, List.setIfInBounds_toArray, List.set_cons_zero, List.set_cons_succ, Nat.reduceAdd] at hK ⊢
          obtain ⟨A5, c5, hu, k1, k2, k3⟩ := hdep 1 (by kernel_rfl) w1 (rb_refl _)
          have u4 : u 4 = .int .i64 (t1) := hdep 4 (by kernel_rfl) w1 (rb_refl _)
          simp only [hu, u4] at hK ⊢
          clear hdep hu u4
          go_simp
          refine hK _ _ (rb_refl _) fun w3 h3 => ?_
          exact ⟨A5, c5, rfl, k1, k2, Kd.row_below h3 k3⟩
        · intro u w1 hR hall
          obtain ⟨A5, c5, e5, k1, k2, k3⟩ := hall 5 rfl
          have hb1 := bl_trans bw2 (bl_trans (bl_drew (Below.refl _ _)) hR)
          have g3 := block_below hR HB3.out
          have Y0 := block_cell g3 (i := 0) rfl
          have Y1 := block_cell g3 (i := 1) rfl
          have Y2 := block_cell g3 (i := 2) rfl
          have Y3 := block_cell g3 (i := 3) rfl
          have Y4 := block_cell g3 (i := 4) rfl
          have Z0 : w1.frozen? ⟨G + 1 + 1 + 1, 0, none⟩ = false := block_free g3
          have Z1 : w1.frozen? ⟨G + 1 + 1 + 1, 1, none⟩ = false := block_free g3
          have Z2 : w1.frozen? ⟨G + 1 + 1 + 1, 2, none⟩ = false := block_free g3
          have Z3 : w1.frozen? ⟨G + 1 + 1 + 1, 3, none⟩ = false := block_free g3
          have Z4 : w1.frozen? ⟨G + 1 + 1 + 1, 4, none⟩ = false := block_free g3
          change wpList _ _ _ ([_, _]) _ _
          simp only [frameM, frameM_nil, Act.put, List.setIfInBounds_toArray, List.set_cons_zero, List.set_cons_succ, Nat.reduceAdd, e5]
          clear hall e5
          go_wp2_with fail
          have R := res5 (p := .int .i64 m.view) (q := .int .i64 m.height) (r := .string m.block) (s := .slice A5 l.length c5) (u := .int .i64 (t1)) g3
          have le3 : w.heap.size ≤ G + 1 + 1 + 1 := by omega
          have bz := bel5 (p := .int .i64 m.view) (q := .int .i64 m.height) (r := .string m.block) (s := .slice A5 l.length c5) (u := .int .i64 (t1)) hb1 le3
          have rz := Kd.row_keep (keep5 (E := [28]) (p := .int .i64 m.view) (q := .int .i64 m.height) (r := .string m.block) (s := .slice A5 l.length c5) (u := .int .i64 (t1)) g3 (Nat.zero_le _) (by decide)) k3
          generalize ((((w1.setCell ⟨G + 1 + 1 + 1, 0, none⟩ (.int .i64 m.view)).setCell ⟨G + 1 + 1 + 1, 1, none⟩ (.int .i64 m.height)).setCell ⟨G + 1 + 1 + 1, 2, none⟩ (.string m.block)).setCell ⟨G + 1 + 1 + 1, 3, none⟩ (.slice A5 l.length c5)).setCell ⟨G + 1 + 1 + 1, 4, none⟩ (.int .i64 (t1)) = Wf at *
          have z0 := block_cell R (i := 0) rfl
          have z1 := block_cell R (i := 1) rfl
          have z2 := block_cell R (i := 2) rfl
          have z3 := block_cell R (i := 3) rfl
          have z4 := block_cell R (i := 4) rfl
          refine bodyPost_ret (v := .tuple #[.agg #[.int .i64 m.view, .int .i64 m.height, .string m.block, .slice A5 l.length c5, .int .i64 (t1)], .bool true]) (by simp [results, Try.results26, go_sem, z0, z1, z2, z3, z4]) rfl ?_
          exact ⟨⟨A5, c5, rfl, k1, k2, rz⟩, bz⟩
end Go.Proofs.Ytglneailkgminaa

