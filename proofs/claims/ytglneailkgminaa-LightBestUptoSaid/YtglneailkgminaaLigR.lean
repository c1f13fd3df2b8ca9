/- Package mootlaw36: the walk of LightTells. No claim of its own; no condition. -/
import Derived.Test.YtglneailkgminaaLigF
import Derived.Test.YtglneailkgminaaLigB
namespace Go.Proofs.Ytglneailkgminaa
open Go.ChangeShapes Go.WideShapes Go.ChangeAt Go.RowKit
set_option linter.unusedVariables false
set_option linter.unusedSimpArgs false
theorem firstB_size : firstB.size = 32 := by decide
theorem alive36_calls (w : World) : Calls Try.prog 31 #[] w fun e w' => e = .returned (.bool true) ∧ Below w.heap.size w w' := alive36_at firstB firstB_size firstmark_calls w
theorem take_no {m h : Mark} {l lh : List Vote} {t t1 : Int} {w : World} {e : Ending} {w' : World} (k : TakePost m h l lh t t1 false w e w') :
    (∃ A5 c5, e = .returned (.tuple #[.agg #[.int .i64 h.view, .int .i64 h.height, .string h.block, .slice A5 lh.length c5, .int .i64 t], .bool false]) ∧ kVote.Row 28 0 w' A5 lh) ∧ Below w.heap.size w w' := by
  obtain ⟨⟨A5, c5, h1, h2, h3, h4⟩, b⟩ := k
  exact ⟨⟨A5, c5, h1, h4⟩, b⟩
theorem take_yes {m h : Mark} {l lh : List Vote} {t t1 : Int} {w : World} {e : Ending} {w' : World} (k : TakePost m h l lh t t1 true w e w') :
    (∃ A5 c5, e = .returned (.tuple #[.agg #[.int .i64 m.view, .int .i64 m.height, .string m.block, .slice A5 l.length c5, .int .i64 t1], .bool true]) ∧ kVote.Row 28 0 w' A5 l) ∧ Below w.heap.size w w' := by
  obtain ⟨⟨A5, c5, h1, h2, h3, h4⟩, b⟩ := k
  exact ⟨⟨A5, c5, h1, h4⟩, b⟩
theorem far4 {X : World} {g b : Nat} {o : Obj} {p q r s : Value} (hn : b ≠ g) (h : X.heap[b]? = some o) :
    ((((X.setCell ⟨g, 0, none⟩ p).setCell ⟨g, 1, none⟩ q).setCell ⟨g, 2, none⟩ r).setCell ⟨g, 3, none⟩ s).heap[b]? = some o := by
  rw [Below.heap_setCell _ ⟨g, 3, none⟩ _ b hn, Below.heap_setCell _ ⟨g, 2, none⟩ _ b hn, Below.heap_setCell _ ⟨g, 1, none⟩ _ b hn, Below.heap_setCell _ ⟨g, 0, none⟩ _ b hn, h]
theorem rank_higher (x y : Mark) (w : World) : Calls Try.prog 27 #[.agg #[.int .i64 x.view, .int .i64 x.height, .string ⟨#[]⟩], .agg #[.int .i64 y.view, .int .i64 y.height, .string ⟨#[]⟩]] w fun e w' => e = .returned (.bool (higherF x y)) ∧ Below w.heap.size w w' := higher14_calls ⟨x.view, x.height, ⟨#[]⟩⟩ ⟨y.view, y.height, ⟨#[]⟩⟩ w
def ltA (G : Nat) (m h : Mark) (A A2 Ar : Option Addr) (nL nH nR c c2 cr : Nat) (q res : Int) (hi : Bool) : Nat → Value → World → Prop
  | 0, y, _ => y = .agg #[.int .i64 m.view, .int .i64 m.height, .string m.block, .slice A2 nL c2]
  | 1, y, _ => y = .pointer (some ⟨G + 1, 0, none⟩)
  | 2, y, _ => y = .slice Ar nR cr
  | 3, y, _ => y = .pointer (some ⟨G + 1, 2, none⟩)
  | 4, y, _ => y = .int .i64 q
  | 5, y, _ => y = .int .i64 res
  | 6, y, _ => y = .bool false
  | 7, y, _ => y = .bool false
  | 8, y, _ => y = undef
  | 9, y, _ => y = undef
  | 10, y, _ => y = undef
  | 11, y, _ => y = undef
  | 12, y, _ => y = undef
  | 13, y, _ => y = undef
  | 14, y, _ => y = .bool false
  | 15, y, _ => y = .bool false
  | _, _, _ => True
def ltB (G : Nat) (m h : Mark) (A A2 Ar : Option Addr) (nL nH nR c c2 cr : Nat) (q res : Int) (hi : Bool) : Nat → Value → World → Prop
  | 0, y, _ => y = .agg #[.int .i64 m.view, .int .i64 m.height, .string m.block, .slice A2 nL c2]
  | 1, y, _ => y = .pointer (some ⟨G + 1, 0, none⟩)
  | 2, y, _ => y = .slice Ar nR cr
  | 3, y, _ => y = .pointer (some ⟨G + 1, 2, none⟩)
  | 4, y, _ => y = .int .i64 q
  | 5, y, _ => y = .int .i64 0
  | 6, y, _ => y = .bool true
  | 7, y, _ => y = .bool true
  | 8, y, _ => y = .agg #[.int .i64 m.view, .int .i64 m.height, .string m.block, .slice A2 nL c2]
  | 9, y, _ => y = .agg #[.int .i64 m.view, .int .i64 m.height, .string ⟨#[]⟩]
  | 10, y, _ => y = .pointer (some ⟨G, 0, none⟩)
  | 11, y, _ => y = .agg #[.int .i64 h.view, .int .i64 h.height, .string h.block, .slice A nH c]
  | 12, y, _ => y = .agg #[.int .i64 h.view, .int .i64 h.height, .string ⟨#[]⟩]
  | 13, y, _ => y = .bool hi
  | 14, y, _ => y = .bool hi
  | 15, y, _ => y = .bool hi
  | _, _, _ => True
set_option maxHeartbeats 16000000 in
set_option maxRecDepth 100000 in
theorem lighttells_walk (m h : Mark) (l lh : List Vote) (roots ns : List ByteArray) (t t1 q base cap : Int) (ht1 : IntKind.i64.wrap (t + 1) = t1) (A A2 Ar Ac An : Option Addr) (c c2 cr nC cc cn B0 : Nat) (w : World) (hB0 : B0 ≤ w.heap.size) (hl : l.length ≤ 1048576) (hlh : lh.length ≤ 1048576) (hlr : roots.length ≤ 1048576) (hln : ns.length ≤ 1048576)
    (hr : kVote.Row 28 B0 w A2 l) (hrh : kVote.Row 28 B0 w A lh) (hrr : Kd.str.Row 9 B0 w Ar roots) (hrn : Kd.str.Row 9 B0 w An ns) :
    Calls Try.prog 6 #[.agg #[.int .i64 h.view, .int .i64 h.height, .string h.block, .slice A lh.length c, .int .i64 t], .agg #[.slice Ar roots.length cr, .slice Ac nC cc, .int .i64 q, .int .i64 base, .int .i64 cap], .agg #[.int .i64 m.view, .int .i64 m.height, .string m.block, .slice A2 l.length c2], .slice An ns.length cn] w fun e w' => e = .returned (.bool true) ∧ Below w.heap.size w w' := by
  have q0 := bl_alloc (bl_alloc (bl_alloc (Below.refl w.heap.size w) (.cells #[.int .i64 h.view, .int .i64 h.height, .string h.block, .slice A lh.length c, .int .i64 t] 55)) (.cells #[.slice Ar roots.length cr, .slice Ac nC cc, .int .i64 q, .int .i64 base, .int .i64 cap] 57)) (.cells #[.int .i64 m.view, .int .i64 m.height, .string m.block, .slice A2 l.length c2] 35)
  have a0 : (((w.alloc (.cells #[.int .i64 h.view, .int .i64 h.height, .string h.block, .slice A lh.length c, .int .i64 t] 55)).alloc (.cells #[.slice Ar roots.length cr, .slice Ac nC cc, .int .i64 q, .int .i64 base, .int .i64 cap] 57)).alloc (.cells #[.int .i64 m.view, .int .i64 m.height, .string m.block, .slice A2 l.length c2] 35)).heap[w.heap.size]? = some (.cells #[.int .i64 h.view, .int .i64 h.height, .string h.block, .slice A lh.length c, .int .i64 t] 55 (0, 0)) := alloc_old (alloc_old (alloc_new w _) _) _
  have a1 : (((w.alloc (.cells #[.int .i64 h.view, .int .i64 h.height, .string h.block, .slice A lh.length c, .int .i64 t] 55)).alloc (.cells #[.slice Ar roots.length cr, .slice Ac nC cc, .int .i64 q, .int .i64 base, .int .i64 cap] 57)).alloc (.cells #[.int .i64 m.view, .int .i64 m.height, .string m.block, .slice A2 l.length c2] 35)).heap[w.heap.size + 1]? = some (.cells #[.slice Ar roots.length cr, .slice Ac nC cc, .int .i64 q, .int .i64 base, .int .i64 cap] 57 (0, 0)) := by
    have := alloc_old (alloc_new (w.alloc (.cells #[.int .i64 h.view, .int .i64 h.height, .string h.block, .slice A lh.length c, .int .i64 t] 55)) (.cells #[.slice Ar roots.length cr, .slice Ac nC cc, .int .i64 q, .int .i64 base, .int .i64 cap] 57)) (.cells #[.int .i64 m.view, .int .i64 m.height, .string m.block, .slice A2 l.length c2] 35)
    rwa [World.size_alloc] at this
  have a2 : (((w.alloc (.cells #[.int .i64 h.view, .int .i64 h.height, .string h.block, .slice A lh.length c, .int .i64 t] 55)).alloc (.cells #[.slice Ar roots.length cr, .slice Ac nC cc, .int .i64 q, .int .i64 base, .int .i64 cap] 57)).alloc (.cells #[.int .i64 m.view, .int .i64 m.height, .string m.block, .slice A2 l.length c2] 35)).heap[w.heap.size + 1 + 1]? = some (.cells #[.int .i64 m.view, .int .i64 m.height, .string m.block, .slice A2 l.length c2] 35 (0, 0)) := by
    have := alloc_new ((w.alloc (.cells #[.int .i64 h.view, .int .i64 h.height, .string h.block, .slice A lh.length c, .int .i64 t] 55)).alloc (.cells #[.slice Ar roots.length cr, .slice Ac nC cc, .int .i64 q, .int .i64 base, .int .i64 cap] 57)) (.cells #[.int .i64 m.view, .int .i64 m.height, .string m.block, .slice A2 l.length c2] 35)
    rwa [World.size_alloc, World.size_alloc] at this
  have hrq := Kd.row_below q0 hr
  have hrhq := Kd.row_below q0 hrh
  have hrrq := Kd.row_below q0 hrr
  have hrnq := Kd.row_below q0 hrn
  obtain ⟨res, hres⟩ : ∃ r, chkC m l roots q = r := ⟨_, rfl⟩
  obtain ⟨hi, hhi⟩ : ∃ r, higherF m h = r := ⟨_, rfl⟩
  obtain ⟨bb, hbb⟩ : ∃ bb, ((res == 0) && hi) = bb := ⟨_, rfl⟩
  have hw : wantF m h l roots q = bb := by unfold wantF; rw [hres, hhi, hbb]
  have htk := fun (W : World) (h1 : kVote.Row 28 B0 W A2 l) (h2 : kVote.Row 28 B0 W A lh) (h3 : Kd.str.Row 9 B0 W Ar roots) (hB : B0 ≤ W.heap.size) => take_calls m h l lh roots t t1 q base cap ht1 A A2 Ar Ac c c2 cr nC cc B0 W hB hl hlh hlr h1 h2 h3
  have hrc := fun (W : World) (h1 : kVote.Row 28 B0 W A2 l) (h2 : Kd.str.Row 9 B0 W Ar roots) => refcert_calls m l roots q A2 Ar c2 cr B0 W hl hlr h1 h2
  have hh := fun W => rank_higher m h W
  simp only [hres] at hrc
  simp only [hhi] at hh
  simp only [hw] at htk
  have HTK0 := Lib.hid htk
  have HRC := Lib.hid hrc
  have HH := Lib.hid hh
  have HBB := Lib.hid hbb
  have HT := Lib.hid ht1
  have HB0 := Lib.hid (Nat.le_trans hB0 q0.size)
  clear htk hrc hh hr hrh hrr hrn hw hres hhi hbb ht1
  by_cases hz : res = 0
  case neg =>
    have hne : (res == 0) = false := by rw [beq_eq_false_iff_ne]; exact hz
    obtain rfl : bb = false := by rw [← HBB.out, hne]; rfl
    have HNE := Lib.hid hne
    clear hne hz HBB
    have HTK := Lib.hid fun W h1 h2 h3 hB => (HTK0.out W h1 h2 h3 hB).mono fun _ _ k => take_no k
    clear HTK0
    go_enter Try.func6, Try.ntmps6
    go_upto_region 1 with fail
    change Code.wp _ _ _ _ (((w.alloc (.cells #[.int .i64 h.view, .int .i64 h.height, .string h.block, .slice A lh.length c, .int .i64 t] 55)).alloc (.cells #[.slice Ar roots.length cr, .slice Ac nC cc, .int .i64 q, .int .i64 base, .int .i64 cap] 57)).alloc (.cells #[.int .i64 m.view, .int .i64 m.height, .string m.block, .slice A2 l.length c2] 35))
    obtain ⟨G, hG⟩ : ∃ G, w.heap.size = G := ⟨_, rfl⟩
    have leG : w.heap.size ≤ G := by omega
    generalize ((w.alloc (.cells #[.int .i64 h.view, .int .i64 h.height, .string h.block, .slice A lh.length c, .int .i64 t] 55)).alloc (.cells #[.slice Ar roots.length cr, .slice Ac nC cc, .int .i64 q, .int .i64 base, .int .i64 cap] 57)).alloc (.cells #[.int .i64 m.view, .int .i64 m.height, .string m.block, .slice A2 l.length c2] 35) = V at *
    simp only [hG] at a0 a1 a2 ⊢
    clear hG
    have x0 := block_cell a0 (i := 0) rfl
    have x1 := block_cell a0 (i := 1) rfl
    have x2 := block_cell a0 (i := 2) rfl
    have x3 := block_cell a0 (i := 3) rfl
    have x4 := block_cell a0 (i := 4) rfl
    have y0 := block_cell a1 (i := 0) rfl
    have y1 := block_cell a1 (i := 1) rfl
    have y2 := block_cell a1 (i := 2) rfl
    have y3 := block_cell a1 (i := 3) rfl
    have y4 := block_cell a1 (i := 4) rfl
    have z0 := block_cell a2 (i := 0) rfl
    have z1 := block_cell a2 (i := 1) rfl
    have z2 := block_cell a2 (i := 2) rfl
    have z3 := block_cell a2 (i := 3) rfl
    have HA0 := Lib.hid a0
    have HA1 := Lib.hid a1
    have HA2 := Lib.hid a2
    have HROW := Lib.hid hrq
    have HROH := Lib.hid hrhq
    have HRR := Lib.hid hrrq
    have HNR := Lib.hid hrnq
    clear a0 a1 a2 hrq hrhq hrrq hrnq
    go_upto_region 2 with (go_at_call 26; refine (HTK.out _ HROW.out HROH.out HRR.out HB0.out).mono ?_; rintro x w1 ⟨⟨A5, c5, rfl, k3⟩, b1⟩)
    have b2 : Below V.heap.size V (w1.alloc (.cells #[.int .i64 h.view, .int .i64 h.height, .string h.block, .slice A5 lh.length c5, .int .i64 t] 55)) := bl_alloc b1 _
    have k4 : kVote.Row 28 0 (w1.alloc (.cells #[.int .i64 h.view, .int .i64 h.height, .string h.block, .slice A5 lh.length c5, .int .i64 t] 55)) A5 lh := Kd.row_below (bl_alloc (Below.refl _ _) _) k3
    have a9 : (w1.alloc (.cells #[.int .i64 h.view, .int .i64 h.height, .string h.block, .slice A5 lh.length c5, .int .i64 t] 55)).heap[w1.heap.size]? = some (.cells #[.int .i64 h.view, .int .i64 h.height, .string h.block, .slice A5 lh.length c5, .int .i64 t] 55 (0, 0)) := alloc_new w1 _
    change Code.wp _ _ _ _ (w1.alloc (.cells #[.int .i64 h.view, .int .i64 h.height, .string h.block, .slice A5 lh.length c5, .int .i64 t] 55))
    obtain ⟨G9, hG9⟩ : ∃ G9, w1.heap.size = G9 := ⟨_, rfl⟩
    generalize w1.alloc (.cells #[.int .i64 h.view, .int .i64 h.height, .string h.block, .slice A5 lh.length c5, .int .i64 t] 55) = V2 at *
    simp only [hG9] at a9 ⊢
    clear hG9 b1 k3 x0 x1 x2 x3 x4 y0 y1 y2 y3 y4 z0 z1 z2 z3
    have HB0 := Lib.hid (block_below b2 HA0.out)
    have HB1 := Lib.hid (block_below b2 HA1.out)
    have HB2 := Lib.hid (block_below b2 HA2.out)
    have HROW2 := Lib.hid (Kd.row_below b2 HROW.out)
    have HROH2 := Lib.hid (Kd.row_below b2 HROH.out)
    have HRR2 := Lib.hid (Kd.row_below b2 HRR.out)
    have HNR2 := Lib.hid (Kd.row_below b2 HNR.out)
    have q2 := bl_trans q0 b2
    clear HA0 HA1 HA2 HROW HROH HRR HNR b2 HTK
    have HA0 := HB0
    have HA1 := HB1
    have HA2 := HB2
    have HROW := HROW2
    have HROH := HROH2
    have HRR := HRR2
    have HNR := HNR2
    have HA9 := Lib.hid a9
    have HK5 := Lib.hid k4
    clear HB0 HB1 HB2 HROW2 HROH2 HRR2 HNR2 a9 k4
    refine wp_region_invA (by kernel_rfl) (by kernel_rfl) Rb (ltA G m h A A2 Ar l.length lh.length roots.length c c2 cr q res false) rb_refl rb_trans ⟨?_, ?_, ?_, ?_, ?_, ?_, ?_, ?_, ?_, ?_, ?_, ?_, ?_, ?_, ?_, ?_, trivial⟩ ?_
    · intro Fr u hN hO w1 hR hdep K hK
      rw [if_pos (by rfl)]
      have y6 : Fr.tmps[6]? = some (.pointer (some ⟨G + 1 + 1, 0, none⟩)) := hO 6 _ rfl rfl
      clear hN hO hdep
      have gg := block_below hR HA2.out
      have z0 := block_cell gg (i := 0) rfl
      have z1 := block_cell gg (i := 1) rfl
      have z2 := block_cell gg (i := 2) rfl
      have z3 := block_cell gg (i := 3) rfl
      go_simp
      refine hK _ _ (rb_refl _) fun w3 h3 => ?_
      exact rfl
    · intro Fr u hN hO w1 hR hdep K hK
      rw [if_pos (by rfl)]
      have y5 : Fr.tmps[5]? = some (.pointer (some ⟨G + 1, 0, none⟩)) := hO 5 _ rfl rfl
      clear hN hO hdep
      go_simp
      refine hK _ _ (rb_refl _) fun w3 h3 => ?_
      exact rfl
    · intro Fr u hN hO w1 hR hdep K hK
      rw [if_pos (by rfl)]
      have x1 : Fr.tmps[24]? = some (u 1) := hN 1 _ 24 rfl rfl rfl
      rw [show u 1 = .pointer (some ⟨G + 1, 0, none⟩) from hdep 1 (by kernel_rfl) w1 (rb_refl _)] at x1
      clear hN hO hdep
      have gg := block_below hR HA1.out
      have z0 := block_cell gg (i := 0) rfl
      have z1 := block_cell gg (i := 1) rfl
      have z2 := block_cell gg (i := 2) rfl
      have z3 := block_cell gg (i := 3) rfl
      have z4 := block_cell gg (i := 4) rfl
      go_simp
      refine hK _ _ (rb_refl _) fun w3 h3 => ?_
      exact rfl
    · intro Fr u hN hO w1 hR hdep K hK
      rw [if_pos (by rfl)]
      have y5 : Fr.tmps[5]? = some (.pointer (some ⟨G + 1, 0, none⟩)) := hO 5 _ rfl rfl
      clear hN hO hdep
      go_simp
      refine hK _ _ (rb_refl _) fun w3 h3 => ?_
      exact rfl
    · intro Fr u hN hO w1 hR hdep K hK
      rw [if_pos (by rfl)]
      have x3 : Fr.tmps[26]? = some (u 3) := hN 3 _ 26 rfl rfl rfl
      rw [show u 3 = .pointer (some ⟨G + 1, 2, none⟩) from hdep 3 (by kernel_rfl) w1 (rb_refl _)] at x3
      clear hN hO hdep
      have gg := block_below hR HA1.out
      have z0 := block_cell gg (i := 0) rfl
      have z1 := block_cell gg (i := 1) rfl
      have z2 := block_cell gg (i := 2) rfl
      have z3 := block_cell gg (i := 3) rfl
      have z4 := block_cell gg (i := 4) rfl
      go_simp
      refine hK _ _ (rb_refl _) fun w3 h3 => ?_
      exact rfl
    · intro Fr u hN hO w1 hR hdep K hK
      rw [if_pos (by rfl)]
      have x0 : Fr.tmps[23]? = some (u 0) := hN 0 _ 23 rfl rfl rfl
      rw [show u 0 = .agg #[.int .i64 m.view, .int .i64 m.height, .string m.block, .slice A2 l.length c2] from hdep 0 (by kernel_rfl) w1 (rb_refl _)] at x0
      have x2 : Fr.tmps[25]? = some (u 2) := hN 2 _ 25 rfl rfl rfl
      rw [show u 2 = .slice Ar roots.length cr from hdep 2 (by kernel_rfl) w1 (rb_refl _)] at x2
      have x4 : Fr.tmps[27]? = some (u 4) := hN 4 _ 27 rfl rfl rfl
      rw [show u 4 = .int .i64 q from hdep 4 (by kernel_rfl) w1 (rb_refl _)] at x4
      clear hN hO hdep
      go_simp
      refine (HRC.out w1 (Kd.row_below hR HROW.out) (Kd.row_below hR HRR.out)).mono ?_
      rintro x w2 ⟨rfl, b2⟩
      refine hK _ _ b2 fun w3 h3 => ?_
      exact rfl
    · intro Fr u hN hO w1 hR hdep K hK
      rw [if_pos (by rfl)]
      have x5 : Fr.tmps[28]? = some (u 5) := hN 5 _ 28 rfl rfl rfl
      rw [show u 5 = .int .i64 res from hdep 5 (by kernel_rfl) w1 (rb_refl _)] at x5
      clear hN hO hdep
      have hne := HNE.out
      go_simp
      refine hK _ _ (rb_refl _) fun w3 h3 => ?_
      exact rfl
    · intro Fr u hN hO w1 hR hdep K hK
      rw [if_pos (by rfl)]
      have x6 : Fr.tmps[29]? = some (u 6) := hN 6 _ 29 rfl rfl rfl
      rw [show u 6 = .bool false from hdep 6 (by kernel_rfl) w1 (rb_refl _)] at x6
      clear hN hO hdep
      go_simp
      refine hK _ _ (rb_refl _) fun w3 h3 => ?_
      exact rfl
    · intro Fr u hN hO w1 hR hdep K hK
      have gx : Fr.tmps[30]? = some (u 7) := hN 7 _ 30 rfl rfl rfl
      rw [show u 7 = .bool false from hdep 7 (by kernel_rfl) w1 (rb_refl _)] at gx
      rw [if_neg (wanted_off (s := 30) rfl (by kernel_rfl) gx (by decide))]
      exact hK _ _ (rb_refl _) fun w3 h3 => rfl
    · intro Fr u hN hO w1 hR hdep K hK
      have gx : Fr.tmps[30]? = some (u 7) := hN 7 _ 30 rfl rfl rfl
      rw [show u 7 = .bool false from hdep 7 (by kernel_rfl) w1 (rb_refl _)] at gx
      rw [if_neg (wanted_off (s := 30) rfl (by kernel_rfl) gx (by decide))]
      exact hK _ _ (rb_refl _) fun w3 h3 => rfl
    · intro Fr u hN hO w1 hR hdep K hK
      have gx : Fr.tmps[30]? = some (u 7) := hN 7 _ 30 rfl rfl rfl
      rw [show u 7 = .bool false from hdep 7 (by kernel_rfl) w1 (rb_refl _)] at gx
      rw [if_neg (wanted_off (s := 30) rfl (by kernel_rfl) gx (by decide))]
      exact hK _ _ (rb_refl _) fun w3 h3 => rfl
    · intro Fr u hN hO w1 hR hdep K hK
      have gx : Fr.tmps[30]? = some (u 7) := hN 7 _ 30 rfl rfl rfl
      rw [show u 7 = .bool false from hdep 7 (by kernel_rfl) w1 (rb_refl _)] at gx
      rw [if_neg (wanted_off (s := 30) rfl (by kernel_rfl) gx (by decide))]
      exact hK _ _ (rb_refl _) fun w3 h3 => rfl
    · intro Fr u hN hO w1 hR hdep K hK
      have gx : Fr.tmps[30]? = some (u 7) := hN 7 _ 30 rfl rfl rfl
      rw [show u 7 = .bool false from hdep 7 (by kernel_rfl) w1 (rb_refl _)] at gx
      rw [if_neg (wanted_off (s := 30) rfl (by kernel_rfl) gx (by decide))]
      exact hK _ _ (rb_refl _) fun w3 h3 => rfl
    · intro Fr u hN hO w1 hR hdep K hK
      have gx : Fr.tmps[30]? = some (u 7) := hN 7 _ 30 rfl rfl rfl
      rw [show u 7 = .bool false from hdep 7 (by kernel_rfl) w1 (rb_refl _)] at gx
      rw [if_neg (wanted_off (s := 30) rfl (by kernel_rfl) gx (by decide))]
      exact hK _ _ (rb_refl _) fun w3 h3 => rfl
    · intro Fr u hN hO w1 hR hdep K hK
      rw [if_pos (by rfl)]
      have x7 : Fr.tmps[30]? = some (u 7) := hN 7 _ 30 rfl rfl rfl
      rw [show u 7 = .bool false from hdep 7 (by kernel_rfl) w1 (rb_refl _)] at x7
      have x13 : Fr.tmps[36]? = some (u 13) := hN 13 _ 36 rfl rfl rfl
      rw [show u 13 = undef from hdep 13 (by kernel_rfl) w1 (rb_refl _)] at x13
      clear hN hO hdep
      go_simp
      refine hK _ _ (rb_refl _) fun w3 h3 => ?_
      exact rfl
    · intro Fr u hN hO w1 hR hdep K hK
      rw [if_pos (by rfl)]
      have x14 : Fr.tmps[37]? = some (u 14) := hN 14 _ 37 rfl rfl rfl
      rw [show u 14 = .bool false from hdep 14 (by kernel_rfl) w1 (rb_refl _)] at x14
      clear hN hO hdep
      go_simp
      refine hK _ _ (rb_refl _) fun w3 h3 => ?_
      exact rfl
    · intro u w' hR hall
      have h15 : u 15 = .bool false := hall 15 (by decide)
      have bw : Below V2.heap.size V2 w' := bl_trans (bl_drew (Below.refl _ _)) hR
      clear hall
      simp only [frameF, Act.put, List.setIfInBounds_toArray, List.set_cons_zero, List.set_cons_succ, Nat.reduceAdd, h15]
      clear h15
      have g0 := block_below bw HA0.out
      have g2 := block_below bw HA2.out
      have g9 := block_below bw HA9.out
      have HROW2 := Lib.hid (Kd.row_below bw HROW.out)
      have HROH2 := Lib.hid (Kd.row_below bw HROH.out)
      have HNR2 := Lib.hid (Kd.row_below bw HNR.out)
      have HK52 := Lib.hid (Kd.row_below bw HK5.out)
      have q3 := bl_trans q2 bw
      clear HA0 HA1 HA2 HA9 HROW HROH HRR HNR HK5 hR bw q2
      have x0 := block_cell g0 (i := 0) rfl
      have x1 := block_cell g0 (i := 1) rfl
      have x2 := block_cell g0 (i := 2) rfl
      have x3 := block_cell g0 (i := 3) rfl
      have x4 := block_cell g0 (i := 4) rfl
      have y0 := block_cell g2 (i := 0) rfl
      have y1 := block_cell g2 (i := 1) rfl
      have y2 := block_cell g2 (i := 2) rfl
      have y3 := block_cell g2 (i := 3) rfl
      have ga := alloc_old g0 (.cells #[.int .i64 0, .int .i64 0, .string ⟨#[]⟩, .slice none 0 0] 35)
      have gb := alloc_old g2 (.cells #[.int .i64 0, .int .i64 0, .string ⟨#[]⟩, .slice none 0 0] 35)
      have xa0 := block_cell ga (i := 0) rfl
      have xa1 := block_cell ga (i := 1) rfl
      have xa2 := block_cell ga (i := 2) rfl
      have xa3 := block_cell ga (i := 3) rfl
      have xa4 := block_cell ga (i := 4) rfl
      have hGw : G < w'.heap.size := blk_lt g0
      go_upto_region 3 with fail
      go_region
      have b3 : Below w'.heap.size w' ((w'.alloc (.cells #[.int .i64 h.view, .int .i64 h.height, .string h.block, .slice A lh.length c] 35)).drew) := bl_drew (bl_alloc (Below.refl _ _) _)
      have g12 : ((w'.alloc (.cells #[.int .i64 h.view, .int .i64 h.height, .string h.block, .slice A lh.length c] 35)).drew).heap[w'.heap.size]? = some (.cells #[.int .i64 h.view, .int .i64 h.height, .string h.block, .slice A lh.length c] 35 (0, 0)) := alloc_new w' _
      have n12 : G9 ≠ w'.heap.size := by have := blk_lt g9; omega
      have q4 := bl_trans q3 b3
      have h0 := block_below b3 g0
      have h2 := block_below b3 g2
      have h9 := block_below b3 g9
      have HROW3 := Lib.hid (Kd.row_below b3 HROW2.out)
      have HROH3 := Lib.hid (Kd.row_below b3 HROH2.out)
      have HNR3 := Lib.hid (Kd.row_below b3 HNR2.out)
      have HK53 := Lib.hid (Kd.row_below b3 HK52.out)
      have lw : w.heap.size ≤ w'.heap.size := q3.size
      clear xa0 xa1 xa2 xa3 xa4 x0 x1 x2 x3 x4 y0 y1 y2 y3 ga gb g0 g2 g9 HROW2 HROH2 HNR2 HK52 b3 q3 hGw
      obtain ⟨G12, hG12⟩ : ∃ G12, w'.heap.size = G12 := ⟨_, rfl⟩
      generalize (w'.alloc (.cells #[.int .i64 h.view, .int .i64 h.height, .string h.block, .slice A lh.length c] 35)).drew = V3 at *
      simp only [hG12] at g12 n12 lw ⊢
      clear hG12
      have r12 := g12
      have r0 := h0
      have r9 := h9
      have q5 := q4
      have HROW := HROW3
      have HROH := HROH3
      have HNR := HNR3
      have HK5 := HK53
      clear g12 h0 h2 h9 q4 HROW3 HROH3 HNR3 HK53
      generalize V3 = V4 at *
      have HR0 := Lib.hid r0
      have HR9 := Lib.hid r9
      have HR12 := Lib.hid r12
      have HB4 : Hid (B0 ≤ V4.heap.size) := Lib.hid (Nat.le_trans hB0 q5.size)
      have x0 := block_cell r0 (i := 0) rfl
      have x1 := block_cell r0 (i := 1) rfl
      have x2 := block_cell r0 (i := 2) rfl
      have x3 := block_cell r0 (i := 3) rfl
      have x4 := block_cell r0 (i := 4) rfl
      have y0 := block_cell r9 (i := 0) rfl
      have y1 := block_cell r9 (i := 1) rfl
      have y2 := block_cell r9 (i := 2) rfl
      have y3 := block_cell r9 (i := 3) rfl
      have y4 := block_cell r9 (i := 4) rfl
      have z0 := block_cell r12 (i := 0) rfl
      have z1 := block_cell r12 (i := 1) rfl
      have z2 := block_cell r12 (i := 2) rfl
      have z3 := block_cell r12 (i := 3) rfl
      have HSC := Lib.hid fun W (b : Below V4.heap.size V4 W) => samecert_calls h lh A5 A _ _ c5 c W rfl rfl (by omega) (row_up (Nat.zero_le _) (Kd.row_below b HK5.out)) (row_up (Nat.le_trans HB4.out b.size) (Kd.row_below b HROH.out))
      by_cases h1 : h.height < 1
      · have hag : agreesF h.height h.block ns = true := by unfold agreesF; rw [if_pos h1]
        have h1' : ¬ (h.height ≥ 1) := by omega
        go_wp2_with (first
          | (go_at_call 29; refine (HSC.out _ (by first | exact Below.refl _ _ | exact bl_drewN (Below.refl _ _) _)).mono ?_; rintro x w5 ⟨rfl, b5⟩; have d5 : Below V4.heap.size V4 w5 := (by first | exact b5 | exact bl_trans (bl_drewN (Below.refl _ _) _) b5); have i0 := block_below d5 HR0.out; have i9 := block_below d5 HR9.out; have X0 := block_cell i0 (i := 0) rfl; have X1 := block_cell i0 (i := 1) rfl; have X2 := block_cell i0 (i := 2) rfl; have X3 := block_cell i0 (i := 3) rfl; have X4 := block_cell i0 (i := 4) rfl; have Y4 := block_cell i9 (i := 4) rfl; have HN5 := Lib.hid (Kd.row_below d5 HNR.out))
          | (go_at_call 30; refine (agrees_calls h A _ c t ns _ _ cn B0 _ rfl hln HN5.out).mono ?_; rw [hag]; rintro x w6 ⟨rfl, b6⟩)
          | (go_at_call 31; refine (alive36_calls _).mono ?_; rintro x w7 ⟨rfl, b7⟩))
        go_ret
        exact ⟨rfl, bl_trans q5 (bl_trans d5 (bl_trans b6 b7))⟩
      · have h1' : h.height ≥ 1 := by omega
        by_cases h2 : h.height > (ns.length : Int)
        · have hag : agreesF h.height h.block ns = true := by unfold agreesF; rw [if_neg h1, if_pos h2]
          have h2' : ¬ (h.height ≤ (ns.length : Int)) := by omega
          go_wp2_with (first
            | (go_at_call 29; refine (HSC.out _ (by first | exact Below.refl _ _ | exact bl_drewN (Below.refl _ _) _)).mono ?_; rintro x w5 ⟨rfl, b5⟩; have d5 : Below V4.heap.size V4 w5 := (by first | exact b5 | exact bl_trans (bl_drewN (Below.refl _ _) _) b5); have i0 := block_below d5 HR0.out; have i9 := block_below d5 HR9.out; have X0 := block_cell i0 (i := 0) rfl; have X1 := block_cell i0 (i := 1) rfl; have X2 := block_cell i0 (i := 2) rfl; have X3 := block_cell i0 (i := 3) rfl; have X4 := block_cell i0 (i := 4) rfl; have Y4 := block_cell i9 (i := 4) rfl; have HN5 := Lib.hid (Kd.row_below d5 HNR.out))
            | (go_at_call 30; refine (agrees_calls h A _ c t ns _ _ cn B0 _ rfl hln HN5.out).mono ?_; rw [hag]; rintro x w6 ⟨rfl, b6⟩)
            | (go_at_call 31; refine (alive36_calls _).mono ?_; rintro x w7 ⟨rfl, b7⟩))
          go_ret
          exact ⟨rfl, bl_trans q5 (bl_trans d5 (bl_trans b6 b7))⟩
        · have h2' : h.height ≤ (ns.length : Int) := by omega
          obtain ⟨k, hk⟩ : ∃ k : Nat, h.height = (k : Int) + 1 := ⟨(h.height - 1).toNat, by omega⟩
          obtain ⟨x, hx⟩ : ∃ x, ns[k]? = some x := ⟨_, List.getElem?_eq_getElem (by omega)⟩
          obtain ⟨ad, rfl, c0⟩ := str_at HNR.out hx
          obtain ⟨ag, hq⟩ : ∃ ag, (x.toList == h.block.toList) = ag := ⟨_, rfl⟩
          have hag : agreesF h.height h.block ns = ag := by
            unfold agreesF
            rw [if_neg h1, if_neg (by omega), hk, show ((k : Int) + 1 - 1).toNat = k by omega, hx]
            exact hq
          have hi1 : IntKind.i64.wrap (h.height - 1) = (k : Int) := by rw [hk, show (k : Int) + 1 - 1 = (k : Int) by omega]; exact IntWalk.i64_in _ (by omega)
          have hkl : (k : Int) < (ns.length : Int) := by omega
          have hk0 : (0 : Int) ≤ (k : Int) := by omega
          have HAG := Lib.hid hag
          clear hag hk hx h1 h2
          go_upto_region 9 with fail
          go_quiet (fail)
          go_wp2_with (first
            | (go_at_call 29; refine (HSC.out _ (by first | exact Below.refl _ _ | exact bl_drewN (Below.refl _ _) _)).mono ?_; rintro x w5 ⟨rfl, b5⟩; have d5 : Below V4.heap.size V4 w5 := (by first | exact b5 | exact bl_trans (bl_drewN (Below.refl _ _) _) b5); have i0 := block_below d5 HR0.out; have i9 := block_below d5 HR9.out; have X0 := block_cell i0 (i := 0) rfl; have X1 := block_cell i0 (i := 1) rfl; have X2 := block_cell i0 (i := 2) rfl; have X3 := block_cell i0 (i := 3) rfl; have X4 := block_cell i0 (i := 4) rfl; have Y4 := block_cell i9 (i := 4) rfl; have HN5 := Lib.hid (Kd.row_below d5 HNR.out))
            | (go_at_call 30; refine (agrees_calls h A _ c t ns _ _ cn B0 _ rfl hln HN5.out).mono ?_; rw [HAG.out]; rintro x w6 ⟨rfl, b6⟩)
            | (go_at_call 31; refine (alive36_calls _).mono ?_; rintro x w7 ⟨rfl, b7⟩))
          go_ret
          exact ⟨rfl, bl_trans q5 (bl_trans d5 (bl_trans b6 b7))⟩
  case pos =>
    subst hz
    obtain rfl : bb = hi := by rw [← HBB.out]; simp
    clear HBB
    cases bb
    case false =>
      have HTK := Lib.hid fun W h1 h2 h3 hB => (HTK0.out W h1 h2 h3 hB).mono fun _ _ k => take_no k
      clear HTK0
      go_enter Try.func6, Try.ntmps6
      go_upto_region 1 with fail
      change Code.wp _ _ _ _ (((w.alloc (.cells #[.int .i64 h.view, .int .i64 h.height, .string h.block, .slice A lh.length c, .int .i64 t] 55)).alloc (.cells #[.slice Ar roots.length cr, .slice Ac nC cc, .int .i64 q, .int .i64 base, .int .i64 cap] 57)).alloc (.cells #[.int .i64 m.view, .int .i64 m.height, .string m.block, .slice A2 l.length c2] 35))
      obtain ⟨G, hG⟩ : ∃ G, w.heap.size = G := ⟨_, rfl⟩
      have leG : w.heap.size ≤ G := by omega
      generalize ((w.alloc (.cells #[.int .i64 h.view, .int .i64 h.height, .string h.block, .slice A lh.length c, .int .i64 t] 55)).alloc (.cells #[.slice Ar roots.length cr, .slice Ac nC cc, .int .i64 q, .int .i64 base, .int .i64 cap] 57)).alloc (.cells #[.int .i64 m.view, .int .i64 m.height, .string m.block, .slice A2 l.length c2] 35) = V at *
      simp only [hG] at a0 a1 a2 ⊢
      clear hG
      have x0 := block_cell a0 (i := 0) rfl
      have x1 := block_cell a0 (i := 1) rfl
      have x2 := block_cell a0 (i := 2) rfl
      have x3 := block_cell a0 (i := 3) rfl
      have x4 := block_cell a0 (i := 4) rfl
      have y0 := block_cell a1 (i := 0) rfl
      have y1 := block_cell a1 (i := 1) rfl
      have y2 := block_cell a1 (i := 2) rfl
      have y3 := block_cell a1 (i := 3) rfl
      have y4 := block_cell a1 (i := 4) rfl
      have z0 := block_cell a2 (i := 0) rfl
      have z1 := block_cell a2 (i := 1) rfl
      have z2 := block_cell a2 (i := 2) rfl
      have z3 := block_cell a2 (i := 3) rfl
      have HA0 := Lib.hid a0
      have HA1 := Lib.hid a1
      have HA2 := Lib.hid a2
      have HROW := Lib.hid hrq
      have HROH := Lib.hid hrhq
      have HRR := Lib.hid hrrq
      have HNR := Lib.hid hrnq
      clear a0 a1 a2 hrq hrhq hrrq hrnq
      go_upto_region 2 with (go_at_call 26; refine (HTK.out _ HROW.out HROH.out HRR.out HB0.out).mono ?_; rintro x w1 ⟨⟨A5, c5, rfl, k3⟩, b1⟩)
      have b2 : Below V.heap.size V (w1.alloc (.cells #[.int .i64 h.view, .int .i64 h.height, .string h.block, .slice A5 lh.length c5, .int .i64 t] 55)) := bl_alloc b1 _
      have k4 : kVote.Row 28 0 (w1.alloc (.cells #[.int .i64 h.view, .int .i64 h.height, .string h.block, .slice A5 lh.length c5, .int .i64 t] 55)) A5 lh := Kd.row_below (bl_alloc (Below.refl _ _) _) k3
      have a9 : (w1.alloc (.cells #[.int .i64 h.view, .int .i64 h.height, .string h.block, .slice A5 lh.length c5, .int .i64 t] 55)).heap[w1.heap.size]? = some (.cells #[.int .i64 h.view, .int .i64 h.height, .string h.block, .slice A5 lh.length c5, .int .i64 t] 55 (0, 0)) := alloc_new w1 _
      change Code.wp _ _ _ _ (w1.alloc (.cells #[.int .i64 h.view, .int .i64 h.height, .string h.block, .slice A5 lh.length c5, .int .i64 t] 55))
      obtain ⟨G9, hG9⟩ : ∃ G9, w1.heap.size = G9 := ⟨_, rfl⟩
      generalize w1.alloc (.cells #[.int .i64 h.view, .int .i64 h.height, .string h.block, .slice A5 lh.length c5, .int .i64 t] 55) = V2 at *
      simp only [hG9] at a9 ⊢
      clear hG9 b1 k3 x0 x1 x2 x3 x4 y0 y1 y2 y3 y4 z0 z1 z2 z3
      have HB0 := Lib.hid (block_below b2 HA0.out)
      have HB1 := Lib.hid (block_below b2 HA1.out)
      have HB2 := Lib.hid (block_below b2 HA2.out)
      have HROW2 := Lib.hid (Kd.row_below b2 HROW.out)
      have HROH2 := Lib.hid (Kd.row_below b2 HROH.out)
      have HRR2 := Lib.hid (Kd.row_below b2 HRR.out)
      have HNR2 := Lib.hid (Kd.row_below b2 HNR.out)
      have q2 := bl_trans q0 b2
      clear HA0 HA1 HA2 HROW HROH HRR HNR b2 HTK
      have HA0 := HB0
      have HA1 := HB1
      have HA2 := HB2
      have HROW := HROW2
      have HROH := HROH2
      have HRR := HRR2
      have HNR := HNR2
      have HA9 := Lib.hid a9
      have HK5 := Lib.hid k4
      clear HB0 HB1 HB2 HROW2 HROH2 HRR2 HNR2 a9 k4
      refine wp_region_invA (by kernel_rfl) (by kernel_rfl) Rb (ltB G m h A A2 Ar l.length lh.length roots.length c c2 cr q 0 false) rb_refl rb_trans ⟨?_, ?_, ?_, ?_, ?_, ?_, ?_, ?_, ?_, ?_, ?_, ?_, ?_, ?_, ?_, ?_, trivial⟩ ?_
      · intro Fr u hN hO w1 hR hdep K hK
        rw [if_pos (by rfl)]
        have y6 : Fr.tmps[6]? = some (.pointer (some ⟨G + 1 + 1, 0, none⟩)) := hO 6 _ rfl rfl
        clear hN hO hdep
        have gg := block_below hR HA2.out
        have z0 := block_cell gg (i := 0) rfl
        have z1 := block_cell gg (i := 1) rfl
        have z2 := block_cell gg (i := 2) rfl
        have z3 := block_cell gg (i := 3) rfl
        go_simp
        refine hK _ _ (rb_refl _) fun w3 h3 => ?_
        exact rfl
      · intro Fr u hN hO w1 hR hdep K hK
        rw [if_pos (by rfl)]
        have y5 : Fr.tmps[5]? = some (.pointer (some ⟨G + 1, 0, none⟩)) := hO 5 _ rfl rfl
        clear hN hO hdep
        go_simp
        refine hK _ _ (rb_refl _) fun w3 h3 => ?_
        exact rfl
      · intro Fr u hN hO w1 hR hdep K hK
        rw [if_pos (by rfl)]
        have x1 : Fr.tmps[24]? = some (u 1) := hN 1 _ 24 rfl rfl rfl
        rw [show u 1 = .pointer (some ⟨G + 1, 0, none⟩) from hdep 1 (by kernel_rfl) w1 (rb_refl _)] at x1
        clear hN hO hdep
        have gg := block_below hR HA1.out
        have z0 := block_cell gg (i := 0) rfl
        have z1 := block_cell gg (i := 1) rfl
        have z2 := block_cell gg (i := 2) rfl
        have z3 := block_cell gg (i := 3) rfl
        have z4 := block_cell gg (i := 4) rfl
        go_simp
        refine hK _ _ (rb_refl _) fun w3 h3 => ?_
        exact rfl
      · intro Fr u hN hO w1 hR hdep K hK
        rw [if_pos (by rfl)]
        have y5 : Fr.tmps[5]? = some (.pointer (some ⟨G + 1, 0, none⟩)) := hO 5 _ rfl rfl
        clear hN hO hdep
        go_simp
        refine hK _ _ (rb_refl _) fun w3 h3 => ?_
        exact rfl
      · intro Fr u hN hO w1 hR hdep K hK
        rw [if_pos (by rfl)]
        have x3 : Fr.tmps[26]? = some (u 3) := hN 3 _ 26 rfl rfl rfl
        rw [show u 3 = .pointer (some ⟨G + 1, 2, none⟩) from hdep 3 (by kernel_rfl) w1 (rb_refl _)] at x3
        clear hN hO hdep
        have gg := block_below hR HA1.out
        have z0 := block_cell gg (i := 0) rfl
        have z1 := block_cell gg (i := 1) rfl
        have z2 := block_cell gg (i := 2) rfl
        have z3 := block_cell gg (i := 3) rfl
        have z4 := block_cell gg (i := 4) rfl
        go_simp
        refine hK _ _ (rb_refl _) fun w3 h3 => ?_
        exact rfl
      · intro Fr u hN hO w1 hR hdep K hK
        rw [if_pos (by rfl)]
        have x0 : Fr.tmps[23]? = some (u 0) := hN 0 _ 23 rfl rfl rfl
        rw [show u 0 = .agg #[.int .i64 m.view, .int .i64 m.height, .string m.block, .slice A2 l.length c2] from hdep 0 (by kernel_rfl) w1 (rb_refl _)] at x0
        have x2 : Fr.tmps[25]? = some (u 2) := hN 2 _ 25 rfl rfl rfl
        rw [show u 2 = .slice Ar roots.length cr from hdep 2 (by kernel_rfl) w1 (rb_refl _)] at x2
        have x4 : Fr.tmps[27]? = some (u 4) := hN 4 _ 27 rfl rfl rfl
        rw [show u 4 = .int .i64 q from hdep 4 (by kernel_rfl) w1 (rb_refl _)] at x4
        clear hN hO hdep
        go_simp
        refine (HRC.out w1 (Kd.row_below hR HROW.out) (Kd.row_below hR HRR.out)).mono ?_
        rintro x w2 ⟨rfl, b2⟩
        refine hK _ _ b2 fun w3 h3 => ?_
        exact rfl
      · intro Fr u hN hO w1 hR hdep K hK
        rw [if_pos (by rfl)]
        have x5 : Fr.tmps[28]? = some (u 5) := hN 5 _ 28 rfl rfl rfl
        rw [show u 5 = .int .i64 0 from hdep 5 (by kernel_rfl) w1 (rb_refl _)] at x5
        clear hN hO hdep
        go_simp
        refine hK _ _ (rb_refl _) fun w3 h3 => ?_
        exact rfl
      · intro Fr u hN hO w1 hR hdep K hK
        rw [if_pos (by rfl)]
        have x6 : Fr.tmps[29]? = some (u 6) := hN 6 _ 29 rfl rfl rfl
        rw [show u 6 = .bool true from hdep 6 (by kernel_rfl) w1 (rb_refl _)] at x6
        clear hN hO hdep
        go_simp
        refine hK _ _ (rb_refl _) fun w3 h3 => ?_
        exact rfl
      · intro Fr u hN hO w1 hR hdep K hK
        have gx : Fr.tmps[30]? = some (u 7) := hN 7 _ 30 rfl rfl rfl
        rw [show u 7 = .bool true from hdep 7 (by kernel_rfl) w1 (rb_refl _)] at gx
        rw [if_pos (wanted_on (s := 30) rfl (by kernel_rfl) gx)]
        have y6 : Fr.tmps[6]? = some (.pointer (some ⟨G + 1 + 1, 0, none⟩)) := hO 6 _ rfl rfl
        clear hN hO hdep gx
        have gg := block_below hR HA2.out
        have z0 := block_cell gg (i := 0) rfl
        have z1 := block_cell gg (i := 1) rfl
        have z2 := block_cell gg (i := 2) rfl
        have z3 := block_cell gg (i := 3) rfl
        go_simp
        refine hK _ _ (rb_refl _) fun w3 h3 => ?_
        exact rfl
      · intro Fr u hN hO w1 hR hdep K hK
        have gx : Fr.tmps[30]? = some (u 7) := hN 7 _ 30 rfl rfl rfl
        rw [show u 7 = .bool true from hdep 7 (by kernel_rfl) w1 (rb_refl _)] at gx
        rw [if_pos (wanted_on (s := 30) rfl (by kernel_rfl) gx)]
        have x8 : Fr.tmps[31]? = some (u 8) := hN 8 _ 31 rfl rfl rfl
        rw [show u 8 = .agg #[.int .i64 m.view, .int .i64 m.height, .string m.block, .slice A2 l.length c2] from hdep 8 (by kernel_rfl) w1 (rb_refl _)] at x8
        clear hN hO hdep gx
        go_simp
        refine (rank_calls m _ _ _ _).mono ?_
        rintro x w2 ⟨rfl, b2⟩
        refine hK _ _ b2 fun w3 h3 => ?_
        exact rfl
      · intro Fr u hN hO w1 hR hdep K hK
        have gx : Fr.tmps[30]? = some (u 7) := hN 7 _ 30 rfl rfl rfl
        rw [show u 7 = .bool true from hdep 7 (by kernel_rfl) w1 (rb_refl _)] at gx
        rw [if_pos (wanted_on (s := 30) rfl (by kernel_rfl) gx)]
        have y4 : Fr.tmps[4]? = some (.pointer (some ⟨G, 0, none⟩)) := hO 4 _ rfl rfl
        clear hN hO hdep gx
        go_simp
        refine hK _ _ (rb_refl _) fun w3 h3 => ?_
        exact rfl
      · intro Fr u hN hO w1 hR hdep K hK
        have gx : Fr.tmps[30]? = some (u 7) := hN 7 _ 30 rfl rfl rfl
        rw [show u 7 = .bool true from hdep 7 (by kernel_rfl) w1 (rb_refl _)] at gx
        rw [if_pos (wanted_on (s := 30) rfl (by kernel_rfl) gx)]
        have x10 : Fr.tmps[33]? = some (u 10) := hN 10 _ 33 rfl rfl rfl
        rw [show u 10 = .pointer (some ⟨G, 0, none⟩) from hdep 10 (by kernel_rfl) w1 (rb_refl _)] at x10
        clear hN hO hdep gx
        have gg := block_below hR HA0.out
        have z0 := block_cell gg (i := 0) rfl
        have z1 := block_cell gg (i := 1) rfl
        have z2 := block_cell gg (i := 2) rfl
        have z3 := block_cell gg (i := 3) rfl
        have z4 := block_cell gg (i := 4) rfl
        go_simp
        refine hK _ _ (rb_refl _) fun w3 h3 => ?_
        exact rfl
      · intro Fr u hN hO w1 hR hdep K hK
        have gx : Fr.tmps[30]? = some (u 7) := hN 7 _ 30 rfl rfl rfl
        rw [show u 7 = .bool true from hdep 7 (by kernel_rfl) w1 (rb_refl _)] at gx
        rw [if_pos (wanted_on (s := 30) rfl (by kernel_rfl) gx)]
        have x11 : Fr.tmps[34]? = some (u 11) := hN 11 _ 34 rfl rfl rfl
        rw [show u 11 = .agg #[.int .i64 h.view, .int .i64 h.height, .string h.block, .slice A lh.length c] from hdep 11 (by kernel_rfl) w1 (rb_refl _)] at x11
        clear hN hO hdep gx
        go_simp
        refine (rank_calls h _ _ _ _).mono ?_
        rintro x w2 ⟨rfl, b2⟩
        refine hK _ _ b2 fun w3 h3 => ?_
        exact rfl
      · intro Fr u hN hO w1 hR hdep K hK
        have gx : Fr.tmps[30]? = some (u 7) := hN 7 _ 30 rfl rfl rfl
        rw [show u 7 = .bool true from hdep 7 (by kernel_rfl) w1 (rb_refl _)] at gx
        rw [if_pos (wanted_on (s := 30) rfl (by kernel_rfl) gx)]
        have x9 : Fr.tmps[32]? = some (u 9) := hN 9 _ 32 rfl rfl rfl
        rw [show u 9 = .agg #[.int .i64 m.view, .int .i64 m.height, .string ⟨#[]⟩] from hdep 9 (by kernel_rfl) w1 (rb_refl _)] at x9
        have x12 : Fr.tmps[35]? = some (u 12) := hN 12 _ 35 rfl rfl rfl
        rw [show u 12 = .agg #[.int .i64 h.view, .int .i64 h.height, .string ⟨#[]⟩] from hdep 12 (by kernel_rfl) w1 (rb_refl _)] at x12
        clear hN hO hdep gx
        go_simp
        refine (HH.out w1).mono ?_
        rintro x w2 ⟨rfl, b2⟩
        refine hK _ _ b2 fun w3 h3 => ?_
        exact rfl
      · intro Fr u hN hO w1 hR hdep K hK
        rw [if_pos (by rfl)]
        have x7 : Fr.tmps[30]? = some (u 7) := hN 7 _ 30 rfl rfl rfl
        rw [show u 7 = .bool true from hdep 7 (by kernel_rfl) w1 (rb_refl _)] at x7
        have x13 : Fr.tmps[36]? = some (u 13) := hN 13 _ 36 rfl rfl rfl
        rw [show u 13 = .bool false from hdep 13 (by kernel_rfl) w1 (rb_refl _)] at x13
        clear hN hO hdep
        go_simp
        refine hK _ _ (rb_refl _) fun w3 h3 => ?_
        exact rfl
      · intro Fr u hN hO w1 hR hdep K hK
        rw [if_pos (by rfl)]
        have x14 : Fr.tmps[37]? = some (u 14) := hN 14 _ 37 rfl rfl rfl
        rw [show u 14 = .bool false from hdep 14 (by kernel_rfl) w1 (rb_refl _)] at x14
        clear hN hO hdep
        go_simp
        refine hK _ _ (rb_refl _) fun w3 h3 => ?_
        exact rfl
      · intro u w' hR hall
        have h15 : u 15 = .bool false := hall 15 (by decide)
        have bw : Below V2.heap.size V2 w' := bl_trans (bl_drew (Below.refl _ _)) hR
        clear hall
        simp only [frameF, Act.put, List.setIfInBounds_toArray, List.set_cons_zero, List.set_cons_succ, Nat.reduceAdd, h15]
        clear h15
        have g0 := block_below bw HA0.out
        have g2 := block_below bw HA2.out
        have g9 := block_below bw HA9.out
        have HROW2 := Lib.hid (Kd.row_below bw HROW.out)
        have HROH2 := Lib.hid (Kd.row_below bw HROH.out)
        have HNR2 := Lib.hid (Kd.row_below bw HNR.out)
        have HK52 := Lib.hid (Kd.row_below bw HK5.out)
        have q3 := bl_trans q2 bw
        clear HA0 HA1 HA2 HA9 HROW HROH HRR HNR HK5 hR bw q2
        have x0 := block_cell g0 (i := 0) rfl
        have x1 := block_cell g0 (i := 1) rfl
        have x2 := block_cell g0 (i := 2) rfl
        have x3 := block_cell g0 (i := 3) rfl
        have x4 := block_cell g0 (i := 4) rfl
        have y0 := block_cell g2 (i := 0) rfl
        have y1 := block_cell g2 (i := 1) rfl
        have y2 := block_cell g2 (i := 2) rfl
        have y3 := block_cell g2 (i := 3) rfl
        have ga := alloc_old g0 (.cells #[.int .i64 0, .int .i64 0, .string ⟨#[]⟩, .slice none 0 0] 35)
        have gb := alloc_old g2 (.cells #[.int .i64 0, .int .i64 0, .string ⟨#[]⟩, .slice none 0 0] 35)
        have xa0 := block_cell ga (i := 0) rfl
        have xa1 := block_cell ga (i := 1) rfl
        have xa2 := block_cell ga (i := 2) rfl
        have xa3 := block_cell ga (i := 3) rfl
        have xa4 := block_cell ga (i := 4) rfl
        have hGw : G < w'.heap.size := blk_lt g0
        go_upto_region 3 with fail
        go_region
        have b3 : Below w'.heap.size w' ((w'.alloc (.cells #[.int .i64 h.view, .int .i64 h.height, .string h.block, .slice A lh.length c] 35)).drew) := bl_drew (bl_alloc (Below.refl _ _) _)
        have g12 : ((w'.alloc (.cells #[.int .i64 h.view, .int .i64 h.height, .string h.block, .slice A lh.length c] 35)).drew).heap[w'.heap.size]? = some (.cells #[.int .i64 h.view, .int .i64 h.height, .string h.block, .slice A lh.length c] 35 (0, 0)) := alloc_new w' _
        have n12 : G9 ≠ w'.heap.size := by have := blk_lt g9; omega
        have q4 := bl_trans q3 b3
        have h0 := block_below b3 g0
        have h2 := block_below b3 g2
        have h9 := block_below b3 g9
        have HROW3 := Lib.hid (Kd.row_below b3 HROW2.out)
        have HROH3 := Lib.hid (Kd.row_below b3 HROH2.out)
        have HNR3 := Lib.hid (Kd.row_below b3 HNR2.out)
        have HK53 := Lib.hid (Kd.row_below b3 HK52.out)
        have lw : w.heap.size ≤ w'.heap.size := q3.size
        clear xa0 xa1 xa2 xa3 xa4 x0 x1 x2 x3 x4 y0 y1 y2 y3 ga gb g0 g2 g9 HROW2 HROH2 HNR2 HK52 b3 q3 hGw
        obtain ⟨G12, hG12⟩ : ∃ G12, w'.heap.size = G12 := ⟨_, rfl⟩
        generalize (w'.alloc (.cells #[.int .i64 h.view, .int .i64 h.height, .string h.block, .slice A lh.length c] 35)).drew = V3 at *
        simp only [hG12] at g12 n12 lw ⊢
        clear hG12
        have r12 := g12
        have r0 := h0
        have r9 := h9
        have q5 := q4
        have HROW := HROW3
        have HROH := HROH3
        have HNR := HNR3
        have HK5 := HK53
        clear g12 h0 h2 h9 q4 HROW3 HROH3 HNR3 HK53
        generalize V3 = V4 at *
        have HR0 := Lib.hid r0
        have HR9 := Lib.hid r9
        have HR12 := Lib.hid r12
        have HB4 : Hid (B0 ≤ V4.heap.size) := Lib.hid (Nat.le_trans hB0 q5.size)
        have x0 := block_cell r0 (i := 0) rfl
        have x1 := block_cell r0 (i := 1) rfl
        have x2 := block_cell r0 (i := 2) rfl
        have x3 := block_cell r0 (i := 3) rfl
        have x4 := block_cell r0 (i := 4) rfl
        have y0 := block_cell r9 (i := 0) rfl
        have y1 := block_cell r9 (i := 1) rfl
        have y2 := block_cell r9 (i := 2) rfl
        have y3 := block_cell r9 (i := 3) rfl
        have y4 := block_cell r9 (i := 4) rfl
        have z0 := block_cell r12 (i := 0) rfl
        have z1 := block_cell r12 (i := 1) rfl
        have z2 := block_cell r12 (i := 2) rfl
        have z3 := block_cell r12 (i := 3) rfl
        have HSC := Lib.hid fun W (b : Below V4.heap.size V4 W) => samecert_calls h lh A5 A _ _ c5 c W rfl rfl (by omega) (row_up (Nat.zero_le _) (Kd.row_below b HK5.out)) (row_up (Nat.le_trans HB4.out b.size) (Kd.row_below b HROH.out))
        by_cases h1 : h.height < 1
        · have hag : agreesF h.height h.block ns = true := by unfold agreesF; rw [if_pos h1]
          have h1' : ¬ (h.height ≥ 1) := by omega
          go_wp2_with (first
            | (go_at_call 29; refine (HSC.out _ (by first | exact Below.refl _ _ | exact bl_drewN (Below.refl _ _) _)).mono ?_; rintro x w5 ⟨rfl, b5⟩; have d5 : Below V4.heap.size V4 w5 := (by first | exact b5 | exact bl_trans (bl_drewN (Below.refl _ _) _) b5); have i0 := block_below d5 HR0.out; have i9 := block_below d5 HR9.out; have X0 := block_cell i0 (i := 0) rfl; have X1 := block_cell i0 (i := 1) rfl; have X2 := block_cell i0 (i := 2) rfl; have X3 := block_cell i0 (i := 3) rfl; have X4 := block_cell i0 (i := 4) rfl; have Y4 := block_cell i9 (i := 4) rfl; have HN5 := Lib.hid (Kd.row_below d5 HNR.out))
            | (go_at_call 30; refine (agrees_calls h A _ c t ns _ _ cn B0 _ rfl hln HN5.out).mono ?_; rw [hag]; rintro x w6 ⟨rfl, b6⟩)
            | (go_at_call 31; refine (alive36_calls _).mono ?_; rintro x w7 ⟨rfl, b7⟩))
          go_ret
          exact ⟨rfl, bl_trans q5 (bl_trans d5 (bl_trans b6 b7))⟩
        · have h1' : h.height ≥ 1 := by omega
          by_cases h2 : h.height > (ns.length : Int)
          · have hag : agreesF h.height h.block ns = true := by unfold agreesF; rw [if_neg h1, if_pos h2]
            have h2' : ¬ (h.height ≤ (ns.length : Int)) := by omega
            go_wp2_with (first
              | (go_at_call 29; refine (HSC.out _ (by first | exact Below.refl _ _ | exact bl_drewN (Below.refl _ _) _)).mono ?_; rintro x w5 ⟨rfl, b5⟩; have d5 : Below V4.heap.size V4 w5 := (by first | exact b5 | exact bl_trans (bl_drewN (Below.refl _ _) _) b5); have i0 := block_below d5 HR0.out; have i9 := block_below d5 HR9.out; have X0 := block_cell i0 (i := 0) rfl; have X1 := block_cell i0 (i := 1) rfl; have X2 := block_cell i0 (i := 2) rfl; have X3 := block_cell i0 (i := 3) rfl; have X4 := block_cell i0 (i := 4) rfl; have Y4 := block_cell i9 (i := 4) rfl; have HN5 := Lib.hid (Kd.row_below d5 HNR.out))
              | (go_at_call 30; refine (agrees_calls h A _ c t ns _ _ cn B0 _ rfl hln HN5.out).mono ?_; rw [hag]; rintro x w6 ⟨rfl, b6⟩)
              | (go_at_call 31; refine (alive36_calls _).mono ?_; rintro x w7 ⟨rfl, b7⟩))
            go_ret
            exact ⟨rfl, bl_trans q5 (bl_trans d5 (bl_trans b6 b7))⟩
          · have h2' : h.height ≤ (ns.length : Int) := by omega
            obtain ⟨k, hk⟩ : ∃ k : Nat, h.height = (k : Int) + 1 := ⟨(h.height - 1).toNat, by omega⟩
            obtain ⟨x, hx⟩ : ∃ x, ns[k]? = some x := ⟨_, List.getElem?_eq_getElem (by omega)⟩
            obtain ⟨ad, rfl, c0⟩ := str_at HNR.out hx
            obtain ⟨ag, hq⟩ : ∃ ag, (x.toList == h.block.toList) = ag := ⟨_, rfl⟩
            have hag : agreesF h.height h.block ns = ag := by
              unfold agreesF
              rw [if_neg h1, if_neg (by omega), hk, show ((k : Int) + 1 - 1).toNat = k by omega, hx]
              exact hq
            have hi1 : IntKind.i64.wrap (h.height - 1) = (k : Int) := by rw [hk, show (k : Int) + 1 - 1 = (k : Int) by omega]; exact IntWalk.i64_in _ (by omega)
            have hkl : (k : Int) < (ns.length : Int) := by omega
            have hk0 : (0 : Int) ≤ (k : Int) := by omega
            have HAG := Lib.hid hag
            clear hag hk hx h1 h2
            go_upto_region 9 with fail
            go_quiet (fail)
            go_wp2_with (first
              | (go_at_call 29; refine (HSC.out _ (by first | exact Below.refl _ _ | exact bl_drewN (Below.refl _ _) _)).mono ?_; rintro x w5 ⟨rfl, b5⟩; have d5 : Below V4.heap.size V4 w5 := (by first | exact b5 | exact bl_trans (bl_drewN (Below.refl _ _) _) b5); have i0 := block_below d5 HR0.out; have i9 := block_below d5 HR9.out; have X0 := block_cell i0 (i := 0) rfl; have X1 := block_cell i0 (i := 1) rfl; have X2 := block_cell i0 (i := 2) rfl; have X3 := block_cell i0 (i := 3) rfl; have X4 := block_cell i0 (i := 4) rfl; have Y4 := block_cell i9 (i := 4) rfl; have HN5 := Lib.hid (Kd.row_below d5 HNR.out))
              | (go_at_call 30; refine (agrees_calls h A _ c t ns _ _ cn B0 _ rfl hln HN5.out).mono ?_; rw [HAG.out]; rintro x w6 ⟨rfl, b6⟩)
              | (go_at_call 31; refine (alive36_calls _).mono ?_; rintro x w7 ⟨rfl, b7⟩))
            go_ret
            exact ⟨rfl, bl_trans q5 (bl_trans d5 (bl_trans b6 b7))⟩
    case true =>
      have HTK := Lib.hid fun W h1 h2 h3 hB => (HTK0.out W h1 h2 h3 hB).mono fun _ _ k => take_yes k
      clear HTK0
      go_enter Try.func6, Try.ntmps6
      go_upto_region 1 with fail
      change Code.wp _ _ _ _ (((w.alloc (.cells #[.int .i64 h.view, .int .i64 h.height, .string h.block, .slice A lh.length c, .int .i64 t] 55)).alloc (.cells #[.slice Ar roots.length cr, .slice Ac nC cc, .int .i64 q, .int .i64 base, .int .i64 cap] 57)).alloc (.cells #[.int .i64 m.view, .int .i64 m.height, .string m.block, .slice A2 l.length c2] 35))
      obtain ⟨G, hG⟩ : ∃ G, w.heap.size = G := ⟨_, rfl⟩
      have leG : w.heap.size ≤ G := by omega
      generalize ((w.alloc (.cells #[.int .i64 h.view, .int .i64 h.height, .string h.block, .slice A lh.length c, .int .i64 t] 55)).alloc (.cells #[.slice Ar roots.length cr, .slice Ac nC cc, .int .i64 q, .int .i64 base, .int .i64 cap] 57)).alloc (.cells #[.int .i64 m.view, .int .i64 m.height, .string m.block, .slice A2 l.length c2] 35) = V at *
      simp only [hG] at a0 a1 a2 ⊢
      clear hG
      have x0 := block_cell a0 (i := 0) rfl
      have x1 := block_cell a0 (i := 1) rfl
      have x2 := block_cell a0 (i := 2) rfl
      have x3 := block_cell a0 (i := 3) rfl
      have x4 := block_cell a0 (i := 4) rfl
      have y0 := block_cell a1 (i := 0) rfl
      have y1 := block_cell a1 (i := 1) rfl
      have y2 := block_cell a1 (i := 2) rfl
      have y3 := block_cell a1 (i := 3) rfl
      have y4 := block_cell a1 (i := 4) rfl
      have z0 := block_cell a2 (i := 0) rfl
      have z1 := block_cell a2 (i := 1) rfl
      have z2 := block_cell a2 (i := 2) rfl
      have z3 := block_cell a2 (i := 3) rfl
      have HA0 := Lib.hid a0
      have HA1 := Lib.hid a1
      have HA2 := Lib.hid a2
      have HROW := Lib.hid hrq
      have HROH := Lib.hid hrhq
      have HRR := Lib.hid hrrq
      have HNR := Lib.hid hrnq
      clear a0 a1 a2 hrq hrhq hrrq hrnq
      go_upto_region 2 with (go_at_call 26; refine (HTK.out _ HROW.out HROH.out HRR.out HB0.out).mono ?_; rintro x w1 ⟨⟨A5, c5, rfl, k3⟩, b1⟩)
      have b2 : Below V.heap.size V (w1.alloc (.cells #[.int .i64 m.view, .int .i64 m.height, .string m.block, .slice A5 l.length c5, .int .i64 t1] 55)) := bl_alloc b1 _
      have k4 : kVote.Row 28 0 (w1.alloc (.cells #[.int .i64 m.view, .int .i64 m.height, .string m.block, .slice A5 l.length c5, .int .i64 t1] 55)) A5 l := Kd.row_below (bl_alloc (Below.refl _ _) _) k3
      have a9 : (w1.alloc (.cells #[.int .i64 m.view, .int .i64 m.height, .string m.block, .slice A5 l.length c5, .int .i64 t1] 55)).heap[w1.heap.size]? = some (.cells #[.int .i64 m.view, .int .i64 m.height, .string m.block, .slice A5 l.length c5, .int .i64 t1] 55 (0, 0)) := alloc_new w1 _
      change Code.wp _ _ _ _ (w1.alloc (.cells #[.int .i64 m.view, .int .i64 m.height, .string m.block, .slice A5 l.length c5, .int .i64 t1] 55))
      obtain ⟨G9, hG9⟩ : ∃ G9, w1.heap.size = G9 := ⟨_, rfl⟩
      generalize w1.alloc (.cells #[.int .i64 m.view, .int .i64 m.height, .string m.block, .slice A5 l.length c5, .int .i64 t1] 55) = V2 at *
      simp only [hG9] at a9 ⊢
      clear hG9 b1 k3 x0 x1 x2 x3 x4 y0 y1 y2 y3 y4 z0 z1 z2 z3
      have HB0 := Lib.hid (block_below b2 HA0.out)
      have HB1 := Lib.hid (block_below b2 HA1.out)
      have HB2 := Lib.hid (block_below b2 HA2.out)
      have HROW2 := Lib.hid (Kd.row_below b2 HROW.out)
      have HROH2 := Lib.hid (Kd.row_below b2 HROH.out)
      have HRR2 := Lib.hid (Kd.row_below b2 HRR.out)
      have HNR2 := Lib.hid (Kd.row_below b2 HNR.out)
      have q2 := bl_trans q0 b2
      clear HA0 HA1 HA2 HROW HROH HRR HNR b2 HTK
      have HA0 := HB0
      have HA1 := HB1
      have HA2 := HB2
      have HROW := HROW2
      have HROH := HROH2
      have HRR := HRR2
      have HNR := HNR2
      have HA9 := Lib.hid a9
      have HK5 := Lib.hid k4
      clear HB0 HB1 HB2 HROW2 HROH2 HRR2 HNR2 a9 k4
      refine wp_region_invA (by kernel_rfl) (by kernel_rfl) Rb (ltB G m h A A2 Ar l.length lh.length roots.length c c2 cr q 0 true) rb_refl rb_trans ⟨?_, ?_, ?_, ?_, ?_, ?_, ?_, ?_, ?_, ?_, ?_, ?_, ?_, ?_, ?_, ?_, trivial⟩ ?_
      · intro Fr u hN hO w1 hR hdep K hK
        rw [if_pos (by rfl)]
        have y6 : Fr.tmps[6]? = some (.pointer (some ⟨G + 1 + 1, 0, none⟩)) := hO 6 _ rfl rfl
        clear hN hO hdep
        have gg := block_below hR HA2.out
        have z0 := block_cell gg (i := 0) rfl
        have z1 := block_cell gg (i := 1) rfl
        have z2 := block_cell gg (i := 2) rfl
        have z3 := block_cell gg (i := 3) rfl
        go_simp
        refine hK _ _ (rb_refl _) fun w3 h3 => ?_
        exact rfl
      · intro Fr u hN hO w1 hR hdep K hK
        rw [if_pos (by rfl)]
        have y5 : Fr.tmps[5]? = some (.pointer (some ⟨G + 1, 0, none⟩)) := hO 5 _ rfl rfl
        clear hN hO hdep
        go_simp
        refine hK _ _ (rb_refl _) fun w3 h3 => ?_
        exact rfl
      · intro Fr u hN hO w1 hR hdep K hK
        rw [if_pos (by rfl)]
        have x1 : Fr.tmps[24]? = some (u 1) := hN 1 _ 24 rfl rfl rfl
        rw [show u 1 = .pointer (some ⟨G + 1, 0, none⟩) from hdep 1 (by kernel_rfl) w1 (rb_refl _)] at x1
        clear hN hO hdep
        have gg := block_below hR HA1.out
        have z0 := block_cell gg (i := 0) rfl
        have z1 := block_cell gg (i := 1) rfl
        have z2 := block_cell gg (i := 2) rfl
        have z3 := block_cell gg (i := 3) rfl
        have z4 := block_cell gg (i := 4) rfl
        go_simp
        refine hK _ _ (rb_refl _) fun w3 h3 => ?_
        exact rfl
      · intro Fr u hN hO w1 hR hdep K hK
        rw [if_pos (by rfl)]
        have y5 : Fr.tmps[5]? = some (.pointer (some ⟨G + 1, 0, none⟩)) := hO 5 _ rfl rfl
        clear hN hO hdep
        go_simp
        refine hK _ _ (rb_refl _) fun w3 h3 => ?_
        exact rfl
      · intro Fr u hN hO w1 hR hdep K hK
        rw [if_pos (by rfl)]
        have x3 : Fr.tmps[26]? = some (u 3) := hN 3 _ 26 rfl rfl rfl
        rw [show u 3 = .pointer (some ⟨G + 1, 2, none⟩) from hdep 3 (by kernel_rfl) w1 (rb_refl _)] at x3
        clear hN hO hdep
        have gg := block_below hR HA1.out
        have z0 := block_cell gg (i := 0) rfl
        have z1 := block_cell gg (i := 1) rfl
        have z2 := block_cell gg (i := 2) rfl
        have z3 := block_cell gg (i := 3) rfl
        have z4 := block_cell gg (i := 4) rfl
        go_simp
        refine hK _ _ (rb_refl _) fun w3 h3 => ?_
        exact rfl
      · intro Fr u hN hO w1 hR hdep K hK
        rw [if_pos (by rfl)]
        have x0 : Fr.tmps[23]? = some (u 0) := hN 0 _ 23 rfl rfl rfl
        rw [show u 0 = .agg #[.int .i64 m.view, .int .i64 m.height, .string m.block, .slice A2 l.length c2] from hdep 0 (by kernel_rfl) w1 (rb_refl _)] at x0
        have x2 : Fr.tmps[25]? = some (u 2) := hN 2 _ 25 rfl rfl rfl
        rw [show u 2 = .slice Ar roots.length cr from hdep 2 (by kernel_rfl) w1 (rb_refl _)] at x2
        have x4 : Fr.tmps[27]? = some (u 4) := hN 4 _ 27 rfl rfl rfl
        rw [show u 4 = .int .i64 q from hdep 4 (by kernel_rfl) w1 (rb_refl _)] at x4
        clear hN hO hdep
        go_simp
        refine (HRC.out w1 (Kd.row_below hR HROW.out) (Kd.row_below hR HRR.out)).mono ?_
        rintro x w2 ⟨rfl, b2⟩
        refine hK _ _ b2 fun w3 h3 => ?_
        exact rfl
      · intro Fr u hN hO w1 hR hdep K hK
        rw [if_pos (by rfl)]
        have x5 : Fr.tmps[28]? = some (u 5) := hN 5 _ 28 rfl rfl rfl
        rw [show u 5 = .int .i64 0 from hdep 5 (by kernel_rfl) w1 (rb_refl _)] at x5
        clear hN hO hdep
        go_simp
        refine hK _ _ (rb_refl _) fun w3 h3 => ?_
        exact rfl
      · intro Fr u hN hO w1 hR hdep K hK
        rw [if_pos (by rfl)]
        have x6 : Fr.tmps[29]? = some (u 6) := hN 6 _ 29 rfl rfl rfl
        rw [show u 6 = .bool true from hdep 6 (by kernel_rfl) w1 (rb_refl _)] at x6
        clear hN hO hdep
        go_simp
        refine hK _ _ (rb_refl _) fun w3 h3 => ?_
        exact rfl
      · intro Fr u hN hO w1 hR hdep K hK
        have gx : Fr.tmps[30]? = some (u 7) := hN 7 _ 30 rfl rfl rfl
        rw [show u 7 = .bool true from hdep 7 (by kernel_rfl) w1 (rb_refl _)] at gx
        rw [if_pos (wanted_on (s := 30) rfl (by kernel_rfl) gx)]
        have y6 : Fr.tmps[6]? = some (.pointer (some ⟨G + 1 + 1, 0, none⟩)) := hO 6 _ rfl rfl
        clear hN hO hdep gx
        have gg := block_below hR HA2.out
        have z0 := block_cell gg (i := 0) rfl
        have z1 := block_cell gg (i := 1) rfl
        have z2 := block_cell gg (i := 2) rfl
        have z3 := block_cell gg (i := 3) rfl
        go_simp
        refine hK _ _ (rb_refl _) fun w3 h3 => ?_
        exact rfl
      · intro Fr u hN hO w1 hR hdep K hK
        have gx : Fr.tmps[30]? = some (u 7) := hN 7 _ 30 rfl rfl rfl
        rw [show u 7 = .bool true from hdep 7 (by kernel_rfl) w1 (rb_refl _)] at gx
        rw [if_pos (wanted_on (s := 30) rfl (by kernel_rfl) gx)]
        have x8 : Fr.tmps[31]? = some (u 8) := hN 8 _ 31 rfl rfl rfl
        rw [show u 8 = .agg #[.int .i64 m.view, .int .i64 m.height, .string m.block, .slice A2 l.length c2] from hdep 8 (by kernel_rfl) w1 (rb_refl _)] at x8
        clear hN hO hdep gx
        go_simp
        refine (rank_calls m _ _ _ _).mono ?_
        rintro x w2 ⟨rfl, b2⟩
        refine hK _ _ b2 fun w3 h3 => ?_
        exact rfl
      · intro Fr u hN hO w1 hR hdep K hK
        have gx : Fr.tmps[30]? = some (u 7) := hN 7 _ 30 rfl rfl rfl
        rw [show u 7 = .bool true from hdep 7 (by kernel_rfl) w1 (rb_refl _)] at gx
        rw [if_pos (wanted_on (s := 30) rfl (by kernel_rfl) gx)]
        have y4 : Fr.tmps[4]? = some (.pointer (some ⟨G, 0, none⟩)) := hO 4 _ rfl rfl
        clear hN hO hdep gx
        go_simp
        refine hK _ _ (rb_refl _) fun w3 h3 => ?_
        exact rfl
      · intro Fr u hN hO w1 hR hdep K hK
        have gx : Fr.tmps[30]? = some (u 7) := hN 7 _ 30 rfl rfl rfl
        rw [show u 7 = .bool true from hdep 7 (by kernel_rfl) w1 (rb_refl _)] at gx
        rw [if_pos (wanted_on (s := 30) rfl (by kernel_rfl) gx)]
        have x10 : Fr.tmps[33]? = some (u 10) := hN 10 _ 33 rfl rfl rfl
        rw [show u 10 = .pointer (some ⟨G, 0, none⟩) from hdep 10 (by kernel_rfl) w1 (rb_refl _)] at x10
        clear hN hO hdep gx
        have gg := block_below hR HA0.out
        have z0 := block_cell gg (i := 0) rfl
        have z1 := block_cell gg (i := 1) rfl
        have z2 := block_cell gg (i := 2) rfl
        have z3 := block_cell gg (i := 3) rfl
        have z4 := block_cell gg (i := 4) rfl
        go_simp
        refine hK _ _ (rb_refl _) fun w3 h3 => ?_
        exact rfl
      · intro Fr u hN hO w1 hR hdep K hK
        have gx : Fr.tmps[30]? = some (u 7) := hN 7 _ 30 rfl rfl rfl
        rw [show u 7 = .bool true from hdep 7 (by kernel_rfl) w1 (rb_refl _)] at gx
        rw [if_pos (wanted_on (s := 30) rfl (by kernel_rfl) gx)]
        have x11 : Fr.tmps[34]? = some (u 11) := hN 11 _ 34 rfl rfl rfl
        rw [show u 11 = .agg #[.int .i64 h.view, .int .i64 h.height, .string h.block, .slice A lh.length c] from hdep 11 (by kernel_rfl) w1 (rb_refl _)] at x11
        clear hN hO hdep gx
        go_simp
        refine (rank_calls h _ _ _ _).mono ?_
        rintro x w2 ⟨rfl, b2⟩
        refine hK _ _ b2 fun w3 h3 => ?_
        exact rfl
      · intro Fr u hN hO w1 hR hdep K hK
        have gx : Fr.tmps[30]? = some (u 7) := hN 7 _ 30 rfl rfl rfl
        rw [show u 7 = .bool true from hdep 7 (by kernel_rfl) w1 (rb_refl _)] at gx
        rw [if_pos (wanted_on (s := 30) rfl (by kernel_rfl) gx)]
        have x9 : Fr.tmps[32]? = some (u 9) := hN 9 _ 32 rfl rfl rfl
        rw [show u 9 = .agg #[.int .i64 m.view, .int .i64 m.height, .string ⟨#[]⟩] from hdep 9 (by kernel_rfl) w1 (rb_refl _)] at x9
        have x12 : Fr.tmps[35]? = some (u 12) := hN 12 _ 35 rfl rfl rfl
        rw [show u 12 = .agg #[.int .i64 h.view, .int .i64 h.height, .string ⟨#[]⟩] from hdep 12 (by kernel_rfl) w1 (rb_refl _)] at x12
        clear hN hO hdep gx
        go_simp
        refine (HH.out w1).mono ?_
        rintro x w2 ⟨rfl, b2⟩
        refine hK _ _ b2 fun w3 h3 => ?_
        exact rfl
      · intro Fr u hN hO w1 hR hdep K hK
        rw [if_pos (by rfl)]
        have x7 : Fr.tmps[30]? = some (u 7) := hN 7 _ 30 rfl rfl rfl
        rw [show u 7 = .bool true from hdep 7 (by kernel_rfl) w1 (rb_refl _)] at x7
        have x13 : Fr.tmps[36]? = some (u 13) := hN 13 _ 36 rfl rfl rfl
        rw [show u 13 = .bool true from hdep 13 (by kernel_rfl) w1 (rb_refl _)] at x13
        clear hN hO hdep
        go_simp
        refine hK _ _ (rb_refl _) fun w3 h3 => ?_
        exact rfl
      · intro Fr u hN hO w1 hR hdep K hK
        rw [if_pos (by rfl)]
        have x14 : Fr.tmps[37]? = some (u 14) := hN 14 _ 37 rfl rfl rfl
        rw [show u 14 = .bool true from hdep 14 (by kernel_rfl) w1 (rb_refl _)] at x14
        clear hN hO hdep
        go_simp
        refine hK _ _ (rb_refl _) fun w3 h3 => ?_
        exact rfl
      · intro u w' hR hall
        have h15 : u 15 = .bool true := hall 15 (by decide)
        have bw : Below V2.heap.size V2 w' := bl_trans (bl_drew (Below.refl _ _)) hR
        clear hall
        simp only [frameF, Act.put, List.setIfInBounds_toArray, List.set_cons_zero, List.set_cons_succ, Nat.reduceAdd, h15]
        clear h15
        have g0 := block_below bw HA0.out
        have g2 := block_below bw HA2.out
        have g9 := block_below bw HA9.out
        have HROW2 := Lib.hid (Kd.row_below bw HROW.out)
        have HROH2 := Lib.hid (Kd.row_below bw HROH.out)
        have HNR2 := Lib.hid (Kd.row_below bw HNR.out)
        have HK52 := Lib.hid (Kd.row_below bw HK5.out)
        have q3 := bl_trans q2 bw
        clear HA0 HA1 HA2 HA9 HROW HROH HRR HNR HK5 hR bw q2
        have x0 := block_cell g0 (i := 0) rfl
        have x1 := block_cell g0 (i := 1) rfl
        have x2 := block_cell g0 (i := 2) rfl
        have x3 := block_cell g0 (i := 3) rfl
        have x4 := block_cell g0 (i := 4) rfl
        have y0 := block_cell g2 (i := 0) rfl
        have y1 := block_cell g2 (i := 1) rfl
        have y2 := block_cell g2 (i := 2) rfl
        have y3 := block_cell g2 (i := 3) rfl
        have ga := alloc_old g0 (.cells #[.int .i64 0, .int .i64 0, .string ⟨#[]⟩, .slice none 0 0] 35)
        have gb := alloc_old g2 (.cells #[.int .i64 0, .int .i64 0, .string ⟨#[]⟩, .slice none 0 0] 35)
        have xa0 := block_cell ga (i := 0) rfl
        have xa1 := block_cell ga (i := 1) rfl
        have xa2 := block_cell ga (i := 2) rfl
        have xa3 := block_cell ga (i := 3) rfl
        have xa4 := block_cell ga (i := 4) rfl
        have hGw : G < w'.heap.size := blk_lt g0
        go_upto_region 3 with fail
        go_region
        have b3 : Below w'.heap.size w' ((w'.alloc (.cells #[.int .i64 h.view, .int .i64 h.height, .string h.block, .slice A lh.length c] 35)).drew) := bl_drew (bl_alloc (Below.refl _ _) _)
        have g12 : ((w'.alloc (.cells #[.int .i64 h.view, .int .i64 h.height, .string h.block, .slice A lh.length c] 35)).drew).heap[w'.heap.size]? = some (.cells #[.int .i64 h.view, .int .i64 h.height, .string h.block, .slice A lh.length c] 35 (0, 0)) := alloc_new w' _
        have n12 : G9 ≠ w'.heap.size := by have := blk_lt g9; omega
        have q4 := bl_trans q3 b3
        have h0 := block_below b3 g0
        have h2 := block_below b3 g2
        have h9 := block_below b3 g9
        have HROW3 := Lib.hid (Kd.row_below b3 HROW2.out)
        have HROH3 := Lib.hid (Kd.row_below b3 HROH2.out)
        have HNR3 := Lib.hid (Kd.row_below b3 HNR2.out)
        have HK53 := Lib.hid (Kd.row_below b3 HK52.out)
        have lw : w.heap.size ≤ w'.heap.size := q3.size
        clear xa0 xa1 xa2 xa3 xa4 x0 x1 x2 x3 x4 y0 y1 y2 y3 ga gb g0 g2 g9 HROW2 HROH2 HNR2 HK52 b3 q3 hGw
        obtain ⟨G12, hG12⟩ : ∃ G12, w'.heap.size = G12 := ⟨_, rfl⟩
        generalize (w'.alloc (.cells #[.int .i64 h.view, .int .i64 h.height, .string h.block, .slice A lh.length c] 35)).drew = V3 at *
        simp only [hG12] at g12 n12 lw ⊢
        clear hG12
        have x4 := block_cell h0 (i := 4) rfl
        have y0 := block_cell h2 (i := 0) rfl
        have y1 := block_cell h2 (i := 1) rfl
        have y2 := block_cell h2 (i := 2) rfl
        have y3 := block_cell h2 (i := 3) rfl
        have u0 := block_cell g12 (i := 0) rfl
        have u1 := block_cell g12 (i := 1) rfl
        have u2 := block_cell g12 (i := 2) rfl
        have u3 := block_cell g12 (i := 3) rfl
        have v0 : V3.frozen? ⟨G12, 0, none⟩ = false := block_free g12
        have v1 : V3.frozen? ⟨G12, 1, none⟩ = false := block_free g12
        have v2 : V3.frozen? ⟨G12, 2, none⟩ = false := block_free g12
        have v3 : V3.frozen? ⟨G12, 3, none⟩ = false := block_free g12
        have nG : G ≠ G12 := by intro hx; subst hx; rw [h0] at g12; cases g12
        have ht := HT.out
        go_upto_region 5 with fail
        go_region
        clear ht
        have r12 : (((((V3.setCell ⟨G12, 0, none⟩ (.int .i64 m.view)).setCell ⟨G12, 1, none⟩ (.int .i64 m.height)).setCell ⟨G12, 2, none⟩ (.string m.block)).setCell ⟨G12, 3, none⟩ (.slice A2 l.length c2)).drew).heap[G12]? = some (.cells #[.int .i64 m.view, .int .i64 m.height, .string m.block, .slice A2 l.length c2] 35 (0, 0)) := res4 (p := .int .i64 m.view) (q := .int .i64 m.height) (r := .string m.block) (s := .slice A2 l.length c2) g12
        have r0 : (((((V3.setCell ⟨G12, 0, none⟩ (.int .i64 m.view)).setCell ⟨G12, 1, none⟩ (.int .i64 m.height)).setCell ⟨G12, 2, none⟩ (.string m.block)).setCell ⟨G12, 3, none⟩ (.slice A2 l.length c2)).drew).heap[G]? = some (.cells #[.int .i64 h.view, .int .i64 h.height, .string h.block, .slice A lh.length c, .int .i64 t] 55 (0, 0)) := far4 (p := .int .i64 m.view) (q := .int .i64 m.height) (r := .string m.block) (s := .slice A2 l.length c2) nG h0
        have r9 : (((((V3.setCell ⟨G12, 0, none⟩ (.int .i64 m.view)).setCell ⟨G12, 1, none⟩ (.int .i64 m.height)).setCell ⟨G12, 2, none⟩ (.string m.block)).setCell ⟨G12, 3, none⟩ (.slice A2 l.length c2)).drew).heap[G9]? = some (.cells #[.int .i64 m.view, .int .i64 m.height, .string m.block, .slice A5 l.length c5, .int .i64 t1] 55 (0, 0)) := far4 (p := .int .i64 m.view) (q := .int .i64 m.height) (r := .string m.block) (s := .slice A2 l.length c2) n12 h9
        have q5 : Below w.heap.size w (((((V3.setCell ⟨G12, 0, none⟩ (.int .i64 m.view)).setCell ⟨G12, 1, none⟩ (.int .i64 m.height)).setCell ⟨G12, 2, none⟩ (.string m.block)).setCell ⟨G12, 3, none⟩ (.slice A2 l.length c2)).drew) := bl_drew (bl_set (bl_set (bl_set (bl_set q4 (p := ⟨G12, 0, none⟩) lw _) (p := ⟨G12, 1, none⟩) lw _) (p := ⟨G12, 2, none⟩) lw _) (p := ⟨G12, 3, none⟩) lw _)
        have kk : ∀ (B : Nat) (E : List TypeId), B ≤ G12 → 35 ∉ E → Keeps B E V3 (((((V3.setCell ⟨G12, 0, none⟩ (.int .i64 m.view)).setCell ⟨G12, 1, none⟩ (.int .i64 m.height)).setCell ⟨G12, 2, none⟩ (.string m.block)).setCell ⟨G12, 3, none⟩ (.slice A2 l.length c2)).drew) := fun B E h1 h2 => Keeps.trans (keep4 (p := .int .i64 m.view) (q := .int .i64 m.height) (r := .string m.block) (s := .slice A2 l.length c2) g12 h1 h2) (Keeps.drewN _ 1)
        have HROW := Lib.hid (Kd.row_keep (kk B0 [28] (by omega) (by decide)) HROW3.out)
        have HROH := Lib.hid (Kd.row_keep (kk B0 [28] (by omega) (by decide)) HROH3.out)
        have HNR := Lib.hid (Kd.row_keep (kk B0 [9] (by omega) (by decide)) HNR3.out)
        have HK5 := Lib.hid (Kd.row_keep (kk 0 [28] (by omega) (by decide)) HK53.out)
        clear kk HROW3 HROH3 HNR3 HK53 x4 y0 y1 y2 y3 u0 u1 u2 u3 v0 v1 v2 v3 h0 h2 h9 g12 q4
        generalize ((((V3.setCell ⟨G12, 0, none⟩ (.int .i64 m.view)).setCell ⟨G12, 1, none⟩ (.int .i64 m.height)).setCell ⟨G12, 2, none⟩ (.string m.block)).setCell ⟨G12, 3, none⟩ (.slice A2 l.length c2)).drew = V4 at *
        have HR0 := Lib.hid r0
        have HR9 := Lib.hid r9
        have HR12 := Lib.hid r12
        have HB4 : Hid (B0 ≤ V4.heap.size) := Lib.hid (Nat.le_trans hB0 q5.size)
        have x0 := block_cell r0 (i := 0) rfl
        have x1 := block_cell r0 (i := 1) rfl
        have x2 := block_cell r0 (i := 2) rfl
        have x3 := block_cell r0 (i := 3) rfl
        have x4 := block_cell r0 (i := 4) rfl
        have y0 := block_cell r9 (i := 0) rfl
        have y1 := block_cell r9 (i := 1) rfl
        have y2 := block_cell r9 (i := 2) rfl
        have y3 := block_cell r9 (i := 3) rfl
        have y4 := block_cell r9 (i := 4) rfl
        have z0 := block_cell r12 (i := 0) rfl
        have z1 := block_cell r12 (i := 1) rfl
        have z2 := block_cell r12 (i := 2) rfl
        have z3 := block_cell r12 (i := 3) rfl
        have HSC := Lib.hid fun W (b : Below V4.heap.size V4 W) => samecert_calls m l A5 A2 _ _ c5 c2 W rfl rfl (by omega) (row_up (Nat.zero_le _) (Kd.row_below b HK5.out)) (row_up (Nat.le_trans HB4.out b.size) (Kd.row_below b HROW.out))
        by_cases h1 : h.height < 1
        · have hag : agreesF h.height h.block ns = true := by unfold agreesF; rw [if_pos h1]
          have h1' : ¬ (h.height ≥ 1) := by omega
          go_wp2_with (first
            | (go_at_call 29; refine (HSC.out _ (by first | exact Below.refl _ _ | exact bl_drewN (Below.refl _ _) _)).mono ?_; rintro x w5 ⟨rfl, b5⟩; have d5 : Below V4.heap.size V4 w5 := (by first | exact b5 | exact bl_trans (bl_drewN (Below.refl _ _) _) b5); have i0 := block_below d5 HR0.out; have i9 := block_below d5 HR9.out; have X0 := block_cell i0 (i := 0) rfl; have X1 := block_cell i0 (i := 1) rfl; have X2 := block_cell i0 (i := 2) rfl; have X3 := block_cell i0 (i := 3) rfl; have X4 := block_cell i0 (i := 4) rfl; have Y4 := block_cell i9 (i := 4) rfl; have HN5 := Lib.hid (Kd.row_below d5 HNR.out))
            | (go_at_call 30; refine (agrees_calls h A _ c t ns _ _ cn B0 _ rfl hln HN5.out).mono ?_; rw [hag]; rintro x w6 ⟨rfl, b6⟩)
            | (go_at_call 31; refine (alive36_calls _).mono ?_; rintro x w7 ⟨rfl, b7⟩))
          go_ret
          exact ⟨rfl, bl_trans q5 (bl_trans d5 (bl_trans b6 b7))⟩
        · have h1' : h.height ≥ 1 := by omega
          by_cases h2 : h.height > (ns.length : Int)
          · have hag : agreesF h.height h.block ns = true := by unfold agreesF; rw [if_neg h1, if_pos h2]
            have h2' : ¬ (h.height ≤ (ns.length : Int)) := by omega
            go_wp2_with (first
              | (go_at_call 29; refine (HSC.out _ (by first | exact Below.refl _ _ | exact bl_drewN (Below.refl _ _) _)).mono ?_; rintro x w5 ⟨rfl, b5⟩; have d5 : Below V4.heap.size V4 w5 := (by first | exact b5 | exact bl_trans (bl_drewN (Below.refl _ _) _) b5); have i0 := block_below d5 HR0.out; have i9 := block_below d5 HR9.out; have X0 := block_cell i0 (i := 0) rfl; have X1 := block_cell i0 (i := 1) rfl; have X2 := block_cell i0 (i := 2) rfl; have X3 := block_cell i0 (i := 3) rfl; have X4 := block_cell i0 (i := 4) rfl; have Y4 := block_cell i9 (i := 4) rfl; have HN5 := Lib.hid (Kd.row_below d5 HNR.out))
              | (go_at_call 30; refine (agrees_calls h A _ c t ns _ _ cn B0 _ rfl hln HN5.out).mono ?_; rw [hag]; rintro x w6 ⟨rfl, b6⟩)
              | (go_at_call 31; refine (alive36_calls _).mono ?_; rintro x w7 ⟨rfl, b7⟩))
            go_ret
            exact ⟨rfl, bl_trans q5 (bl_trans d5 (bl_trans b6 b7))⟩
          · have h2' : h.height ≤ (ns.length : Int) := by omega
            obtain ⟨k, hk⟩ : ∃ k : Nat, h.height = (k : Int) + 1 := ⟨(h.height - 1).toNat, by omega⟩
            obtain ⟨x, hx⟩ : ∃ x, ns[k]? = some x := ⟨_, List.getElem?_eq_getElem (by omega)⟩
            obtain ⟨ad, rfl, c0⟩ := str_at HNR.out hx
            obtain ⟨ag, hq⟩ : ∃ ag, (x.toList == h.block.toList) = ag := ⟨_, rfl⟩
            have hag : agreesF h.height h.block ns = ag := by
              unfold agreesF
              rw [if_neg h1, if_neg (by omega), hk, show ((k : Int) + 1 - 1).toNat = k by omega, hx]
              exact hq
            have hi1 : IntKind.i64.wrap (h.height - 1) = (k : Int) := by rw [hk, show (k : Int) + 1 - 1 = (k : Int) by omega]; exact IntWalk.i64_in _ (by omega)
            have hkl : (k : Int) < (ns.length : Int) := by omega
            have hk0 : (0 : Int) ≤ (k : Int) := by omega
            have HAG := Lib.hid hag
            clear hag hk hx h1 h2
            go_upto_region 9 with fail
            go_quiet (fail)
            go_wp2_with (first
              | (go_at_call 29; refine (HSC.out _ (by first | exact Below.refl _ _ | exact bl_drewN (Below.refl _ _) _)).mono ?_; rintro x w5 ⟨rfl, b5⟩; have d5 : Below V4.heap.size V4 w5 := (by first | exact b5 | exact bl_trans (bl_drewN (Below.refl _ _) _) b5); have i0 := block_below d5 HR0.out; have i9 := block_below d5 HR9.out; have X0 := block_cell i0 (i := 0) rfl; have X1 := block_cell i0 (i := 1) rfl; have X2 := block_cell i0 (i := 2) rfl; have X3 := block_cell i0 (i := 3) rfl; have X4 := block_cell i0 (i := 4) rfl; have Y4 := block_cell i9 (i := 4) rfl; have HN5 := Lib.hid (Kd.row_below d5 HNR.out))
              | (go_at_call 30; refine (agrees_calls h A _ c t ns _ _ cn B0 _ rfl hln HN5.out).mono ?_; rw [HAG.out]; rintro x w6 ⟨rfl, b6⟩)
              | (go_at_call 31; refine (alive36_calls _).mono ?_; rintro x w7 ⟨rfl, b7⟩))
            go_ret
            exact ⟨rfl, bl_trans q5 (bl_trans d5 (bl_trans b6 b7))⟩
end Go.Proofs.Ytglneailkgminaa
/- Package mootlaw36: LightTells at inputs of bounded bulk. No claim of its own; no condition. -/
namespace Go.Proofs.Ytglneailkgminaa
open Go.ChangeShapes Go.WideShapes Go.ChangeAt Go.RowKit
set_option linter.unusedVariables false
theorem light_bulk (x : Light) (hb : kLight.bulk x ≤ 1048576) : x.head.votes.length ≤ 1048576 ∧ x.head.block.size ≤ 1048576 ∧ ∀ v ∈ x.head.votes, v.block.size ≤ 1048576 ∧ v.sig.size ≤ 1048576 := by
  have e : kLight.bulk x = kCert.bulk x.head + 1 + 1 := rfl
  exact cert_bulk x.head (by omega)
theorem config_bulk (x : Config) (hb : kConfig.bulk x ≤ 1048576) : x.roots.length ≤ 1048576 ∧ x.clients.length ≤ 1048576 := by
  have e : kConfig.bulk x = ((x.roots.map Kd.str.bulk).sum + 1) + (((x.clients.map Kd.str.bulk).sum + 1) + (1 + (1 + 1))) + 1 := rfl
  have h1 := sum_bulk Kd.str.bulk (fun y => Nat.le_add_left 1 _) x.roots
  have h2 := sum_bulk Kd.str.bulk (fun y => Nat.le_add_left 1 _) x.clients
  omega
theorem lighttells_x (x : Light) (y : Config) (z : Cert) (ns : List ByteArray) (A Ar Ac A2 An : Option Addr) (c cr cc c2 cn : Nat) (w : World) (h0 : kLight.bulk x ≤ 1048576) (h1 : kConfig.bulk y ≤ 1048576) (h2 : kCert.bulk z ≤ 1048576) (hln : ns.length ≤ 1048576)
    (hrh : kVote.Row 28 w.heap.size w A x.head.votes) (hrr : Kd.str.Row 9 w.heap.size w Ar y.roots) (hr : kVote.Row 28 w.heap.size w A2 z.votes) (hrn : Kd.str.Row 9 w.heap.size w An ns) :
    Calls Try.prog 6 #[.agg #[.int .i64 x.head.view, .int .i64 x.head.height, .string x.head.block, .slice A x.head.votes.length c, .int .i64 x.taken], .agg #[.slice Ar y.roots.length cr, .slice Ac y.clients.length cc, .int .i64 y.quorum, .int .i64 y.base, .int .i64 y.cap], .agg #[.int .i64 z.view, .int .i64 z.height, .string z.block, .slice A2 z.votes.length c2], .slice An ns.length cn] w
      fun e w' => e = .returned (.bool true) ∧ Below w.heap.size w w' :=
  lighttells_walk ⟨z.view, z.height, z.block⟩ ⟨x.head.view, x.head.height, x.head.block⟩ z.votes x.head.votes y.roots ns x.taken _ y.quorum y.base y.cap rfl A A2 Ar Ac An c c2 cr y.clients.length cc cn w.heap.size w (Nat.le_refl _) (cert_bulk z h2).1 (light_bulk x h0).1 (config_bulk y h1).1 hln hr hrh hrr hrn
end Go.Proofs.Ytglneailkgminaa
