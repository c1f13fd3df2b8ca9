/- Package mootlaw36: the walk of LightRises. No claim of its own; no condition. -/
import Derived.Test.YtglneailkgminaaLigR
import Derived.Test.YtglneailkgminaaInvL
namespace Go.Proofs.Ytglneailkgminaa
open Go.ChangeShapes Go.WideShapes Go.ChangeAt Go.RowKit
set_option linter.unusedVariables false
set_option linter.unusedSimpArgs false
theorem far5 {X : World} {g b : Nat} {o : Obj} {p q r s u : Value} (hn : b ≠ g) (h : X.heap[b]? = some o) :
    (((((X.setCell ⟨g, 0, none⟩ p).setCell ⟨g, 1, none⟩ q).setCell ⟨g, 2, none⟩ r).setCell ⟨g, 3, none⟩ s).setCell ⟨g, 4, none⟩ u).heap[b]? = some o := by
  rw [Below.heap_setCell _ ⟨g, 4, none⟩ _ b hn, Below.heap_setCell _ ⟨g, 3, none⟩ _ b hn, Below.heap_setCell _ ⟨g, 2, none⟩ _ b hn, Below.heap_setCell _ ⟨g, 1, none⟩ _ b hn, Below.heap_setCell _ ⟨g, 0, none⟩ _ b hn, h]
theorem lightnew_calls (w : World) : Calls Try.prog 32 #[] w fun e w' => e = .returned (.agg #[.int .i64 firstM.view, .int .i64 firstM.height, .string firstM.block, .slice none 0 0, .int .i64 0]) ∧ Below w.heap.size w w' := light_new firstB firstmark_calls w
def lr7t (G G5 k nl cl : Nat) (ad : Addr) (m h : Mark) (A A3 Ar Ac : Option Addr) (nx nh nR nC c c3 cr cc : Nat) (lx lh : List Vote) (t t1 q base cap : Int) (V : Nat) : Nat → Value → World → Prop
  | 0, y, _ => y = .agg #[.int .i64 h.view, .int .i64 h.height, .string h.block, .slice A nh c, .int .i64 t]
  | 1, y, _ => y = .agg #[.slice Ar nR cr, .slice Ac nC cc, .int .i64 q, .int .i64 base, .int .i64 cap]
  | 2, y, _ => y = .slice (some ad) nl cl
  | 3, y, _ => y = .int .i64 k
  | 4, y, _ => y = .pointer (some (ad.add (k * 4)))
  | 5, y, _ => y = .agg #[.int .i64 m.view, .int .i64 m.height, .string m.block, .slice A3 nx c3]
  | 6, y, w => ∃ A5 c5, y = .tuple #[.agg #[.int .i64 m.view, .int .i64 m.height, .string m.block, .slice A5 lx.length c5, .int .i64 t1], .bool true] ∧ kVote.Row 28 0 w A5 lx
  | 7, y, w => ∃ A5 c5, y = .tuple #[.agg #[.int .i64 m.view, .int .i64 m.height, .string m.block, .slice A5 lx.length c5, .int .i64 t1], .bool true] ∧ kVote.Row 28 0 w A5 lx
  | 8, y, w => ∃ A5 c5, y = .agg #[.int .i64 m.view, .int .i64 m.height, .string m.block, .slice A5 lx.length c5, .int .i64 t1] ∧ kVote.Row 28 0 w A5 lx
  | 9, y, _ => y = .bool true
  | 10, y, w => ∃ b, y = .pointer (some ⟨b, 0, none⟩) ∧ V ≤ b ∧ w.heap[b]? = some (.cells #[.int .i64 0, .int .i64 0, .string ⟨#[]⟩, .slice none 0 0, .int .i64 0] 55 (0, 0))
  | _, _, _ => True
def lr8t (G G5 b7 k nl cl : Nat) (ad : Addr) (m h : Mark) (A A3 A5 Ar : Option Addr) (nx nh nR c c3 c5 cr : Nat) (q : Int) : Nat → Value → World → Prop
  | 0, y, _ => y = .bool true
  | 1, y, _ => y = .bool true
  | 2, y, _ => y = .pointer (some ⟨b7, 0, none⟩)
  | 3, y, _ => y = .agg #[.int .i64 m.view, .int .i64 m.height, .string m.block, .slice A5 nx c5]
  | 4, y, _ => y = .agg #[.int .i64 m.view, .int .i64 m.height, .string ⟨#[]⟩]
  | 5, y, _ => y = .pointer (some ⟨G5, 0, none⟩)
  | 6, y, _ => y = .agg #[.int .i64 h.view, .int .i64 h.height, .string h.block, .slice A nh c]
  | 7, y, _ => y = .agg #[.int .i64 h.view, .int .i64 h.height, .string ⟨#[]⟩]
  | 8, y, _ => y = .bool true
  | 9, y, _ => y = .bool false
  | 10, y, _ => y = .bool false
  | 11, y, _ => y = .slice (some ad) nl cl
  | 12, y, _ => y = .int .i64 k
  | 13, y, _ => y = .pointer (some (ad.add (k * 4)))
  | 14, y, _ => y = .agg #[.int .i64 m.view, .int .i64 m.height, .string m.block, .slice A3 nx c3]
  | 15, y, _ => y = .pointer (some ⟨G, 0, none⟩)
  | 16, y, _ => y = .slice Ar nR cr
  | 17, y, _ => y = .pointer (some ⟨G, 2, none⟩)
  | 18, y, _ => y = .int .i64 q
  | 19, y, _ => y = .int .i64 0
  | 20, y, _ => y = .bool false
  | 21, y, _ => y = .bool false
  | 22, y, _ => y = .bool false
  | 23, y, _ => y = .bool false
  | 24, y, _ => y = .bool true
  | 25, y, _ => y = .bool false
  | 26, y, _ => y = .bool false
  | 27, y, _ => y = undef
  | 28, y, _ => y = undef
  | 29, y, _ => y = undef
  | 30, y, _ => y = undef
  | 31, y, _ => y = undef
  | 32, y, _ => y = undef
  | 33, y, _ => y = undef
  | 34, y, _ => y = .bool false
  | 35, y, _ => y = .bool false
  | _, _, _ => True
def lr7f (G G5 k nl cl : Nat) (ad : Addr) (m h : Mark) (A A3 Ar Ac : Option Addr) (nx nh nR nC c c3 cr cc : Nat) (lx lh : List Vote) (t t1 q base cap : Int) (V : Nat) : Nat → Value → World → Prop
  | 0, y, _ => y = .agg #[.int .i64 h.view, .int .i64 h.height, .string h.block, .slice A nh c, .int .i64 t]
  | 1, y, _ => y = .agg #[.slice Ar nR cr, .slice Ac nC cc, .int .i64 q, .int .i64 base, .int .i64 cap]
  | 2, y, _ => y = .slice (some ad) nl cl
  | 3, y, _ => y = .int .i64 k
  | 4, y, _ => y = .pointer (some (ad.add (k * 4)))
  | 5, y, _ => y = .agg #[.int .i64 m.view, .int .i64 m.height, .string m.block, .slice A3 nx c3]
  | 6, y, w => ∃ A5 c5, y = .tuple #[.agg #[.int .i64 h.view, .int .i64 h.height, .string h.block, .slice A5 lh.length c5, .int .i64 t], .bool false] ∧ kVote.Row 28 0 w A5 lh
  | 7, y, w => ∃ A5 c5, y = .tuple #[.agg #[.int .i64 h.view, .int .i64 h.height, .string h.block, .slice A5 lh.length c5, .int .i64 t], .bool false] ∧ kVote.Row 28 0 w A5 lh
  | 8, y, w => ∃ A5 c5, y = .agg #[.int .i64 h.view, .int .i64 h.height, .string h.block, .slice A5 lh.length c5, .int .i64 t] ∧ kVote.Row 28 0 w A5 lh
  | 9, y, _ => y = .bool false
  | 10, y, w => ∃ b, y = .pointer (some ⟨b, 0, none⟩) ∧ V ≤ b ∧ w.heap[b]? = some (.cells #[.int .i64 0, .int .i64 0, .string ⟨#[]⟩, .slice none 0 0, .int .i64 0] 55 (0, 0))
  | _, _, _ => True
def lr8f (G G5 b7 k nl cl : Nat) (ad : Addr) (m h : Mark) (A A3 A5 Ar : Option Addr) (nx nh nR c c3 c5 cr : Nat) (q : Int) : Nat → Value → World → Prop
  | 0, y, _ => y = .bool false
  | 1, y, _ => y = .bool false
  | 2, y, _ => y = undef
  | 3, y, _ => y = undef
  | 4, y, _ => y = undef
  | 5, y, _ => y = undef
  | 6, y, _ => y = undef
  | 7, y, _ => y = undef
  | 8, y, _ => y = undef
  | 9, y, _ => y = undef
  | 10, y, _ => y = undef
  | 11, y, _ => y = undef
  | 12, y, _ => y = undef
  | 13, y, _ => y = undef
  | 14, y, _ => y = undef
  | 15, y, _ => y = undef
  | 16, y, _ => y = undef
  | 17, y, _ => y = undef
  | 18, y, _ => y = undef
  | 19, y, _ => y = undef
  | 20, y, _ => y = undef
  | 21, y, _ => y = undef
  | 22, y, _ => y = .bool false
  | 23, y, _ => y = .bool false
  | 24, y, _ => y = .bool false
  | 25, y, _ => y = .bool true
  | 26, y, _ => y = .bool true
  | 27, y, _ => y = .pointer (some ⟨b7, 0, none⟩)
  | 28, y, _ => y = .agg #[.int .i64 h.view, .int .i64 h.height, .string h.block, .slice A5 nh c5]
  | 29, y, _ => y = .agg #[.int .i64 h.view, .int .i64 h.height, .string ⟨#[]⟩]
  | 30, y, _ => y = .pointer (some ⟨G5, 0, none⟩)
  | 31, y, _ => y = .agg #[.int .i64 h.view, .int .i64 h.height, .string h.block, .slice A nh c]
  | 32, y, _ => y = .agg #[.int .i64 h.view, .int .i64 h.height, .string ⟨#[]⟩]
  | 33, y, _ => y = .bool false
  | 34, y, _ => y = .bool false
  | 35, y, _ => y = .bool false
  | _, _, _ => True
set_option maxHeartbeats 16000000 in
set_option maxRecDepth 100000 in
theorem lightrises_walk (l : List Cert) (roots : List ByteArray) (q base cap : Int) (Ar Ac Al : Option Addr) (cr nC cc cl B0 : Nat) (w : World) (hB0 : B0 ≤ w.heap.size) (hl : l.length ≤ 1048576) (hlx : ∀ x ∈ l, x.votes.length ≤ 1048576) (hlr : roots.length ≤ 1048576)
    (hrl : kCert.Row 35 B0 w Al l) (hrr : Kd.str.Row 9 B0 w Ar roots) :
    Calls Try.prog 7 #[.agg #[.slice Ar roots.length cr, .slice Ac nC cc, .int .i64 q, .int .i64 base, .int .i64 cap], .slice Al l.length cl] w fun e w' => e = .returned (.bool true) ∧ Below w.heap.size w w' := by
  have q0 := bl_alloc (Below.refl w.heap.size w) (.cells #[.slice Ar roots.length cr, .slice Ac nC cc, .int .i64 q, .int .i64 base, .int .i64 cap] 57)
  have a0 : (w.alloc (.cells #[.slice Ar roots.length cr, .slice Ac nC cc, .int .i64 q, .int .i64 base, .int .i64 cap] 57)).heap[w.heap.size]? = some (.cells #[.slice Ar roots.length cr, .slice Ac nC cc, .int .i64 q, .int .i64 base, .int .i64 cap] 57 (0, 0)) := alloc_new w _
  have hlq := Kd.row_below q0 hrl
  have hrq := Kd.row_below q0 hrr
  obtain ⟨fm, hfm⟩ : ∃ fm, firstM = fm := ⟨_, rfl⟩
  have hnew := fun W => lightnew_calls W
  rw [hfm] at hnew
  have HNEW := Lib.hid hnew
  clear hnew hfm hrl hrr
  go_enter Try.func7, Try.ntmps7
  go_upto_region 1 with fail
  change Code.wp _ _ _ _ (w.alloc (.cells #[.slice Ar roots.length cr, .slice Ac nC cc, .int .i64 q, .int .i64 base, .int .i64 cap] 57))
  obtain ⟨G, hG⟩ : ∃ G, w.heap.size = G := ⟨_, rfl⟩
  have leG : w.heap.size ≤ G := by omega
  generalize w.alloc (.cells #[.slice Ar roots.length cr, .slice Ac nC cc, .int .i64 q, .int .i64 base, .int .i64 cap] 57) = V0 at *
  simp only [hG] at a0 ⊢
  clear hG
  go_upto_region 3 with (go_at_call 31; refine (alive36_calls _).mono ?_; rintro x w1 ⟨rfl, b1⟩)
  go_upto_region 4 with (go_at_call 32; refine (HNEW.out _).mono ?_; rintro x w2 ⟨rfl, b2⟩)
  change Code.wp _ _ _ _ (w2.alloc (.cells #[.int .i64 fm.view, .int .i64 fm.height, .string fm.block, .slice none 0 0, .int .i64 0] 55))
  have bq := bl_alloc (bl_trans b1 b2) (.cells #[.int .i64 fm.view, .int .i64 fm.height, .string fm.block, .slice none 0 0, .int .i64 0] 55)
  have a5 : (w2.alloc (.cells #[.int .i64 fm.view, .int .i64 fm.height, .string fm.block, .slice none 0 0, .int .i64 0] 55)).heap[w2.heap.size]? = some (.cells #[.int .i64 fm.view, .int .i64 fm.height, .string fm.block, .slice none 0 0, .int .i64 0] 55 (0, 0)) := alloc_new w2 _
  have a00 := block_below bq a0
  have hlq1 := Kd.row_below bq hlq
  have hrq1 := Kd.row_below bq hrq
  have q1 := bl_trans q0 bq
  have nG5 : G ≠ w2.heap.size := by have := blk_lt a0; have := (bl_trans b1 b2).size; omega
  have le5 : w.heap.size ≤ w2.heap.size := Nat.le_trans q0.size (bl_trans b1 b2).size
  obtain ⟨G5, hG5⟩ : ∃ G5, w2.heap.size = G5 := ⟨_, rfl⟩
  generalize w2.alloc (.cells #[.int .i64 fm.view, .int .i64 fm.height, .string fm.block, .slice none 0 0, .int .i64 0] 55) = V1 at *
  simp only [hG5] at a5 nG5 le5 ⊢
  clear hG5 a0 hlq hrq q0 b1 b2 bq HNEW
  have h0len : ([] : List Vote).length ≤ 1048576 := by decide
  go_wp2_with fail
  go_loopw [6] (fun iv w' => ∃ (k : Nat) (h : Mark) (lh : List Vote) (A : Option Addr) (c : Nat) (t : Int), k ≤ l.length ∧ k ≤ 12 ∧ iv = .int .i64 k ∧ Below w.heap.size w w' ∧ w'.heap[G5]? = some (.cells #[.int .i64 h.view, .int .i64 h.height, .string h.block, .slice A lh.length c, .int .i64 t] 55 (0, 0)) ∧ w'.heap[G]? = some (.cells #[.slice Ar roots.length cr, .slice Ac nC cc, .int .i64 q, .int .i64 base, .int .i64 cap] 57 (0, 0)) ∧ lh.length ≤ 1048576 ∧ kVote.Row 28 0 w' A lh ∧ kCert.Row 35 B0 w' Al l ∧ Kd.str.Row 9 B0 w' Ar roots) (fun iv _ => l.length - (intOf iv).toNat)
  case atStart => exact ⟨0, fm, [], none, 0, 0, by omega, by omega, rfl, q1, a5, a00, h0len, Kd.row_nil _ _ _ _ _, hlq1, hrq1⟩
  case round =>
    clear a5 a00 hlq1 hrq1 q1
    obtain ⟨k, h, lh, A, c, t, hk1, hk2, rfl, bel, g5, g0, hlenh, rowh, rowl, rowr⟩ := hrel
    rename World => V
    by_cases hlt : k < l.length ∧ k < 12
    case neg =>
      by_cases h1 : k < l.length
      · have hkI : (k : Int) < (l.length : Int) := by omega
        have h12 : ¬ ((k : Int) < 12) := by omega
        go_wp2_with fail
        go_ret
        exact ⟨rfl, bel⟩
      · have hnI : ¬ ((k : Int) < (l.length : Int)) := by omega
        go_wp2_with fail
        go_ret
        exact ⟨rfl, bel⟩
    case pos =>
      obtain ⟨h1, h2⟩ := hlt
      obtain ⟨x, hx⟩ : ∃ x, l[k]? = some x := ⟨_, List.getElem?_eq_getElem h1⟩
      obtain ⟨ad, rfl, A3, c3, e0, e1, e2, e3, _, _, _, _, _, rowx⟩ := kCert_at rowl hx
      have hlenx := hlx x (List.mem_of_getElem? hx)
      obtain ⟨xv, xh, xb, lx⟩ := x
      dsimp only at e0 e1 e2 e3 rowx hlenx
      obtain ⟨m, hm⟩ : ∃ m : Mark, m = ⟨xv, xh, xb⟩ := ⟨_, rfl⟩
      obtain rfl : m.view = xv := by rw [hm]
      obtain rfl : m.height = xh := by rw [hm]
      obtain rfl : m.block = xb := by rw [hm]
      clear hm hx
      have hkI : (k : Int) < (l.length : Int) := by omega
      have hk0 : (0 : Int) ≤ (k : Int) := by omega
      have h12 : (k : Int) < 12 := by omega
      have lB5 : B0 ≤ G5 := by omega
      have HKI := Lib.hid hkI
      have HG := Lib.hid g0
      have HG5 := Lib.hid g5
      have E0 := Lib.hid e0
      have E1 := Lib.hid e1
      have E2 := Lib.hid e2
      have E3 := Lib.hid e3
      have HX := Lib.hid rowx
      have HH := Lib.hid (row_up (Nat.zero_le B0) rowh)
      have HRR := Lib.hid rowr
      have HL := Lib.hid rowl
      have HB0 := Lib.hid (Nat.le_trans hB0 bel.size)
      clear g0 g5 e0 e1 e2 e3 rowx rowh rowr rowl
      obtain ⟨t1, ht1⟩ : ∃ t1, IntKind.i64.wrap (t + 1) = t1 := ⟨_, rfl⟩
      obtain ⟨res, hres⟩ : ∃ r, chkC m lx roots q = r := ⟨_, rfl⟩
      obtain ⟨hi, hhi⟩ : ∃ r, higherF m h = r := ⟨_, rfl⟩
      obtain ⟨bb, hbb⟩ : ∃ bb, ((res == 0) && hi) = bb := ⟨_, rfl⟩
      have hw : wantF m h lx roots q = bb := by unfold wantF; rw [hres, hhi, hbb]
      have htk := fun (W : World) (h1 : kVote.Row 28 B0 W A3 lx) (h2 : kVote.Row 28 B0 W A lh) (h3 : Kd.str.Row 9 B0 W Ar roots) (hB : B0 ≤ W.heap.size) => take_calls m h lx lh roots t t1 q base cap ht1 A A3 Ar Ac c c3 cr nC cc B0 W hB hlenx hlenh hlr h1 h2 h3
      have hrc := fun (W : World) (h1 : kVote.Row 28 B0 W A3 lx) (h2 : Kd.str.Row 9 B0 W Ar roots) => refcert_calls m lx roots q A3 Ar c3 cr B0 W hlenx hlr h1 h2
      have hh := fun W => rank_higher m h W
      simp only [hres] at hrc
      simp only [hhi] at hh
      simp only [hw] at htk
      have HTK0 := Lib.hid htk
      have HRC := Lib.hid hrc
      have HHI := Lib.hid hh
      have HBB := Lib.hid hbb
      clear htk hrc hh hw hres hhi hbb ht1
      cases bb
      case false =>
        have HTK := Lib.hid fun W h1 h2 h3 hB => (HTK0.out W h1 h2 h3 hB).mono fun _ _ k => take_no k
        have hq : ∀ W, (binOp .neq 26 (.agg #[.int .i64 h.view, .int .i64 h.height, .string ⟨#[]⟩]) (.agg #[.int .i64 h.view, .int .i64 h.height, .string ⟨#[]⟩])).run Try.prog W = .ok (.bool false) W := fun W => by
          have := neqMark ⟨h.view, h.height, ⟨#[]⟩⟩ ⟨h.view, h.height, ⟨#[]⟩⟩ W
          rw [decide_eq_true rfl] at this
          exact this
        have HQ := Lib.hid hq
        clear hq HTK0 HBB
        go_upto_region 7 with fail
        refine wp_region_any (by kernel_rfl) ?_
        refine wpAny_invlA [true, true, true, true, true, true, true, true, true, true, true, false, false] [false, false, false, false, false, false, false, false, false, true, false, false, false] [11, 12] (by kernel_rfl) (by kernel_rfl) Rb (lr7f G G5 k l.length cl ad m h A A3 Ar Ac lx.length lh.length roots.length nC c c3 cr cc lx lh t t1 q base cap V.heap.size) rb_refl rb_trans (fun c a d v w h => by cases d <;> exact h) ⟨?_, ?_, ?_, ?_, ?_, ?_, ?_, ?_, ?_, ?_, ?_, trivial⟩ ?_
        · intro Fr u w1 hTold K hK
          obtain ⟨hN, hO, hR, hdep⟩ := hTold
          rw [if_pos (by rfl)]
          have y5 : Fr.tmps[5]? = some (.pointer (some ⟨G5, 0, none⟩)) := hO 5 _ rfl rfl
          clear hN hO hdep
          have gg := block_below hR HG5.out
          have z0 := block_cell gg (i := 0) rfl
          have z1 := block_cell gg (i := 1) rfl
          have z2 := block_cell gg (i := 2) rfl
          have z3 := block_cell gg (i := 3) rfl
          have z4 := block_cell gg (i := 4) rfl
          go_simp
          refine hK _ _ (rb_refl _) fun w3 h3 => ?_
          exact rfl
        · intro Fr u w1 hTold K hK
          obtain ⟨hN, hO, hR, hdep⟩ := hTold
          rw [if_pos (by rfl)]
          have y2 : Fr.tmps[2]? = some (.pointer (some ⟨G, 0, none⟩)) := hO 2 _ rfl rfl
          clear hN hO hdep
          have gg := block_below hR HG.out
          have z0 := block_cell gg (i := 0) rfl
          have z1 := block_cell gg (i := 1) rfl
          have z2 := block_cell gg (i := 2) rfl
          have z3 := block_cell gg (i := 3) rfl
          have z4 := block_cell gg (i := 4) rfl
          go_simp
          refine hK _ _ (rb_refl _) fun w3 h3 => ?_
          exact rfl
        · intro Fr u w1 hTold K hK
          obtain ⟨hN, hO, hR, hdep⟩ := hTold
          rw [if_pos (by rfl)]
          have y1 : Fr.tmps[1]? = some (.slice (some ad) l.length cl) := hO 1 _ rfl rfl
          clear hN hO hdep
          go_simp
          refine hK _ _ (rb_refl _) fun w3 h3 => ?_
          exact rfl
        · intro Fr u w1 hTold K hK
          obtain ⟨hN, hO, hR, hdep⟩ := hTold
          rw [if_pos (by rfl)]
          have y6 : Fr.tmps[6]? = some (.int .i64 k) := hO 6 _ rfl rfl
          clear hN hO hdep
          go_simp
          refine hK _ _ (rb_refl _) fun w3 h3 => ?_
          exact rfl
        · intro Fr u w1 hTold K hK
          obtain ⟨hN, hO, hR, hdep⟩ := hTold
          rw [if_pos (by rfl)]
          have x2 : Fr.tmps[25]? = some (u 2) := hN 2 _ 25 rfl rfl rfl
          rw [show u 2 = .slice (some ad) l.length cl from hdep 2 (by kernel_rfl) w1 (rb_refl _)] at x2
          have x3 : Fr.tmps[26]? = some (u 3) := hN 3 _ 26 rfl rfl rfl
          rw [show u 3 = .int .i64 k from hdep 3 (by kernel_rfl) w1 (rb_refl _)] at x3
          clear hN hO hdep
          have hkI := HKI.out
          go_simp
          refine hK _ _ (rb_refl _) fun w3 h3 => ?_
          exact rfl
        · intro Fr u w1 hTold K hK
          obtain ⟨hN, hO, hR, hdep⟩ := hTold
          rw [if_pos (by rfl)]
          have x4 : Fr.tmps[27]? = some (u 4) := hN 4 _ 27 rfl rfl rfl
          rw [show u 4 = .pointer (some (ad.add (k * 4))) from hdep 4 (by kernel_rfl) w1 (rb_refl _)] at x4
          clear hN hO hdep
          have z0 := cell_below hR E0.out
          have z1 := cell_below hR E1.out
          have z2 := cell_below hR E2.out
          have z3 := cell_below hR E3.out
          go_simp
          refine hK _ _ (rb_refl _) fun w3 h3 => ?_
          exact rfl
        · intro Fr u w1 hTold K hK
          obtain ⟨hN, hO, hR, hdep⟩ := hTold
          rw [if_pos (by rfl)]
          have x0 : Fr.tmps[23]? = some (u 0) := hN 0 _ 23 rfl rfl rfl
          rw [show u 0 = .agg #[.int .i64 h.view, .int .i64 h.height, .string h.block, .slice A lh.length c, .int .i64 t] from hdep 0 (by kernel_rfl) w1 (rb_refl _)] at x0
          have x1 : Fr.tmps[24]? = some (u 1) := hN 1 _ 24 rfl rfl rfl
          rw [show u 1 = .agg #[.slice Ar roots.length cr, .slice Ac nC cc, .int .i64 q, .int .i64 base, .int .i64 cap] from hdep 1 (by kernel_rfl) w1 (rb_refl _)] at x1
          have x5 : Fr.tmps[28]? = some (u 5) := hN 5 _ 28 rfl rfl rfl
          rw [show u 5 = .agg #[.int .i64 m.view, .int .i64 m.height, .string m.block, .slice A3 lx.length c3] from hdep 5 (by kernel_rfl) w1 (rb_refl _)] at x5
          clear hN hO hdep
          go_simp
          refine (HTK.out w1 (Kd.row_below hR HX.out) (Kd.row_below hR HH.out) (Kd.row_below hR HRR.out) (Nat.le_trans HB0.out hR.size)).mono ?_
          rintro x w2 ⟨⟨A5, c5, rfl, k3⟩, b2⟩
          refine hK _ _ b2 fun w3 h3 => ?_
          exact ⟨A5, c5, rfl, Kd.row_below h3 k3⟩
        · intro Fr u w1 hTold K hK
          obtain ⟨hN, hO, hR, hdep⟩ := hTold
          rw [if_pos (by rfl)]
          have x6 : Fr.tmps[29]? = some (u 6) := hN 6 _ 29 rfl rfl rfl
          obtain ⟨A5, c5, hu6, k6⟩ := hdep 6 (by kernel_rfl) w1 (rb_refl _)
          rw [hu6] at x6
          clear hN hO hdep
          go_simp
          refine hK _ _ (rb_refl _) fun w3 h3 => ?_
          exact ⟨A5, c5, rfl, Kd.row_below h3 k6⟩
        · intro Fr u w1 hTold K hK
          obtain ⟨hN, hO, hR, hdep⟩ := hTold
          rw [if_pos (by rfl)]
          have x7 : Fr.tmps[22]? = some (u 7) := hN 7 _ 22 rfl rfl rfl
          obtain ⟨A5, c5, hu7, k7⟩ := hdep 7 (by kernel_rfl) w1 (rb_refl _)
          rw [hu7] at x7
          clear hN hO hdep
          go_simp
          refine hK _ _ (rb_refl _) fun w3 h3 => ?_
          exact ⟨A5, c5, rfl, Kd.row_below h3 k7⟩
        · intro Fr u w1 hTold
          obtain ⟨hN, hO, hR, hdep⟩ := hTold
          have x7 : Fr.tmps[22]? = some (u 7) := hN 7 _ 22 rfl rfl rfl
          obtain ⟨A5, c5, hu7, k7⟩ := hdep 7 (by kernel_rfl) w1 (rb_refl _)
          rw [hu7] at x7
          clear hN hO hdep
          refine ⟨.bool false, fun w2 h2 => ?_, Or.inl ⟨by rfl, fun w => by go_simp⟩⟩
          exact rfl
        · intro Fr u w1 hTold K hK
          obtain ⟨hN, hO, hR, hdep⟩ := hTold
          rw [if_pos (by rfl)]
          clear hN hO hdep
          go_simp
          refine hK _ _ (bl_alloc (Below.refl _ _) _) fun w3 h3 => ?_
          exact ⟨w1.heap.size, rfl, hR.size, block_below h3 (alloc_new w1 _)⟩
        · intro u w1 hR hall
          obtain ⟨A5, c5, e8, k8⟩ := hall 8 rfl
          have e9 : u 9 = .bool false := hall 9 rfl
          obtain ⟨b7, e10, le7, g7⟩ := hall 10 rfl
          have bw : Below V.heap.size V w1 := bl_trans (bl_drew (Below.refl _ _)) hR
          have Y0 := block_cell g7 (i := 0) rfl
          have Y1 := block_cell g7 (i := 1) rfl
          have Y2 := block_cell g7 (i := 2) rfl
          have Y3 := block_cell g7 (i := 3) rfl
          have Y4 := block_cell g7 (i := 4) rfl
          have Z0 : w1.frozen? ⟨b7, 0, none⟩ = false := block_free g7
          have Z1 : w1.frozen? ⟨b7, 1, none⟩ = false := block_free g7
          have Z2 : w1.frozen? ⟨b7, 2, none⟩ = false := block_free g7
          have Z3 : w1.frozen? ⟨b7, 3, none⟩ = false := block_free g7
          have Z4 : w1.frozen? ⟨b7, 4, none⟩ = false := block_free g7
          change wpList _ _ _ ([_, _]) _ _
          simp only [frameM, frameM_nil, Act.put, List.setIfInBounds_toArray, List.set_cons_zero, List.set_cons_succ, Nat.reduceAdd, e8, e9, e10]
          clear hall e8 e9 e10
          go_upto_region 8 with fail
          have r7 : (((((w1.setCell ⟨b7, 0, none⟩ (.int .i64 h.view)).setCell ⟨b7, 1, none⟩ (.int .i64 h.height)).setCell ⟨b7, 2, none⟩ (.string h.block)).setCell ⟨b7, 3, none⟩ (.slice A5 lh.length c5)).setCell ⟨b7, 4, none⟩ (.int .i64 t)).heap[b7]? = some (.cells #[.int .i64 h.view, .int .i64 h.height, .string h.block, .slice A5 lh.length c5, .int .i64 t] 55 (0, 0)) := res5 (p := .int .i64 h.view) (q := .int .i64 h.height) (r := .string h.block) (s := .slice A5 lh.length c5) (u := .int .i64 t) g7
          have n5 : G5 ≠ b7 := by have := blk_lt HG5.out; omega
          have n0 : G ≠ b7 := by have := blk_lt HG.out; omega
          have r5 : (((((w1.setCell ⟨b7, 0, none⟩ (.int .i64 h.view)).setCell ⟨b7, 1, none⟩ (.int .i64 h.height)).setCell ⟨b7, 2, none⟩ (.string h.block)).setCell ⟨b7, 3, none⟩ (.slice A5 lh.length c5)).setCell ⟨b7, 4, none⟩ (.int .i64 t)).heap[G5]? = some (.cells #[.int .i64 h.view, .int .i64 h.height, .string h.block, .slice A lh.length c, .int .i64 t] 55 (0, 0)) := far5 (p := .int .i64 h.view) (q := .int .i64 h.height) (r := .string h.block) (s := .slice A5 lh.length c5) (u := .int .i64 t) n5 (block_below bw HG5.out)
          have r0 : (((((w1.setCell ⟨b7, 0, none⟩ (.int .i64 h.view)).setCell ⟨b7, 1, none⟩ (.int .i64 h.height)).setCell ⟨b7, 2, none⟩ (.string h.block)).setCell ⟨b7, 3, none⟩ (.slice A5 lh.length c5)).setCell ⟨b7, 4, none⟩ (.int .i64 t)).heap[G]? = some (.cells #[.slice Ar roots.length cr, .slice Ac nC cc, .int .i64 q, .int .i64 base, .int .i64 cap] 57 (0, 0)) := far5 (p := .int .i64 h.view) (q := .int .i64 h.height) (r := .string h.block) (s := .slice A5 lh.length c5) (u := .int .i64 t) n0 (block_below bw HG.out)
          have bz : Below V.heap.size V (((((w1.setCell ⟨b7, 0, none⟩ (.int .i64 h.view)).setCell ⟨b7, 1, none⟩ (.int .i64 h.height)).setCell ⟨b7, 2, none⟩ (.string h.block)).setCell ⟨b7, 3, none⟩ (.slice A5 lh.length c5)).setCell ⟨b7, 4, none⟩ (.int .i64 t)) := bel5 (p := .int .i64 h.view) (q := .int .i64 h.height) (r := .string h.block) (s := .slice A5 lh.length c5) (u := .int .i64 t) bw le7
          have kk : ∀ (B : Nat) (E : List TypeId), B ≤ b7 → 55 ∉ E → Keeps B E w1 (((((w1.setCell ⟨b7, 0, none⟩ (.int .i64 h.view)).setCell ⟨b7, 1, none⟩ (.int .i64 h.height)).setCell ⟨b7, 2, none⟩ (.string h.block)).setCell ⟨b7, 3, none⟩ (.slice A5 lh.length c5)).setCell ⟨b7, 4, none⟩ (.int .i64 t)) := fun B E h1 h2 => keep5 (p := .int .i64 h.view) (q := .int .i64 h.height) (r := .string h.block) (s := .slice A5 lh.length c5) (u := .int .i64 t) g7 h1 h2
          have k9 := Kd.row_keep (kk 0 [28] (Nat.zero_le _) (by decide)) k8
          have n0' := cell_below bz E0.out
          have n1' := cell_below bz E1.out
          have n2' := cell_below bz E2.out
          have n3' := cell_below bz E3.out
          have hx2 := Lib.hid (Kd.row_below bz HX.out)
          have hrr2 := Lib.hid (Kd.row_below bz HRR.out)
          have hl2 := Lib.hid (Kd.row_below bz HL.out)
          clear kk k8 g7 Y0 Y1 Y2 Y3 Y4 Z0 Z1 Z2 Z3 Z4 n5 n0 hR bw HG HG5 E0 E1 E2 E3 HX HRR HH
          generalize ((((w1.setCell ⟨b7, 0, none⟩ (.int .i64 h.view)).setCell ⟨b7, 1, none⟩ (.int .i64 h.height)).setCell ⟨b7, 2, none⟩ (.string h.block)).setCell ⟨b7, 3, none⟩ (.slice A5 lh.length c5)).setCell ⟨b7, 4, none⟩ (.int .i64 t) = V8 at *
          have E0 := Lib.hid n0'
          have E1 := Lib.hid n1'
          have E2 := Lib.hid n2'
          have E3 := Lib.hid n3'
          have HG := Lib.hid r0
          have HG5 := Lib.hid r5
          have HG7 := Lib.hid r7
          have HX := hx2
          have HRR := hrr2
          have HK9 := Lib.hid k9
          clear n0' n1' n2' n3' r0 r5 r7 hx2 hrr2 k9
          refine wp_region_invA (by kernel_rfl) (by kernel_rfl) Rb (lr8f G G5 b7 k l.length cl ad m h A A3 A5 Ar lx.length lh.length roots.length c c3 c5 cr q) rb_refl rb_trans ⟨?_, ?_, ?_, ?_, ?_, ?_, ?_, ?_, ?_, ?_, ?_, ?_, ?_, ?_, ?_, ?_, ?_, ?_, ?_, ?_, ?_, ?_, ?_, ?_, ?_, ?_, ?_, ?_, ?_, ?_, ?_, ?_, ?_, ?_, ?_, ?_, trivial⟩ ?_
          · intro Fr u hN hO w1 hR hdep K hK
            rw [if_pos (by rfl)]
            have y8 : Fr.tmps[8]? = some (.bool false) := hO 8 _ rfl rfl
            clear hN hO hdep
            go_simp
            refine hK _ _ (rb_refl _) fun w3 h3 => ?_
            exact rfl
          · intro Fr u hN hO w1 hR hdep K hK
            rw [if_pos (by rfl)]
            have x0 : Fr.tmps[32]? = some (u 0) := hN 0 _ 32 rfl rfl rfl
            rw [show u 0 = .bool false from hdep 0 (by kernel_rfl) w1 (rb_refl _)] at x0
            clear hN hO hdep
            go_simp
            refine hK _ _ (rb_refl _) fun w3 h3 => ?_
            exact rfl
          · intro Fr u hN hO w1 hR hdep K hK
            have gx : Fr.tmps[33]? = some (u 1) := hN 1 _ 33 rfl rfl rfl
            rw [show u 1 = .bool false from hdep 1 (by kernel_rfl) w1 (rb_refl _)] at gx
            rw [if_neg (wanted_off (s := 33) rfl (by kernel_rfl) gx (by decide))]
            exact hK _ _ (rb_refl _) fun w3 h3 => rfl
          · intro Fr u hN hO w1 hR hdep K hK
            have gx : Fr.tmps[33]? = some (u 1) := hN 1 _ 33 rfl rfl rfl
            rw [show u 1 = .bool false from hdep 1 (by kernel_rfl) w1 (rb_refl _)] at gx
            rw [if_neg (wanted_off (s := 33) rfl (by kernel_rfl) gx (by decide))]
            exact hK _ _ (rb_refl _) fun w3 h3 => rfl
          · intro Fr u hN hO w1 hR hdep K hK
            have gx : Fr.tmps[33]? = some (u 1) := hN 1 _ 33 rfl rfl rfl
            rw [show u 1 = .bool false from hdep 1 (by kernel_rfl) w1 (rb_refl _)] at gx
            rw [if_neg (wanted_off (s := 33) rfl (by kernel_rfl) gx (by decide))]
            exact hK _ _ (rb_refl _) fun w3 h3 => rfl
          · intro Fr u hN hO w1 hR hdep K hK
            have gx : Fr.tmps[33]? = some (u 1) := hN 1 _ 33 rfl rfl rfl
            rw [show u 1 = .bool false from hdep 1 (by kernel_rfl) w1 (rb_refl _)] at gx
            rw [if_neg (wanted_off (s := 33) rfl (by kernel_rfl) gx (by decide))]
            exact hK _ _ (rb_refl _) fun w3 h3 => rfl
          · intro Fr u hN hO w1 hR hdep K hK
            have gx : Fr.tmps[33]? = some (u 1) := hN 1 _ 33 rfl rfl rfl
            rw [show u 1 = .bool false from hdep 1 (by kernel_rfl) w1 (rb_refl _)] at gx
            rw [if_neg (wanted_off (s := 33) rfl (by kernel_rfl) gx (by decide))]
            exact hK _ _ (rb_refl _) fun w3 h3 => rfl
          · intro Fr u hN hO w1 hR hdep K hK
            have gx : Fr.tmps[33]? = some (u 1) := hN 1 _ 33 rfl rfl rfl
            rw [show u 1 = .bool false from hdep 1 (by kernel_rfl) w1 (rb_refl _)] at gx
            rw [if_neg (wanted_off (s := 33) rfl (by kernel_rfl) gx (by decide))]
            exact hK _ _ (rb_refl _) fun w3 h3 => rfl
          · intro Fr u hN hO w1 hR hdep K hK
            have gx : Fr.tmps[33]? = some (u 1) := hN 1 _ 33 rfl rfl rfl
            rw [show u 1 = .bool false from hdep 1 (by kernel_rfl) w1 (rb_refl _)] at gx
            rw [if_neg (wanted_off (s := 33) rfl (by kernel_rfl) gx (by decide))]
            exact hK _ _ (rb_refl _) fun w3 h3 => rfl
          · intro Fr u hN hO w1 hR hdep K hK
            have gx : Fr.tmps[33]? = some (u 1) := hN 1 _ 33 rfl rfl rfl
            rw [show u 1 = .bool false from hdep 1 (by kernel_rfl) w1 (rb_refl _)] at gx
            rw [if_neg (wanted_off (s := 33) rfl (by kernel_rfl) gx (by decide))]
            exact hK _ _ (rb_refl _) fun w3 h3 => rfl
          · intro Fr u hN hO w1 hR hdep K hK
            have gx : Fr.tmps[33]? = some (u 1) := hN 1 _ 33 rfl rfl rfl
            rw [show u 1 = .bool false from hdep 1 (by kernel_rfl) w1 (rb_refl _)] at gx
            rw [if_neg (wanted_off (s := 33) rfl (by kernel_rfl) gx (by decide))]
            exact hK _ _ (rb_refl _) fun w3 h3 => rfl
          · intro Fr u hN hO w1 hR hdep K hK
            have gx : Fr.tmps[42]? = some (u 10) := hN 10 _ 42 rfl rfl rfl
            rw [show u 10 = undef from hdep 10 (by kernel_rfl) w1 (rb_refl _)] at gx
            rw [if_neg (wanted_undef (s := 42) rfl (by kernel_rfl) gx)]
            exact hK _ _ (rb_refl _) fun w3 h3 => rfl
          · intro Fr u hN hO w1 hR hdep K hK
            have gx : Fr.tmps[42]? = some (u 10) := hN 10 _ 42 rfl rfl rfl
            rw [show u 10 = undef from hdep 10 (by kernel_rfl) w1 (rb_refl _)] at gx
            rw [if_neg (wanted_undef (s := 42) rfl (by kernel_rfl) gx)]
            exact hK _ _ (rb_refl _) fun w3 h3 => rfl
          · intro Fr u hN hO w1 hR hdep K hK
            have gx : Fr.tmps[42]? = some (u 10) := hN 10 _ 42 rfl rfl rfl
            rw [show u 10 = undef from hdep 10 (by kernel_rfl) w1 (rb_refl _)] at gx
            rw [if_neg (wanted_undef (s := 42) rfl (by kernel_rfl) gx)]
            exact hK _ _ (rb_refl _) fun w3 h3 => rfl
          · intro Fr u hN hO w1 hR hdep K hK
            have gx : Fr.tmps[42]? = some (u 10) := hN 10 _ 42 rfl rfl rfl
            rw [show u 10 = undef from hdep 10 (by kernel_rfl) w1 (rb_refl _)] at gx
            rw [if_neg (wanted_undef (s := 42) rfl (by kernel_rfl) gx)]
            exact hK _ _ (rb_refl _) fun w3 h3 => rfl
          · intro Fr u hN hO w1 hR hdep K hK
            have gx : Fr.tmps[42]? = some (u 10) := hN 10 _ 42 rfl rfl rfl
            rw [show u 10 = undef from hdep 10 (by kernel_rfl) w1 (rb_refl _)] at gx
            rw [if_neg (wanted_undef (s := 42) rfl (by kernel_rfl) gx)]
            exact hK _ _ (rb_refl _) fun w3 h3 => rfl
          · intro Fr u hN hO w1 hR hdep K hK
            have gx : Fr.tmps[42]? = some (u 10) := hN 10 _ 42 rfl rfl rfl
            rw [show u 10 = undef from hdep 10 (by kernel_rfl) w1 (rb_refl _)] at gx
            rw [if_neg (wanted_undef (s := 42) rfl (by kernel_rfl) gx)]
            exact hK _ _ (rb_refl _) fun w3 h3 => rfl
          · intro Fr u hN hO w1 hR hdep K hK
            have gx : Fr.tmps[42]? = some (u 10) := hN 10 _ 42 rfl rfl rfl
            rw [show u 10 = undef from hdep 10 (by kernel_rfl) w1 (rb_refl _)] at gx
            rw [if_neg (wanted_undef (s := 42) rfl (by kernel_rfl) gx)]
            exact hK _ _ (rb_refl _) fun w3 h3 => rfl
          · intro Fr u hN hO w1 hR hdep K hK
            have gx : Fr.tmps[42]? = some (u 10) := hN 10 _ 42 rfl rfl rfl
            rw [show u 10 = undef from hdep 10 (by kernel_rfl) w1 (rb_refl _)] at gx
            rw [if_neg (wanted_undef (s := 42) rfl (by kernel_rfl) gx)]
            exact hK _ _ (rb_refl _) fun w3 h3 => rfl
          · intro Fr u hN hO w1 hR hdep K hK
            have gx : Fr.tmps[42]? = some (u 10) := hN 10 _ 42 rfl rfl rfl
            rw [show u 10 = undef from hdep 10 (by kernel_rfl) w1 (rb_refl _)] at gx
            rw [if_neg (wanted_undef (s := 42) rfl (by kernel_rfl) gx)]
            exact hK _ _ (rb_refl _) fun w3 h3 => rfl
          · intro Fr u hN hO w1 hR hdep K hK
            have gx : Fr.tmps[42]? = some (u 10) := hN 10 _ 42 rfl rfl rfl
            rw [show u 10 = undef from hdep 10 (by kernel_rfl) w1 (rb_refl _)] at gx
            rw [if_neg (wanted_undef (s := 42) rfl (by kernel_rfl) gx)]
            exact hK _ _ (rb_refl _) fun w3 h3 => rfl
          · intro Fr u hN hO w1 hR hdep K hK
            have gx : Fr.tmps[33]? = some (u 1) := hN 1 _ 33 rfl rfl rfl
            rw [show u 1 = .bool false from hdep 1 (by kernel_rfl) w1 (rb_refl _)] at gx
            rw [if_neg (wanted_off (s := 33) rfl (by kernel_rfl) gx (by decide))]
            exact hK _ _ (rb_refl _) fun w3 h3 => rfl
          · intro Fr u hN hO w1 hR hdep K hK
            rw [if_pos (by rfl)]
            have x1 : Fr.tmps[33]? = some (u 1) := hN 1 _ 33 rfl rfl rfl
            rw [show u 1 = .bool false from hdep 1 (by kernel_rfl) w1 (rb_refl _)] at x1
            have x21 : Fr.tmps[53]? = some (u 21) := hN 21 _ 53 rfl rfl rfl
            rw [show u 21 = undef from hdep 21 (by kernel_rfl) w1 (rb_refl _)] at x21
            clear hN hO hdep
            go_simp
            refine hK _ _ (rb_refl _) fun w3 h3 => ?_
            exact rfl
          · intro Fr u hN hO w1 hR hdep K hK
            rw [if_pos (by rfl)]
            have x22 : Fr.tmps[54]? = some (u 22) := hN 22 _ 54 rfl rfl rfl
            rw [show u 22 = .bool false from hdep 22 (by kernel_rfl) w1 (rb_refl _)] at x22
            clear hN hO hdep
            go_simp
            refine hK _ _ (rb_refl _) fun w3 h3 => ?_
            exact rfl
          · intro Fr u hN hO w1 hR hdep K hK
            have gx : Fr.tmps[55]? = some (u 23) := hN 23 _ 55 rfl rfl rfl
            rw [show u 23 = .bool false from hdep 23 (by kernel_rfl) w1 (rb_refl _)] at gx
            rw [if_pos (wanted_on (s := 55) rfl (by kernel_rfl) gx)]
            have y8 : Fr.tmps[8]? = some (.bool false) := hO 8 _ rfl rfl
            clear hN hO hdep gx
            go_simp
            refine hK _ _ (rb_refl _) fun w3 h3 => ?_
            exact rfl
          · intro Fr u hN hO w1 hR hdep K hK
            have gx : Fr.tmps[55]? = some (u 23) := hN 23 _ 55 rfl rfl rfl
            rw [show u 23 = .bool false from hdep 23 (by kernel_rfl) w1 (rb_refl _)] at gx
            rw [if_pos (wanted_on (s := 55) rfl (by kernel_rfl) gx)]
            have x24 : Fr.tmps[56]? = some (u 24) := hN 24 _ 56 rfl rfl rfl
            rw [show u 24 = .bool false from hdep 24 (by kernel_rfl) w1 (rb_refl _)] at x24
            clear hN hO hdep gx
            go_simp
            refine hK _ _ (rb_refl _) fun w3 h3 => ?_
            exact rfl
          · intro Fr u hN hO w1 hR hdep K hK
            have gx : Fr.tmps[55]? = some (u 23) := hN 23 _ 55 rfl rfl rfl
            rw [show u 23 = .bool false from hdep 23 (by kernel_rfl) w1 (rb_refl _)] at gx
            rw [if_pos (wanted_on (s := 55) rfl (by kernel_rfl) gx)]
            have x25 : Fr.tmps[57]? = some (u 25) := hN 25 _ 57 rfl rfl rfl
            rw [show u 25 = .bool true from hdep 25 (by kernel_rfl) w1 (rb_refl _)] at x25
            clear hN hO hdep gx
            go_simp
            refine hK _ _ (rb_refl _) fun w3 h3 => ?_
            exact rfl
          · intro Fr u hN hO w1 hR hdep K hK
            have gx : Fr.tmps[58]? = some (u 26) := hN 26 _ 58 rfl rfl rfl
            rw [show u 26 = .bool true from hdep 26 (by kernel_rfl) w1 (rb_refl _)] at gx
            rw [if_pos (wanted_on (s := 58) rfl (by kernel_rfl) gx)]
            have y7 : Fr.tmps[7]? = some (.pointer (some ⟨b7, 0, none⟩)) := hO 7 _ rfl rfl
            clear hN hO hdep gx
            go_simp
            refine hK _ _ (rb_refl _) fun w3 h3 => ?_
            exact rfl
          · intro Fr u hN hO w1 hR hdep K hK
            have gx : Fr.tmps[58]? = some (u 26) := hN 26 _ 58 rfl rfl rfl
            rw [show u 26 = .bool true from hdep 26 (by kernel_rfl) w1 (rb_refl _)] at gx
            rw [if_pos (wanted_on (s := 58) rfl (by kernel_rfl) gx)]
            have x27 : Fr.tmps[59]? = some (u 27) := hN 27 _ 59 rfl rfl rfl
            rw [show u 27 = .pointer (some ⟨b7, 0, none⟩) from hdep 27 (by kernel_rfl) w1 (rb_refl _)] at x27
            clear hN hO hdep gx
            have gg := block_below hR HG7.out
            have z0 := block_cell gg (i := 0) rfl
            have z1 := block_cell gg (i := 1) rfl
            have z2 := block_cell gg (i := 2) rfl
            have z3 := block_cell gg (i := 3) rfl
            have z4 := block_cell gg (i := 4) rfl
            go_simp
            refine hK _ _ (rb_refl _) fun w3 h3 => ?_
            exact rfl
          · intro Fr u hN hO w1 hR hdep K hK
            have gx : Fr.tmps[58]? = some (u 26) := hN 26 _ 58 rfl rfl rfl
            rw [show u 26 = .bool true from hdep 26 (by kernel_rfl) w1 (rb_refl _)] at gx
            rw [if_pos (wanted_on (s := 58) rfl (by kernel_rfl) gx)]
            have x28 : Fr.tmps[60]? = some (u 28) := hN 28 _ 60 rfl rfl rfl
            rw [show u 28 = .agg #[.int .i64 h.view, .int .i64 h.height, .string h.block, .slice A5 lh.length c5] from hdep 28 (by kernel_rfl) w1 (rb_refl _)] at x28
            clear hN hO hdep gx
            go_simp
            refine (rank_calls h _ _ _ _).mono ?_
            rintro x w2 ⟨rfl, b2⟩
            refine hK _ _ b2 fun w3 h3 => ?_
            exact rfl
          · intro Fr u hN hO w1 hR hdep K hK
            have gx : Fr.tmps[58]? = some (u 26) := hN 26 _ 58 rfl rfl rfl
            rw [show u 26 = .bool true from hdep 26 (by kernel_rfl) w1 (rb_refl _)] at gx
            rw [if_pos (wanted_on (s := 58) rfl (by kernel_rfl) gx)]
            have y5 : Fr.tmps[5]? = some (.pointer (some ⟨G5, 0, none⟩)) := hO 5 _ rfl rfl
            clear hN hO hdep gx
            go_simp
            refine hK _ _ (rb_refl _) fun w3 h3 => ?_
            exact rfl
          · intro Fr u hN hO w1 hR hdep K hK
            have gx : Fr.tmps[58]? = some (u 26) := hN 26 _ 58 rfl rfl rfl
            rw [show u 26 = .bool true from hdep 26 (by kernel_rfl) w1 (rb_refl _)] at gx
            rw [if_pos (wanted_on (s := 58) rfl (by kernel_rfl) gx)]
            have x30 : Fr.tmps[62]? = some (u 30) := hN 30 _ 62 rfl rfl rfl
            rw [show u 30 = .pointer (some ⟨G5, 0, none⟩) from hdep 30 (by kernel_rfl) w1 (rb_refl _)] at x30
            clear hN hO hdep gx
            have gg := block_below hR HG5.out
            have z0 := block_cell gg (i := 0) rfl
            have z1 := block_cell gg (i := 1) rfl
            have z2 := block_cell gg (i := 2) rfl
            have z3 := block_cell gg (i := 3) rfl
            have z4 := block_cell gg (i := 4) rfl
            go_simp
            refine hK _ _ (rb_refl _) fun w3 h3 => ?_
            exact rfl
          · intro Fr u hN hO w1 hR hdep K hK
            have gx : Fr.tmps[58]? = some (u 26) := hN 26 _ 58 rfl rfl rfl
            rw [show u 26 = .bool true from hdep 26 (by kernel_rfl) w1 (rb_refl _)] at gx
            rw [if_pos (wanted_on (s := 58) rfl (by kernel_rfl) gx)]
            have x31 : Fr.tmps[63]? = some (u 31) := hN 31 _ 63 rfl rfl rfl
            rw [show u 31 = .agg #[.int .i64 h.view, .int .i64 h.height, .string h.block, .slice A lh.length c] from hdep 31 (by kernel_rfl) w1 (rb_refl _)] at x31
            clear hN hO hdep gx
            go_simp
            refine (rank_calls h _ _ _ _).mono ?_
            rintro x w2 ⟨rfl, b2⟩
            refine hK _ _ b2 fun w3 h3 => ?_
            exact rfl
          · intro Fr u hN hO w1 hR hdep K hK
            have gx : Fr.tmps[58]? = some (u 26) := hN 26 _ 58 rfl rfl rfl
            rw [show u 26 = .bool true from hdep 26 (by kernel_rfl) w1 (rb_refl _)] at gx
            rw [if_pos (wanted_on (s := 58) rfl (by kernel_rfl) gx)]
            have x29 : Fr.tmps[61]? = some (u 29) := hN 29 _ 61 rfl rfl rfl
            rw [show u 29 = .agg #[.int .i64 h.view, .int .i64 h.height, .string ⟨#[]⟩] from hdep 29 (by kernel_rfl) w1 (rb_refl _)] at x29
            have x32 : Fr.tmps[64]? = some (u 32) := hN 32 _ 64 rfl rfl rfl
            rw [show u 32 = .agg #[.int .i64 h.view, .int .i64 h.height, .string ⟨#[]⟩] from hdep 32 (by kernel_rfl) w1 (rb_refl _)] at x32
            clear hN hO hdep gx
            have hq := HQ.out
            go_simp
            refine hK _ _ (rb_refl _) fun w3 h3 => ?_
            exact rfl
          · intro Fr u hN hO w1 hR hdep K hK
            have gx : Fr.tmps[55]? = some (u 23) := hN 23 _ 55 rfl rfl rfl
            rw [show u 23 = .bool false from hdep 23 (by kernel_rfl) w1 (rb_refl _)] at gx
            rw [if_pos (wanted_on (s := 55) rfl (by kernel_rfl) gx)]
            have x26 : Fr.tmps[58]? = some (u 26) := hN 26 _ 58 rfl rfl rfl
            rw [show u 26 = .bool true from hdep 26 (by kernel_rfl) w1 (rb_refl _)] at x26
            have x33 : Fr.tmps[65]? = some (u 33) := hN 33 _ 65 rfl rfl rfl
            rw [show u 33 = .bool false from hdep 33 (by kernel_rfl) w1 (rb_refl _)] at x33
            clear hN hO hdep gx
            go_simp
            refine hK _ _ (rb_refl _) fun w3 h3 => ?_
            exact rfl
          · intro Fr u hN hO w1 hR hdep K hK
            rw [if_pos (by rfl)]
            have x23 : Fr.tmps[55]? = some (u 23) := hN 23 _ 55 rfl rfl rfl
            rw [show u 23 = .bool false from hdep 23 (by kernel_rfl) w1 (rb_refl _)] at x23
            have x34 : Fr.tmps[66]? = some (u 34) := hN 34 _ 66 rfl rfl rfl
            rw [show u 34 = .bool false from hdep 34 (by kernel_rfl) w1 (rb_refl _)] at x34
            clear hN hO hdep
            go_simp
            refine hK _ _ (rb_refl _) fun w3 h3 => ?_
            exact rfl
          · intro u w' hR hall
            have h35 : u 35 = .bool false := hall 35 (by decide)
            have bw : Below V8.heap.size V8 w' := bl_trans (bl_drew (Below.refl _ _)) hR
            clear hall
            simp only [frameF, Act.put, List.setIfInBounds_toArray, List.set_cons_zero, List.set_cons_succ, Nat.reduceAdd, h35]
            clear h35
            have g7 := block_below bw HG7.out
            have g5 := block_below bw HG5.out
            have Y0 := block_cell g7 (i := 0) rfl
            have Y1 := block_cell g7 (i := 1) rfl
            have Y2 := block_cell g7 (i := 2) rfl
            have Y3 := block_cell g7 (i := 3) rfl
            have Y4 := block_cell g7 (i := 4) rfl
            have X0 := block_cell g5 (i := 0) rfl
            have X1 := block_cell g5 (i := 1) rfl
            have X2 := block_cell g5 (i := 2) rfl
            have X3 := block_cell g5 (i := 3) rfl
            have X4 := block_cell g5 (i := 4) rfl
            have Z0 : w'.frozen? ⟨G5, 0, none⟩ = false := block_free g5
            have Z1 : w'.frozen? ⟨G5, 1, none⟩ = false := block_free g5
            have Z2 : w'.frozen? ⟨G5, 2, none⟩ = false := block_free g5
            have Z3 : w'.frozen? ⟨G5, 3, none⟩ = false := block_free g5
            have Z4 : w'.frozen? ⟨G5, 4, none⟩ = false := block_free g5
            have q8 : Below w.heap.size w w' := bl_trans (bl_trans bel bz) bw
            have k10 := Kd.row_below bw HK9.out
            have r5 : (((((w'.setCell ⟨G5, 0, none⟩ (.int .i64 h.view)).setCell ⟨G5, 1, none⟩ (.int .i64 h.height)).setCell ⟨G5, 2, none⟩ (.string h.block)).setCell ⟨G5, 3, none⟩ (.slice A5 lh.length c5)).setCell ⟨G5, 4, none⟩ (.int .i64 t)).heap[G5]? = some (.cells #[.int .i64 h.view, .int .i64 h.height, .string h.block, .slice A5 lh.length c5, .int .i64 t] 55 (0, 0)) := res5 (p := .int .i64 h.view) (q := .int .i64 h.height) (r := .string h.block) (s := .slice A5 lh.length c5) (u := .int .i64 t) g5
            have q9 : Below w.heap.size w (((((w'.setCell ⟨G5, 0, none⟩ (.int .i64 h.view)).setCell ⟨G5, 1, none⟩ (.int .i64 h.height)).setCell ⟨G5, 2, none⟩ (.string h.block)).setCell ⟨G5, 3, none⟩ (.slice A5 lh.length c5)).setCell ⟨G5, 4, none⟩ (.int .i64 t)) := bel5 (p := .int .i64 h.view) (q := .int .i64 h.height) (r := .string h.block) (s := .slice A5 lh.length c5) (u := .int .i64 t) q8 le5
            have k11 := Kd.row_keep (keep5 (E := [28]) (p := .int .i64 h.view) (q := .int .i64 h.height) (r := .string h.block) (s := .slice A5 lh.length c5) (u := .int .i64 t) g5 (Nat.zero_le _) (by decide)) k10
            have hL9 : kCert.Row 35 B0 (((((w'.setCell ⟨G5, 0, none⟩ (.int .i64 h.view)).setCell ⟨G5, 1, none⟩ (.int .i64 h.height)).setCell ⟨G5, 2, none⟩ (.string h.block)).setCell ⟨G5, 3, none⟩ (.slice A5 lh.length c5)).setCell ⟨G5, 4, none⟩ (.int .i64 t)) (some ad) l := Kd.row_keep (keep5 (E := 35 :: kCert.E) (p := .int .i64 h.view) (q := .int .i64 h.height) (r := .string h.block) (s := .slice A5 lh.length c5) (u := .int .i64 t) g5 (by omega) (by decide)) (Kd.row_below bw hl2.out)
            have hR9 : Kd.str.Row 9 B0 (((((w'.setCell ⟨G5, 0, none⟩ (.int .i64 h.view)).setCell ⟨G5, 1, none⟩ (.int .i64 h.height)).setCell ⟨G5, 2, none⟩ (.string h.block)).setCell ⟨G5, 3, none⟩ (.slice A5 lh.length c5)).setCell ⟨G5, 4, none⟩ (.int .i64 t)) Ar roots := Kd.row_keep (keep5 (E := [9]) (p := .int .i64 h.view) (q := .int .i64 h.height) (r := .string h.block) (s := .slice A5 lh.length c5) (u := .int .i64 t) g5 (by omega) (by decide)) (Kd.row_below bw HRR.out)
            have r0 : (((((w'.setCell ⟨G5, 0, none⟩ (.int .i64 h.view)).setCell ⟨G5, 1, none⟩ (.int .i64 h.height)).setCell ⟨G5, 2, none⟩ (.string h.block)).setCell ⟨G5, 3, none⟩ (.slice A5 lh.length c5)).setCell ⟨G5, 4, none⟩ (.int .i64 t)).heap[G]? = some (.cells #[.slice Ar roots.length cr, .slice Ac nC cc, .int .i64 q, .int .i64 base, .int .i64 cap] 57 (0, 0)) := far5 (p := .int .i64 h.view) (q := .int .i64 h.height) (r := .string h.block) (s := .slice A5 lh.length c5) (u := .int .i64 t) nG5 (block_below bw HG.out)
            go_wp2_with fail
            go_roundw
            case rel => exact ⟨k + 1, h, lh, A5, c5, t, by omega, by omega, by go_num, q9, r5, r0, hlenh, k11, hL9, hR9⟩
            case measure => simp [intOf]; omega
      case true =>
        have hrz : res = 0 ∧ hi = true := by simpa using HBB.out
        obtain ⟨rfl, rfl⟩ := hrz
        have HTK := Lib.hid fun W h1 h2 h3 hB => (HTK0.out W h1 h2 h3 hB).mono fun _ _ k => take_yes k
        clear HTK0 HBB
        go_upto_region 7 with fail
        refine wp_region_any (by kernel_rfl) ?_
        refine wpAny_invlA [true, true, true, true, true, true, true, true, true, true, true, false, false] [false, false, false, false, false, false, false, false, false, true, false, false, false] [11, 12] (by kernel_rfl) (by kernel_rfl) Rb (lr7t G G5 k l.length cl ad m h A A3 Ar Ac lx.length lh.length roots.length nC c c3 cr cc lx lh t t1 q base cap V.heap.size) rb_refl rb_trans (fun c a d v w h => by cases d <;> exact h) ⟨?_, ?_, ?_, ?_, ?_, ?_, ?_, ?_, ?_, ?_, ?_, trivial⟩ ?_
        · intro Fr u w1 hTold K hK
          obtain ⟨hN, hO, hR, hdep⟩ := hTold
          rw [if_pos (by rfl)]
          have y5 : Fr.tmps[5]? = some (.pointer (some ⟨G5, 0, none⟩)) := hO 5 _ rfl rfl
          clear hN hO hdep
          have gg := block_below hR HG5.out
          have z0 := block_cell gg (i := 0) rfl
          have z1 := block_cell gg (i := 1) rfl
          have z2 := block_cell gg (i := 2) rfl
          have z3 := block_cell gg (i := 3) rfl
          have z4 := block_cell gg (i := 4) rfl
          go_simp
          refine hK _ _ (rb_refl _) fun w3 h3 => ?_
          exact rfl
        · intro Fr u w1 hTold K hK
          obtain ⟨hN, hO, hR, hdep⟩ := hTold
          rw [if_pos (by rfl)]
          have y2 : Fr.tmps[2]? = some (.pointer (some ⟨G, 0, none⟩)) := hO 2 _ rfl rfl
          clear hN hO hdep
          have gg := block_below hR HG.out
          have z0 := block_cell gg (i := 0) rfl
          have z1 := block_cell gg (i := 1) rfl
          have z2 := block_cell gg (i := 2) rfl
          have z3 := block_cell gg (i := 3) rfl
          have z4 := block_cell gg (i := 4) rfl
          go_simp
          refine hK _ _ (rb_refl _) fun w3 h3 => ?_
          exact rfl
        · intro Fr u w1 hTold K hK
          obtain ⟨hN, hO, hR, hdep⟩ := hTold
          rw [if_pos (by rfl)]
          have y1 : Fr.tmps[1]? = some (.slice (some ad) l.length cl) := hO 1 _ rfl rfl
          clear hN hO hdep
          go_simp
          refine hK _ _ (rb_refl _) fun w3 h3 => ?_
          exact rfl
        · intro Fr u w1 hTold K hK
          obtain ⟨hN, hO, hR, hdep⟩ := hTold
          rw [if_pos (by rfl)]
          have y6 : Fr.tmps[6]? = some (.int .i64 k) := hO 6 _ rfl rfl
          clear hN hO hdep
          go_simp
          refine hK _ _ (rb_refl _) fun w3 h3 => ?_
          exact rfl
        · intro Fr u w1 hTold K hK
          obtain ⟨hN, hO, hR, hdep⟩ := hTold
          rw [if_pos (by rfl)]
          have x2 : Fr.tmps[25]? = some (u 2) := hN 2 _ 25 rfl rfl rfl
          rw [show u 2 = .slice (some ad) l.length cl from hdep 2 (by kernel_rfl) w1 (rb_refl _)] at x2
          have x3 : Fr.tmps[26]? = some (u 3) := hN 3 _ 26 rfl rfl rfl
          rw [show u 3 = .int .i64 k from hdep 3 (by kernel_rfl) w1 (rb_refl _)] at x3
          clear hN hO hdep
          have hkI := HKI.out
          go_simp
          refine hK _ _ (rb_refl _) fun w3 h3 => ?_
          exact rfl
        · intro Fr u w1 hTold K hK
          obtain ⟨hN, hO, hR, hdep⟩ := hTold
          rw [if_pos (by rfl)]
          have x4 : Fr.tmps[27]? = some (u 4) := hN 4 _ 27 rfl rfl rfl
          rw [show u 4 = .pointer (some (ad.add (k * 4))) from hdep 4 (by kernel_rfl) w1 (rb_refl _)] at x4
          clear hN hO hdep
          have z0 := cell_below hR E0.out
          have z1 := cell_below hR E1.out
          have z2 := cell_below hR E2.out
          have z3 := cell_below hR E3.out
          go_simp
          refine hK _ _ (rb_refl _) fun w3 h3 => ?_
          exact rfl
        · intro Fr u w1 hTold K hK
          obtain ⟨hN, hO, hR, hdep⟩ := hTold
          rw [if_pos (by rfl)]
          have x0 : Fr.tmps[23]? = some (u 0) := hN 0 _ 23 rfl rfl rfl
          rw [show u 0 = .agg #[.int .i64 h.view, .int .i64 h.height, .string h.block, .slice A lh.length c, .int .i64 t] from hdep 0 (by kernel_rfl) w1 (rb_refl _)] at x0
          have x1 : Fr.tmps[24]? = some (u 1) := hN 1 _ 24 rfl rfl rfl
          rw [show u 1 = .agg #[.slice Ar roots.length cr, .slice Ac nC cc, .int .i64 q, .int .i64 base, .int .i64 cap] from hdep 1 (by kernel_rfl) w1 (rb_refl _)] at x1
          have x5 : Fr.tmps[28]? = some (u 5) := hN 5 _ 28 rfl rfl rfl
          rw [show u 5 = .agg #[.int .i64 m.view, .int .i64 m.height, .string m.block, .slice A3 lx.length c3] from hdep 5 (by kernel_rfl) w1 (rb_refl _)] at x5
          clear hN hO hdep
          go_simp
          refine (HTK.out w1 (Kd.row_below hR HX.out) (Kd.row_below hR HH.out) (Kd.row_below hR HRR.out) (Nat.le_trans HB0.out hR.size)).mono ?_
          rintro x w2 ⟨⟨A5, c5, rfl, k3⟩, b2⟩
          refine hK _ _ b2 fun w3 h3 => ?_
          exact ⟨A5, c5, rfl, Kd.row_below h3 k3⟩
        · intro Fr u w1 hTold K hK
          obtain ⟨hN, hO, hR, hdep⟩ := hTold
          rw [if_pos (by rfl)]
          have x6 : Fr.tmps[29]? = some (u 6) := hN 6 _ 29 rfl rfl rfl
          obtain ⟨A5, c5, hu6, k6⟩ := hdep 6 (by kernel_rfl) w1 (rb_refl _)
          rw [hu6] at x6
          clear hN hO hdep
          go_simp
          refine hK _ _ (rb_refl _) fun w3 h3 => ?_
          exact ⟨A5, c5, rfl, Kd.row_below h3 k6⟩
        · intro Fr u w1 hTold K hK
          obtain ⟨hN, hO, hR, hdep⟩ := hTold
          rw [if_pos (by rfl)]
          have x7 : Fr.tmps[22]? = some (u 7) := hN 7 _ 22 rfl rfl rfl
          obtain ⟨A5, c5, hu7, k7⟩ := hdep 7 (by kernel_rfl) w1 (rb_refl _)
          rw [hu7] at x7
          clear hN hO hdep
          go_simp
          refine hK _ _ (rb_refl _) fun w3 h3 => ?_
          exact ⟨A5, c5, rfl, Kd.row_below h3 k7⟩
        · intro Fr u w1 hTold
          obtain ⟨hN, hO, hR, hdep⟩ := hTold
          have x7 : Fr.tmps[22]? = some (u 7) := hN 7 _ 22 rfl rfl rfl
          obtain ⟨A5, c5, hu7, k7⟩ := hdep 7 (by kernel_rfl) w1 (rb_refl _)
          rw [hu7] at x7
          clear hN hO hdep
          refine ⟨.bool true, fun w2 h2 => ?_, Or.inl ⟨by rfl, fun w => by go_simp⟩⟩
          exact rfl
        · intro Fr u w1 hTold K hK
          obtain ⟨hN, hO, hR, hdep⟩ := hTold
          rw [if_pos (by rfl)]
          clear hN hO hdep
          go_simp
          refine hK _ _ (bl_alloc (Below.refl _ _) _) fun w3 h3 => ?_
          exact ⟨w1.heap.size, rfl, hR.size, block_below h3 (alloc_new w1 _)⟩
        · intro u w1 hR hall
          obtain ⟨A5, c5, e8, k8⟩ := hall 8 rfl
          have e9 : u 9 = .bool true := hall 9 rfl
          obtain ⟨b7, e10, le7, g7⟩ := hall 10 rfl
          have bw : Below V.heap.size V w1 := bl_trans (bl_drew (Below.refl _ _)) hR
          have Y0 := block_cell g7 (i := 0) rfl
          have Y1 := block_cell g7 (i := 1) rfl
          have Y2 := block_cell g7 (i := 2) rfl
          have Y3 := block_cell g7 (i := 3) rfl
          have Y4 := block_cell g7 (i := 4) rfl
          have Z0 : w1.frozen? ⟨b7, 0, none⟩ = false := block_free g7
          have Z1 : w1.frozen? ⟨b7, 1, none⟩ = false := block_free g7
          have Z2 : w1.frozen? ⟨b7, 2, none⟩ = false := block_free g7
          have Z3 : w1.frozen? ⟨b7, 3, none⟩ = false := block_free g7
          have Z4 : w1.frozen? ⟨b7, 4, none⟩ = false := block_free g7
          change wpList _ _ _ ([_, _]) _ _
          simp only [frameM, frameM_nil, Act.put, List.setIfInBounds_toArray, List.set_cons_zero, List.set_cons_succ, Nat.reduceAdd, e8, e9, e10]
          clear hall e8 e9 e10
          go_upto_region 8 with fail
          have r7 : (((((w1.setCell ⟨b7, 0, none⟩ (.int .i64 m.view)).setCell ⟨b7, 1, none⟩ (.int .i64 m.height)).setCell ⟨b7, 2, none⟩ (.string m.block)).setCell ⟨b7, 3, none⟩ (.slice A5 lx.length c5)).setCell ⟨b7, 4, none⟩ (.int .i64 t1)).heap[b7]? = some (.cells #[.int .i64 m.view, .int .i64 m.height, .string m.block, .slice A5 lx.length c5, .int .i64 t1] 55 (0, 0)) := res5 (p := .int .i64 m.view) (q := .int .i64 m.height) (r := .string m.block) (s := .slice A5 lx.length c5) (u := .int .i64 t1) g7
          have n5 : G5 ≠ b7 := by have := blk_lt HG5.out; omega
          have n0 : G ≠ b7 := by have := blk_lt HG.out; omega
          have r5 : (((((w1.setCell ⟨b7, 0, none⟩ (.int .i64 m.view)).setCell ⟨b7, 1, none⟩ (.int .i64 m.height)).setCell ⟨b7, 2, none⟩ (.string m.block)).setCell ⟨b7, 3, none⟩ (.slice A5 lx.length c5)).setCell ⟨b7, 4, none⟩ (.int .i64 t1)).heap[G5]? = some (.cells #[.int .i64 h.view, .int .i64 h.height, .string h.block, .slice A lh.length c, .int .i64 t] 55 (0, 0)) := far5 (p := .int .i64 m.view) (q := .int .i64 m.height) (r := .string m.block) (s := .slice A5 lx.length c5) (u := .int .i64 t1) n5 (block_below bw HG5.out)
          have r0 : (((((w1.setCell ⟨b7, 0, none⟩ (.int .i64 m.view)).setCell ⟨b7, 1, none⟩ (.int .i64 m.height)).setCell ⟨b7, 2, none⟩ (.string m.block)).setCell ⟨b7, 3, none⟩ (.slice A5 lx.length c5)).setCell ⟨b7, 4, none⟩ (.int .i64 t1)).heap[G]? = some (.cells #[.slice Ar roots.length cr, .slice Ac nC cc, .int .i64 q, .int .i64 base, .int .i64 cap] 57 (0, 0)) := far5 (p := .int .i64 m.view) (q := .int .i64 m.height) (r := .string m.block) (s := .slice A5 lx.length c5) (u := .int .i64 t1) n0 (block_below bw HG.out)
          have bz : Below V.heap.size V (((((w1.setCell ⟨b7, 0, none⟩ (.int .i64 m.view)).setCell ⟨b7, 1, none⟩ (.int .i64 m.height)).setCell ⟨b7, 2, none⟩ (.string m.block)).setCell ⟨b7, 3, none⟩ (.slice A5 lx.length c5)).setCell ⟨b7, 4, none⟩ (.int .i64 t1)) := bel5 (p := .int .i64 m.view) (q := .int .i64 m.height) (r := .string m.block) (s := .slice A5 lx.length c5) (u := .int .i64 t1) bw le7
          have kk : ∀ (B : Nat) (E : List TypeId), B ≤ b7 → 55 ∉ E → Keeps B E w1 (((((w1.setCell ⟨b7, 0, none⟩ (.int .i64 m.view)).setCell ⟨b7, 1, none⟩ (.int .i64 m.height)).setCell ⟨b7, 2, none⟩ (.string m.block)).setCell ⟨b7, 3, none⟩ (.slice A5 lx.length c5)).setCell ⟨b7, 4, none⟩ (.int .i64 t1)) := fun B E h1 h2 => keep5 (p := .int .i64 m.view) (q := .int .i64 m.height) (r := .string m.block) (s := .slice A5 lx.length c5) (u := .int .i64 t1) g7 h1 h2
          have k9 := Kd.row_keep (kk 0 [28] (Nat.zero_le _) (by decide)) k8
          have n0' := cell_below bz E0.out
          have n1' := cell_below bz E1.out
          have n2' := cell_below bz E2.out
          have n3' := cell_below bz E3.out
          have hx2 := Lib.hid (Kd.row_below bz HX.out)
          have hrr2 := Lib.hid (Kd.row_below bz HRR.out)
          have hl2 := Lib.hid (Kd.row_below bz HL.out)
          clear kk k8 g7 Y0 Y1 Y2 Y3 Y4 Z0 Z1 Z2 Z3 Z4 n5 n0 hR bw HG HG5 E0 E1 E2 E3 HX HRR HH
          generalize ((((w1.setCell ⟨b7, 0, none⟩ (.int .i64 m.view)).setCell ⟨b7, 1, none⟩ (.int .i64 m.height)).setCell ⟨b7, 2, none⟩ (.string m.block)).setCell ⟨b7, 3, none⟩ (.slice A5 lx.length c5)).setCell ⟨b7, 4, none⟩ (.int .i64 t1) = V8 at *
          have E0 := Lib.hid n0'
          have E1 := Lib.hid n1'
          have E2 := Lib.hid n2'
          have E3 := Lib.hid n3'
          have HG := Lib.hid r0
          have HG5 := Lib.hid r5
          have HG7 := Lib.hid r7
          have HX := hx2
          have HRR := hrr2
          have HK9 := Lib.hid k9
          clear n0' n1' n2' n3' r0 r5 r7 hx2 hrr2 k9
          refine wp_region_invA (by kernel_rfl) (by kernel_rfl) Rb (lr8t G G5 b7 k l.length cl ad m h A A3 A5 Ar lx.length lh.length roots.length c c3 c5 cr q) rb_refl rb_trans ⟨?_, ?_, ?_, ?_, ?_, ?_, ?_, ?_, ?_, ?_, ?_, ?_, ?_, ?_, ?_, ?_, ?_, ?_, ?_, ?_, ?_, ?_, ?_, ?_, ?_, ?_, ?_, ?_, ?_, ?_, ?_, ?_, ?_, ?_, ?_, ?_, trivial⟩ ?_
          · intro Fr u hN hO w1 hR hdep K hK
            rw [if_pos (by rfl)]
            have y8 : Fr.tmps[8]? = some (.bool true) := hO 8 _ rfl rfl
            clear hN hO hdep
            go_simp
            refine hK _ _ (rb_refl _) fun w3 h3 => ?_
            exact rfl
          · intro Fr u hN hO w1 hR hdep K hK
            rw [if_pos (by rfl)]
            have x0 : Fr.tmps[32]? = some (u 0) := hN 0 _ 32 rfl rfl rfl
            rw [show u 0 = .bool true from hdep 0 (by kernel_rfl) w1 (rb_refl _)] at x0
            clear hN hO hdep
            go_simp
            refine hK _ _ (rb_refl _) fun w3 h3 => ?_
            exact rfl
          · intro Fr u hN hO w1 hR hdep K hK
            have gx : Fr.tmps[33]? = some (u 1) := hN 1 _ 33 rfl rfl rfl
            rw [show u 1 = .bool true from hdep 1 (by kernel_rfl) w1 (rb_refl _)] at gx
            rw [if_pos (wanted_on (s := 33) rfl (by kernel_rfl) gx)]
            have y7 : Fr.tmps[7]? = some (.pointer (some ⟨b7, 0, none⟩)) := hO 7 _ rfl rfl
            clear hN hO hdep gx
            go_simp
            refine hK _ _ (rb_refl _) fun w3 h3 => ?_
            exact rfl
          · intro Fr u hN hO w1 hR hdep K hK
            have gx : Fr.tmps[33]? = some (u 1) := hN 1 _ 33 rfl rfl rfl
            rw [show u 1 = .bool true from hdep 1 (by kernel_rfl) w1 (rb_refl _)] at gx
            rw [if_pos (wanted_on (s := 33) rfl (by kernel_rfl) gx)]
            have x2 : Fr.tmps[34]? = some (u 2) := hN 2 _ 34 rfl rfl rfl
            rw [show u 2 = .pointer (some ⟨b7, 0, none⟩) from hdep 2 (by kernel_rfl) w1 (rb_refl _)] at x2
            clear hN hO hdep gx
            have gg := block_below hR HG7.out
            have z0 := block_cell gg (i := 0) rfl
            have z1 := block_cell gg (i := 1) rfl
            have z2 := block_cell gg (i := 2) rfl
            have z3 := block_cell gg (i := 3) rfl
            have z4 := block_cell gg (i := 4) rfl
            go_simp
            refine hK _ _ (rb_refl _) fun w3 h3 => ?_
            exact rfl
          · intro Fr u hN hO w1 hR hdep K hK
            have gx : Fr.tmps[33]? = some (u 1) := hN 1 _ 33 rfl rfl rfl
            rw [show u 1 = .bool true from hdep 1 (by kernel_rfl) w1 (rb_refl _)] at gx
            rw [if_pos (wanted_on (s := 33) rfl (by kernel_rfl) gx)]
            have x3 : Fr.tmps[35]? = some (u 3) := hN 3 _ 35 rfl rfl rfl
            rw [show u 3 = .agg #[.int .i64 m.view, .int .i64 m.height, .string m.block, .slice A5 lx.length c5] from hdep 3 (by kernel_rfl) w1 (rb_refl _)] at x3
            clear hN hO hdep gx
            go_simp
            refine (rank_calls m _ _ _ _).mono ?_
            rintro x w2 ⟨rfl, b2⟩
            refine hK _ _ b2 fun w3 h3 => ?_
            exact rfl
          · intro Fr u hN hO w1 hR hdep K hK
            have gx : Fr.tmps[33]? = some (u 1) := hN 1 _ 33 rfl rfl rfl
            rw [show u 1 = .bool true from hdep 1 (by kernel_rfl) w1 (rb_refl _)] at gx
            rw [if_pos (wanted_on (s := 33) rfl (by kernel_rfl) gx)]
            have y5 : Fr.tmps[5]? = some (.pointer (some ⟨G5, 0, none⟩)) := hO 5 _ rfl rfl
            clear hN hO hdep gx
            go_simp
            refine hK _ _ (rb_refl _) fun w3 h3 => ?_
            exact rfl
          · intro Fr u hN hO w1 hR hdep K hK
            have gx : Fr.tmps[33]? = some (u 1) := hN 1 _ 33 rfl rfl rfl
            rw [show u 1 = .bool true from hdep 1 (by kernel_rfl) w1 (rb_refl _)] at gx
            rw [if_pos (wanted_on (s := 33) rfl (by kernel_rfl) gx)]
            have x5 : Fr.tmps[37]? = some (u 5) := hN 5 _ 37 rfl rfl rfl
            rw [show u 5 = .pointer (some ⟨G5, 0, none⟩) from hdep 5 (by kernel_rfl) w1 (rb_refl _)] at x5
            clear hN hO hdep gx
            have gg := block_below hR HG5.out
            have z0 := block_cell gg (i := 0) rfl
            have z1 := block_cell gg (i := 1) rfl
            have z2 := block_cell gg (i := 2) rfl
            have z3 := block_cell gg (i := 3) rfl
            have z4 := block_cell gg (i := 4) rfl
            go_simp
            refine hK _ _ (rb_refl _) fun w3 h3 => ?_
            exact rfl
          · intro Fr u hN hO w1 hR hdep K hK
            have gx : Fr.tmps[33]? = some (u 1) := hN 1 _ 33 rfl rfl rfl
            rw [show u 1 = .bool true from hdep 1 (by kernel_rfl) w1 (rb_refl _)] at gx
            rw [if_pos (wanted_on (s := 33) rfl (by kernel_rfl) gx)]
            have x6 : Fr.tmps[38]? = some (u 6) := hN 6 _ 38 rfl rfl rfl
            rw [show u 6 = .agg #[.int .i64 h.view, .int .i64 h.height, .string h.block, .slice A lh.length c] from hdep 6 (by kernel_rfl) w1 (rb_refl _)] at x6
            clear hN hO hdep gx
            go_simp
            refine (rank_calls h _ _ _ _).mono ?_
            rintro x w2 ⟨rfl, b2⟩
            refine hK _ _ b2 fun w3 h3 => ?_
            exact rfl
          · intro Fr u hN hO w1 hR hdep K hK
            have gx : Fr.tmps[33]? = some (u 1) := hN 1 _ 33 rfl rfl rfl
            rw [show u 1 = .bool true from hdep 1 (by kernel_rfl) w1 (rb_refl _)] at gx
            rw [if_pos (wanted_on (s := 33) rfl (by kernel_rfl) gx)]
            have x4 : Fr.tmps[36]? = some (u 4) := hN 4 _ 36 rfl rfl rfl
            rw [show u 4 = .agg #[.int .i64 m.view, .int .i64 m.height, .string ⟨#[]⟩] from hdep 4 (by kernel_rfl) w1 (rb_refl _)] at x4
            have x7 : Fr.tmps[39]? = some (u 7) := hN 7 _ 39 rfl rfl rfl
            rw [show u 7 = .agg #[.int .i64 h.view, .int .i64 h.height, .string ⟨#[]⟩] from hdep 7 (by kernel_rfl) w1 (rb_refl _)] at x7
            clear hN hO hdep gx
            go_simp
            refine (HHI.out w1).mono ?_
            rintro x w2 ⟨rfl, b2⟩
            refine hK _ _ b2 fun w3 h3 => ?_
            exact rfl
          · intro Fr u hN hO w1 hR hdep K hK
            have gx : Fr.tmps[33]? = some (u 1) := hN 1 _ 33 rfl rfl rfl
            rw [show u 1 = .bool true from hdep 1 (by kernel_rfl) w1 (rb_refl _)] at gx
            rw [if_pos (wanted_on (s := 33) rfl (by kernel_rfl) gx)]
            have x8 : Fr.tmps[40]? = some (u 8) := hN 8 _ 40 rfl rfl rfl
            rw [show u 8 = .bool true from hdep 8 (by kernel_rfl) w1 (rb_refl _)] at x8
            clear hN hO hdep gx
            go_simp
            refine hK _ _ (rb_refl _) fun w3 h3 => ?_
            exact rfl
          · intro Fr u hN hO w1 hR hdep K hK
            have gx : Fr.tmps[33]? = some (u 1) := hN 1 _ 33 rfl rfl rfl
            rw [show u 1 = .bool true from hdep 1 (by kernel_rfl) w1 (rb_refl _)] at gx
            rw [if_pos (wanted_on (s := 33) rfl (by kernel_rfl) gx)]
            have x9 : Fr.tmps[41]? = some (u 9) := hN 9 _ 41 rfl rfl rfl
            rw [show u 9 = .bool false from hdep 9 (by kernel_rfl) w1 (rb_refl _)] at x9
            clear hN hO hdep gx
            go_simp
            refine hK _ _ (rb_refl _) fun w3 h3 => ?_
            exact rfl
          · intro Fr u hN hO w1 hR hdep K hK
            have gx : Fr.tmps[42]? = some (u 10) := hN 10 _ 42 rfl rfl rfl
            rw [show u 10 = .bool false from hdep 10 (by kernel_rfl) w1 (rb_refl _)] at gx
            rw [if_pos (wanted_on (s := 42) rfl (by kernel_rfl) gx)]
            have y1 : Fr.tmps[1]? = some (.slice (some ad) l.length cl) := hO 1 _ rfl rfl
            clear hN hO hdep gx
            go_simp
            refine hK _ _ (rb_refl _) fun w3 h3 => ?_
            exact rfl
          · intro Fr u hN hO w1 hR hdep K hK
            have gx : Fr.tmps[42]? = some (u 10) := hN 10 _ 42 rfl rfl rfl
            rw [show u 10 = .bool false from hdep 10 (by kernel_rfl) w1 (rb_refl _)] at gx
            rw [if_pos (wanted_on (s := 42) rfl (by kernel_rfl) gx)]
            have y6 : Fr.tmps[6]? = some (.int .i64 k) := hO 6 _ rfl rfl
            clear hN hO hdep gx
            go_simp
            refine hK _ _ (rb_refl _) fun w3 h3 => ?_
            exact rfl
          · intro Fr u hN hO w1 hR hdep K hK
            have gx : Fr.tmps[42]? = some (u 10) := hN 10 _ 42 rfl rfl rfl
            rw [show u 10 = .bool false from hdep 10 (by kernel_rfl) w1 (rb_refl _)] at gx
            rw [if_pos (wanted_on (s := 42) rfl (by kernel_rfl) gx)]
            have x11 : Fr.tmps[43]? = some (u 11) := hN 11 _ 43 rfl rfl rfl
            rw [show u 11 = .slice (some ad) l.length cl from hdep 11 (by kernel_rfl) w1 (rb_refl _)] at x11
            have x12 : Fr.tmps[44]? = some (u 12) := hN 12 _ 44 rfl rfl rfl
            rw [show u 12 = .int .i64 k from hdep 12 (by kernel_rfl) w1 (rb_refl _)] at x12
            clear hN hO hdep gx
            have hkI := HKI.out
            go_simp
            refine hK _ _ (rb_refl _) fun w3 h3 => ?_
            exact rfl
          · intro Fr u hN hO w1 hR hdep K hK
            have gx : Fr.tmps[42]? = some (u 10) := hN 10 _ 42 rfl rfl rfl
            rw [show u 10 = .bool false from hdep 10 (by kernel_rfl) w1 (rb_refl _)] at gx
            rw [if_pos (wanted_on (s := 42) rfl (by kernel_rfl) gx)]
            have x13 : Fr.tmps[45]? = some (u 13) := hN 13 _ 45 rfl rfl rfl
            rw [show u 13 = .pointer (some (ad.add (k * 4))) from hdep 13 (by kernel_rfl) w1 (rb_refl _)] at x13
            clear hN hO hdep gx
            have z0 := cell_below hR E0.out
            have z1 := cell_below hR E1.out
            have z2 := cell_below hR E2.out
            have z3 := cell_below hR E3.out
            go_simp
            refine hK _ _ (rb_refl _) fun w3 h3 => ?_
            exact rfl
          · intro Fr u hN hO w1 hR hdep K hK
            have gx : Fr.tmps[42]? = some (u 10) := hN 10 _ 42 rfl rfl rfl
            rw [show u 10 = .bool false from hdep 10 (by kernel_rfl) w1 (rb_refl _)] at gx
            rw [if_pos (wanted_on (s := 42) rfl (by kernel_rfl) gx)]
            have y2 : Fr.tmps[2]? = some (.pointer (some ⟨G, 0, none⟩)) := hO 2 _ rfl rfl
            clear hN hO hdep gx
            go_simp
            refine hK _ _ (rb_refl _) fun w3 h3 => ?_
            exact rfl
          · intro Fr u hN hO w1 hR hdep K hK
            have gx : Fr.tmps[42]? = some (u 10) := hN 10 _ 42 rfl rfl rfl
            rw [show u 10 = .bool false from hdep 10 (by kernel_rfl) w1 (rb_refl _)] at gx
            rw [if_pos (wanted_on (s := 42) rfl (by kernel_rfl) gx)]
            have x15 : Fr.tmps[47]? = some (u 15) := hN 15 _ 47 rfl rfl rfl
            rw [show u 15 = .pointer (some ⟨G, 0, none⟩) from hdep 15 (by kernel_rfl) w1 (rb_refl _)] at x15
            clear hN hO hdep gx
            have gg := block_below hR HG.out
            have z0 := block_cell gg (i := 0) rfl
            have z1 := block_cell gg (i := 1) rfl
            have z2 := block_cell gg (i := 2) rfl
            have z3 := block_cell gg (i := 3) rfl
            have z4 := block_cell gg (i := 4) rfl
            go_simp
            refine hK _ _ (rb_refl _) fun w3 h3 => ?_
            exact rfl
          · intro Fr u hN hO w1 hR hdep K hK
            have gx : Fr.tmps[42]? = some (u 10) := hN 10 _ 42 rfl rfl rfl
            rw [show u 10 = .bool false from hdep 10 (by kernel_rfl) w1 (rb_refl _)] at gx
            rw [if_pos (wanted_on (s := 42) rfl (by kernel_rfl) gx)]
            have y2 : Fr.tmps[2]? = some (.pointer (some ⟨G, 0, none⟩)) := hO 2 _ rfl rfl
            clear hN hO hdep gx
            go_simp
            refine hK _ _ (rb_refl _) fun w3 h3 => ?_
            exact rfl
          · intro Fr u hN hO w1 hR hdep K hK
            have gx : Fr.tmps[42]? = some (u 10) := hN 10 _ 42 rfl rfl rfl
            rw [show u 10 = .bool false from hdep 10 (by kernel_rfl) w1 (rb_refl _)] at gx
            rw [if_pos (wanted_on (s := 42) rfl (by kernel_rfl) gx)]
            have x17 : Fr.tmps[49]? = some (u 17) := hN 17 _ 49 rfl rfl rfl
            rw [show u 17 = .pointer (some ⟨G, 2, none⟩) from hdep 17 (by kernel_rfl) w1 (rb_refl _)] at x17
            clear hN hO hdep gx
            have gg := block_below hR HG.out
            have z0 := block_cell gg (i := 0) rfl
            have z1 := block_cell gg (i := 1) rfl
            have z2 := block_cell gg (i := 2) rfl
            have z3 := block_cell gg (i := 3) rfl
            have z4 := block_cell gg (i := 4) rfl
            go_simp
            refine hK _ _ (rb_refl _) fun w3 h3 => ?_
            exact rfl
          · intro Fr u hN hO w1 hR hdep K hK
            have gx : Fr.tmps[42]? = some (u 10) := hN 10 _ 42 rfl rfl rfl
            rw [show u 10 = .bool false from hdep 10 (by kernel_rfl) w1 (rb_refl _)] at gx
            rw [if_pos (wanted_on (s := 42) rfl (by kernel_rfl) gx)]
            have x14 : Fr.tmps[46]? = some (u 14) := hN 14 _ 46 rfl rfl rfl
            rw [show u 14 = .agg #[.int .i64 m.view, .int .i64 m.height, .string m.block, .slice A3 lx.length c3] from hdep 14 (by kernel_rfl) w1 (rb_refl _)] at x14
            have x16 : Fr.tmps[48]? = some (u 16) := hN 16 _ 48 rfl rfl rfl
            rw [show u 16 = .slice Ar roots.length cr from hdep 16 (by kernel_rfl) w1 (rb_refl _)] at x16
            have x18 : Fr.tmps[50]? = some (u 18) := hN 18 _ 50 rfl rfl rfl
            rw [show u 18 = .int .i64 q from hdep 18 (by kernel_rfl) w1 (rb_refl _)] at x18
            clear hN hO hdep gx
            go_simp
            refine (HRC.out w1 (Kd.row_below hR HX.out) (Kd.row_below hR HRR.out)).mono ?_
            rintro x w2 ⟨rfl, b2⟩
            refine hK _ _ b2 fun w3 h3 => ?_
            exact rfl
          · intro Fr u hN hO w1 hR hdep K hK
            have gx : Fr.tmps[42]? = some (u 10) := hN 10 _ 42 rfl rfl rfl
            rw [show u 10 = .bool false from hdep 10 (by kernel_rfl) w1 (rb_refl _)] at gx
            rw [if_pos (wanted_on (s := 42) rfl (by kernel_rfl) gx)]
            have x19 : Fr.tmps[51]? = some (u 19) := hN 19 _ 51 rfl rfl rfl
            rw [show u 19 = .int .i64 0 from hdep 19 (by kernel_rfl) w1 (rb_refl _)] at x19
            clear hN hO hdep gx
            go_simp
            refine hK _ _ (rb_refl _) fun w3 h3 => ?_
            exact rfl
          · intro Fr u hN hO w1 hR hdep K hK
            have gx : Fr.tmps[33]? = some (u 1) := hN 1 _ 33 rfl rfl rfl
            rw [show u 1 = .bool true from hdep 1 (by kernel_rfl) w1 (rb_refl _)] at gx
            rw [if_pos (wanted_on (s := 33) rfl (by kernel_rfl) gx)]
            have x10 : Fr.tmps[42]? = some (u 10) := hN 10 _ 42 rfl rfl rfl
            rw [show u 10 = .bool false from hdep 10 (by kernel_rfl) w1 (rb_refl _)] at x10
            have x20 : Fr.tmps[52]? = some (u 20) := hN 20 _ 52 rfl rfl rfl
            rw [show u 20 = .bool false from hdep 20 (by kernel_rfl) w1 (rb_refl _)] at x20
            clear hN hO hdep gx
            go_simp
            refine hK _ _ (rb_refl _) fun w3 h3 => ?_
            exact rfl
          · intro Fr u hN hO w1 hR hdep K hK
            rw [if_pos (by rfl)]
            have x1 : Fr.tmps[33]? = some (u 1) := hN 1 _ 33 rfl rfl rfl
            rw [show u 1 = .bool true from hdep 1 (by kernel_rfl) w1 (rb_refl _)] at x1
            have x21 : Fr.tmps[53]? = some (u 21) := hN 21 _ 53 rfl rfl rfl
            rw [show u 21 = .bool false from hdep 21 (by kernel_rfl) w1 (rb_refl _)] at x21
            clear hN hO hdep
            go_simp
            refine hK _ _ (rb_refl _) fun w3 h3 => ?_
            exact rfl
          · intro Fr u hN hO w1 hR hdep K hK
            rw [if_pos (by rfl)]
            have x22 : Fr.tmps[54]? = some (u 22) := hN 22 _ 54 rfl rfl rfl
            rw [show u 22 = .bool false from hdep 22 (by kernel_rfl) w1 (rb_refl _)] at x22
            clear hN hO hdep
            go_simp
            refine hK _ _ (rb_refl _) fun w3 h3 => ?_
            exact rfl
          · intro Fr u hN hO w1 hR hdep K hK
            have gx : Fr.tmps[55]? = some (u 23) := hN 23 _ 55 rfl rfl rfl
            rw [show u 23 = .bool false from hdep 23 (by kernel_rfl) w1 (rb_refl _)] at gx
            rw [if_pos (wanted_on (s := 55) rfl (by kernel_rfl) gx)]
            have y8 : Fr.tmps[8]? = some (.bool true) := hO 8 _ rfl rfl
            clear hN hO hdep gx
            go_simp
            refine hK _ _ (rb_refl _) fun w3 h3 => ?_
            exact rfl
          · intro Fr u hN hO w1 hR hdep K hK
            have gx : Fr.tmps[55]? = some (u 23) := hN 23 _ 55 rfl rfl rfl
            rw [show u 23 = .bool false from hdep 23 (by kernel_rfl) w1 (rb_refl _)] at gx
            rw [if_pos (wanted_on (s := 55) rfl (by kernel_rfl) gx)]
            have x24 : Fr.tmps[56]? = some (u 24) := hN 24 _ 56 rfl rfl rfl
            rw [show u 24 = .bool true from hdep 24 (by kernel_rfl) w1 (rb_refl _)] at x24
            clear hN hO hdep gx
            go_simp
            refine hK _ _ (rb_refl _) fun w3 h3 => ?_
            exact rfl
          · intro Fr u hN hO w1 hR hdep K hK
            have gx : Fr.tmps[55]? = some (u 23) := hN 23 _ 55 rfl rfl rfl
            rw [show u 23 = .bool false from hdep 23 (by kernel_rfl) w1 (rb_refl _)] at gx
            rw [if_pos (wanted_on (s := 55) rfl (by kernel_rfl) gx)]
            have x25 : Fr.tmps[57]? = some (u 25) := hN 25 _ 57 rfl rfl rfl
            rw [show u 25 = .bool false from hdep 25 (by kernel_rfl) w1 (rb_refl _)] at x25
            clear hN hO hdep gx
            go_simp
            refine hK _ _ (rb_refl _) fun w3 h3 => ?_
            exact rfl
          · intro Fr u hN hO w1 hR hdep K hK
            have gx : Fr.tmps[58]? = some (u 26) := hN 26 _ 58 rfl rfl rfl
            rw [show u 26 = .bool false from hdep 26 (by kernel_rfl) w1 (rb_refl _)] at gx
            rw [if_neg (wanted_off (s := 58) rfl (by kernel_rfl) gx (by decide))]
            exact hK _ _ (rb_refl _) fun w3 h3 => rfl
          · intro Fr u hN hO w1 hR hdep K hK
            have gx : Fr.tmps[58]? = some (u 26) := hN 26 _ 58 rfl rfl rfl
            rw [show u 26 = .bool false from hdep 26 (by kernel_rfl) w1 (rb_refl _)] at gx
            rw [if_neg (wanted_off (s := 58) rfl (by kernel_rfl) gx (by decide))]
            exact hK _ _ (rb_refl _) fun w3 h3 => rfl
          · intro Fr u hN hO w1 hR hdep K hK
            have gx : Fr.tmps[58]? = some (u 26) := hN 26 _ 58 rfl rfl rfl
            rw [show u 26 = .bool false from hdep 26 (by kernel_rfl) w1 (rb_refl _)] at gx
            rw [if_neg (wanted_off (s := 58) rfl (by kernel_rfl) gx (by decide))]
            exact hK _ _ (rb_refl _) fun w3 h3 => rfl
          · intro Fr u hN hO w1 hR hdep K hK
            have gx : Fr.tmps[58]? = some (u 26) := hN 26 _ 58 rfl rfl rfl
            rw [show u 26 = .bool false from hdep 26 (by kernel_rfl) w1 (rb_refl _)] at gx
            rw [if_neg (wanted_off (s := 58) rfl (by kernel_rfl) gx (by decide))]
            exact hK _ _ (rb_refl _) fun w3 h3 => rfl
          · intro Fr u hN hO w1 hR hdep K hK
            have gx : Fr.tmps[58]? = some (u 26) := hN 26 _ 58 rfl rfl rfl
            rw [show u 26 = .bool false from hdep 26 (by kernel_rfl) w1 (rb_refl _)] at gx
            rw [if_neg (wanted_off (s := 58) rfl (by kernel_rfl) gx (by decide))]
            exact hK _ _ (rb_refl _) fun w3 h3 => rfl
          · intro Fr u hN hO w1 hR hdep K hK
            have gx : Fr.tmps[58]? = some (u 26) := hN 26 _ 58 rfl rfl rfl
            rw [show u 26 = .bool false from hdep 26 (by kernel_rfl) w1 (rb_refl _)] at gx
            rw [if_neg (wanted_off (s := 58) rfl (by kernel_rfl) gx (by decide))]
            exact hK _ _ (rb_refl _) fun w3 h3 => rfl
          · intro Fr u hN hO w1 hR hdep K hK
            have gx : Fr.tmps[58]? = some (u 26) := hN 26 _ 58 rfl rfl rfl
            rw [show u 26 = .bool false from hdep 26 (by kernel_rfl) w1 (rb_refl _)] at gx
            rw [if_neg (wanted_off (s := 58) rfl (by kernel_rfl) gx (by decide))]
            exact hK _ _ (rb_refl _) fun w3 h3 => rfl
          · intro Fr u hN hO w1 hR hdep K hK
            have gx : Fr.tmps[55]? = some (u 23) := hN 23 _ 55 rfl rfl rfl
            rw [show u 23 = .bool false from hdep 23 (by kernel_rfl) w1 (rb_refl _)] at gx
            rw [if_pos (wanted_on (s := 55) rfl (by kernel_rfl) gx)]
            have x26 : Fr.tmps[58]? = some (u 26) := hN 26 _ 58 rfl rfl rfl
            rw [show u 26 = .bool false from hdep 26 (by kernel_rfl) w1 (rb_refl _)] at x26
            have x33 : Fr.tmps[65]? = some (u 33) := hN 33 _ 65 rfl rfl rfl
            rw [show u 33 = undef from hdep 33 (by kernel_rfl) w1 (rb_refl _)] at x33
            clear hN hO hdep gx
            go_simp
            refine hK _ _ (rb_refl _) fun w3 h3 => ?_
            exact rfl
          · intro Fr u hN hO w1 hR hdep K hK
            rw [if_pos (by rfl)]
            have x23 : Fr.tmps[55]? = some (u 23) := hN 23 _ 55 rfl rfl rfl
            rw [show u 23 = .bool false from hdep 23 (by kernel_rfl) w1 (rb_refl _)] at x23
            have x34 : Fr.tmps[66]? = some (u 34) := hN 34 _ 66 rfl rfl rfl
            rw [show u 34 = .bool false from hdep 34 (by kernel_rfl) w1 (rb_refl _)] at x34
            clear hN hO hdep
            go_simp
            refine hK _ _ (rb_refl _) fun w3 h3 => ?_
            exact rfl
          · intro u w' hR hall
            have h35 : u 35 = .bool false := hall 35 (by decide)
            have bw : Below V8.heap.size V8 w' := bl_trans (bl_drew (Below.refl _ _)) hR
            clear hall
            simp only [frameF, Act.put, List.setIfInBounds_toArray, List.set_cons_zero, List.set_cons_succ, Nat.reduceAdd, h35]
            clear h35
            have g7 := block_below bw HG7.out
            have g5 := block_below bw HG5.out
            have Y0 := block_cell g7 (i := 0) rfl
            have Y1 := block_cell g7 (i := 1) rfl
            have Y2 := block_cell g7 (i := 2) rfl
            have Y3 := block_cell g7 (i := 3) rfl
            have Y4 := block_cell g7 (i := 4) rfl
            have X0 := block_cell g5 (i := 0) rfl
            have X1 := block_cell g5 (i := 1) rfl
            have X2 := block_cell g5 (i := 2) rfl
            have X3 := block_cell g5 (i := 3) rfl
            have X4 := block_cell g5 (i := 4) rfl
            have Z0 : w'.frozen? ⟨G5, 0, none⟩ = false := block_free g5
            have Z1 : w'.frozen? ⟨G5, 1, none⟩ = false := block_free g5
            have Z2 : w'.frozen? ⟨G5, 2, none⟩ = false := block_free g5
            have Z3 : w'.frozen? ⟨G5, 3, none⟩ = false := block_free g5
            have Z4 : w'.frozen? ⟨G5, 4, none⟩ = false := block_free g5
            have q8 : Below w.heap.size w w' := bl_trans (bl_trans bel bz) bw
            have k10 := Kd.row_below bw HK9.out
            have r5 : (((((w'.setCell ⟨G5, 0, none⟩ (.int .i64 m.view)).setCell ⟨G5, 1, none⟩ (.int .i64 m.height)).setCell ⟨G5, 2, none⟩ (.string m.block)).setCell ⟨G5, 3, none⟩ (.slice A5 lx.length c5)).setCell ⟨G5, 4, none⟩ (.int .i64 t1)).heap[G5]? = some (.cells #[.int .i64 m.view, .int .i64 m.height, .string m.block, .slice A5 lx.length c5, .int .i64 t1] 55 (0, 0)) := res5 (p := .int .i64 m.view) (q := .int .i64 m.height) (r := .string m.block) (s := .slice A5 lx.length c5) (u := .int .i64 t1) g5
            have q9 : Below w.heap.size w (((((w'.setCell ⟨G5, 0, none⟩ (.int .i64 m.view)).setCell ⟨G5, 1, none⟩ (.int .i64 m.height)).setCell ⟨G5, 2, none⟩ (.string m.block)).setCell ⟨G5, 3, none⟩ (.slice A5 lx.length c5)).setCell ⟨G5, 4, none⟩ (.int .i64 t1)) := bel5 (p := .int .i64 m.view) (q := .int .i64 m.height) (r := .string m.block) (s := .slice A5 lx.length c5) (u := .int .i64 t1) q8 le5
            have k11 := Kd.row_keep (keep5 (E := [28]) (p := .int .i64 m.view) (q := .int .i64 m.height) (r := .string m.block) (s := .slice A5 lx.length c5) (u := .int .i64 t1) g5 (Nat.zero_le _) (by decide)) k10
            have hL9 : kCert.Row 35 B0 (((((w'.setCell ⟨G5, 0, none⟩ (.int .i64 m.view)).setCell ⟨G5, 1, none⟩ (.int .i64 m.height)).setCell ⟨G5, 2, none⟩ (.string m.block)).setCell ⟨G5, 3, none⟩ (.slice A5 lx.length c5)).setCell ⟨G5, 4, none⟩ (.int .i64 t1)) (some ad) l := Kd.row_keep (keep5 (E := 35 :: kCert.E) (p := .int .i64 m.view) (q := .int .i64 m.height) (r := .string m.block) (s := .slice A5 lx.length c5) (u := .int .i64 t1) g5 (by omega) (by decide)) (Kd.row_below bw hl2.out)
            have hR9 : Kd.str.Row 9 B0 (((((w'.setCell ⟨G5, 0, none⟩ (.int .i64 m.view)).setCell ⟨G5, 1, none⟩ (.int .i64 m.height)).setCell ⟨G5, 2, none⟩ (.string m.block)).setCell ⟨G5, 3, none⟩ (.slice A5 lx.length c5)).setCell ⟨G5, 4, none⟩ (.int .i64 t1)) Ar roots := Kd.row_keep (keep5 (E := [9]) (p := .int .i64 m.view) (q := .int .i64 m.height) (r := .string m.block) (s := .slice A5 lx.length c5) (u := .int .i64 t1) g5 (by omega) (by decide)) (Kd.row_below bw HRR.out)
            have r0 : (((((w'.setCell ⟨G5, 0, none⟩ (.int .i64 m.view)).setCell ⟨G5, 1, none⟩ (.int .i64 m.height)).setCell ⟨G5, 2, none⟩ (.string m.block)).setCell ⟨G5, 3, none⟩ (.slice A5 lx.length c5)).setCell ⟨G5, 4, none⟩ (.int .i64 t1)).heap[G]? = some (.cells #[.slice Ar roots.length cr, .slice Ac nC cc, .int .i64 q, .int .i64 base, .int .i64 cap] 57 (0, 0)) := far5 (p := .int .i64 m.view) (q := .int .i64 m.height) (r := .string m.block) (s := .slice A5 lx.length c5) (u := .int .i64 t1) nG5 (block_below bw HG.out)
            go_wp2_with fail
            go_roundw
            case rel => exact ⟨k + 1, m, lx, A5, c5, t1, by omega, by omega, by go_num, q9, r5, r0, hlenx, k11, hL9, hR9⟩
            case measure => simp [intOf]; omega
end Go.Proofs.Ytglneailkgminaa
