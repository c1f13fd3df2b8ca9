/- Package mootlaw09: the walk of CertTells. No claim of its own; no condition. -/
import Derived.Test.YtglneailkgminaaCertT
import Derived.Test.YtglneailkgminaaRefM
namespace Go.Proofs.Ytglneailkgminaa
open Go.ChangeShapes Go.WideShapes Go.ChangeAt Go.RowKit
set_option linter.unusedVariables false
set_option linter.unusedSimpArgs false
theorem check_calls (m : Mark) (l : List Vote) (roots : List ByteArray) (q : Int) (A Ar : Option Addr) (c cr B : Nat) (w : World) (hl : l.length ≤ 1048576) (hlr : roots.length ≤ 1048576)
    (hr : kVote.Row 28 B w A l) (hrr : Kd.str.Row 9 B w Ar roots) :
    Calls Try.prog 23 #[.agg #[.int .i64 m.view, .int .i64 m.height, .string m.block, .slice A l.length c], .slice Ar roots.length cr, .int .i64 q] w fun e w' => e = .returned (.int .i64 (chkC m l roots q)) ∧ Below w.heap.size w w' := by
  by_cases h0 : l.length = 0
  · have : l = [] := List.length_eq_zero_iff.1 h0
    subst this
    exact check_nil m A Ar c roots.length cr q w
  · exact check_cons m l roots q A Ar l.length roots.length c cr B w rfl rfl hl h0 hlr hr hrr
theorem refcert_calls (m : Mark) (l : List Vote) (roots : List ByteArray) (q : Int) (A Ar : Option Addr) (c cr B : Nat) (w : World) (hl : l.length ≤ 1048576) (hlr : roots.length ≤ 1048576)
    (hr : kVote.Row 28 B w A l) (hrr : Kd.str.Row 9 B w Ar roots) :
    Calls Try.prog 24 #[.agg #[.int .i64 m.view, .int .i64 m.height, .string m.block, .slice A l.length c], .slice Ar roots.length cr, .int .i64 q] w fun e w' => e = .returned (.int .i64 (chkC m l roots q)) ∧ Below w.heap.size w w' := by
  by_cases h0 : l.length = 0
  · have : l = [] := List.length_eq_zero_iff.1 h0
    subst this
    exact refcert_nil m A Ar c roots.length cr q w
  · exact refcert_cons m l roots q A Ar l.length roots.length c cr B w rfl rfl hl h0 hlr hr hrr
theorem num09_calls (n : Int) (w : World) : Calls Try.prog 22 #[.int .i64 n] w fun e w' => e = .returned (.int .i64 n) ∧ Below w.heap.size w w' := by
  go_enter Try.func22, Try.ntmps22
  go_wp2
  go_ret
  exact ⟨rfl, Below.refl _ _⟩
theorem row_lift {B M : Nat} {w : World} {A : Option Addr} {l : List Vote} (hB : B ≤ M) (h : kVote.Row 28 B w A l) : kVote.Row 28 M w A l := by
  intro hne
  obtain ⟨ad, rfl, hb, hx⟩ := h hne
  exact ⟨ad, rfl, ⟨hb.1, hb.2.imp (fun k => Nat.lt_of_lt_of_le k hB) id⟩, hx⟩
theorem cpW_bd (m : Mark) (l : List Vote) : (cpW ([], 0) m l).1.length ≤ 20482 := by
  unfold cpW
  exact vps_bd l (numW_bd (textW_bd (numW_bd (numW_bd (s := ([], 0)) (by simp) _) _) _) _)
def ltG (G : Nat) (m a b : Mark) (A Ar A3 A5 : Option Addr) (nL nR nD c cr c3 c5 : Nat) (q res eD : Int) (sD : ByteArray) (h : Bool) : Nat → Value → World → Prop
  | 0, y, _ => y = .agg #[.int .i64 m.view, .int .i64 m.height, .string m.block, .slice A nL c]
  | 1, y, _ => y = .slice Ar nR cr
  | 2, y, _ => y = .int .i64 q
  | 3, y, _ => y = .int .i64 res
  | 4, y, _ => y = .int .i64 res
  | 5, y, _ => y = .agg #[.int .i64 m.view, .int .i64 m.height, .string m.block, .slice A nL c]
  | 6, y, _ => y = .slice Ar nR cr
  | 7, y, _ => y = .int .i64 q
  | 8, y, _ => y = .int .i64 res
  | 9, y, _ => y = .bool true
  | 10, y, _ => y = .bool true
  | 11, y, _ => y = .agg #[.int .i64 m.view, .int .i64 m.height, .string m.block, .slice A nL c]
  | 12, y, _ => y = .agg #[.int .i64 m.view, .int .i64 m.height, .string m.block]
  | 13, y, _ => y = .pointer (some ⟨G, 0, none⟩)
  | 14, y, _ => y = .int .i64 m.view
  | 15, y, _ => y = .pointer (some ⟨G, 1, none⟩)
  | 16, y, _ => y = .int .i64 m.height
  | 17, y, _ => y = .pointer (some ⟨G, 2, none⟩)
  | 18, y, _ => y = .string m.block
  | 19, y, _ => y = .agg #[.int .i64 m.view, .int .i64 m.height, .string m.block]
  | 20, y, _ => y = .bool true
  | 21, y, _ => y = .bool true
  | 22, y, _ => y = .bool true
  | 23, y, _ => y = .agg #[.int .i64 a.view, .int .i64 a.height, .string a.block]
  | 24, y, _ => y = .agg #[.int .i64 b.view, .int .i64 b.height, .string b.block]
  | 25, y, _ => y = .bool h
  | 26, y, _ => y = .bool h
  | 27, y, _ => y = .bool true
  | 28, y, _ => y = .bool true
  | 29, y, _ => y = .bool true
  | 30, y, _ => y = .slice A3 nD c3
  | 31, y, _ => y = .string sD
  | 32, y, _ => y = .slice A5 nD c5
  | 33, y, _ => y = .string sD
  | 34, y, _ => y = .bool true
  | 35, y, _ => y = .bool true
  | 36, y, _ => y = .bool true
  | 37, y, _ => y = .int .i64 eD
  | 38, y, _ => y = .int .i64 eD
  | 39, y, _ => y = .int .i64 eD
  | 40, y, _ => y = .bool true
  | 41, y, _ => y = .bool true
  | 42, y, _ => y = .bool true
  | 43, y, _ => y = .bool true
  | 44, y, _ => y = .bool true
  | 45, y, _ => y = .bool true
  | _, _, _ => True
set_option maxHeartbeats 64000000 in
set_option maxRecDepth 100000 in
theorem certtells_walk (m : Mark) (l : List Vote) (roots : List ByteArray) (q : Int) (a b : Mark) (A Ar : Option Addr) (c cr B0 : Nat) (w : World) (hB0 : B0 ≤ w.heap.size) (hl : l.length ≤ 1048576) (hlr : roots.length ≤ 1048576)
    (hr : kVote.Row 28 B0 w A l) (hrr : Kd.str.Row 9 B0 w Ar roots) (hz : m.block.size ≤ 1048576) (hv : ∀ v ∈ l, v.block.size ≤ 1048576 ∧ v.sig.size ≤ 1048576) :
    Calls Try.prog 5 #[.agg #[.int .i64 m.view, .int .i64 m.height, .string m.block, .slice A l.length c], .slice Ar roots.length cr, .int .i64 q, .agg #[.int .i64 a.view, .int .i64 a.height, .string a.block], .agg #[.int .i64 b.view, .int .i64 b.height, .string b.block]] w fun e w' => e = .returned (.bool true) ∧ Below w.heap.size w w' := by
  have q0 := bl_alloc (bl_alloc (bl_alloc (Below.refl w.heap.size w) (.cells #[.int .i64 m.view, .int .i64 m.height, .string m.block, .slice A l.length c] 35)) (.cells #[.int .i64 a.view, .int .i64 a.height, .string a.block] 26)) (.cells #[.int .i64 b.view, .int .i64 b.height, .string b.block] 26)
  have a0 : (((w.alloc (.cells #[.int .i64 m.view, .int .i64 m.height, .string m.block, .slice A l.length c] 35)).alloc (.cells #[.int .i64 a.view, .int .i64 a.height, .string a.block] 26)).alloc (.cells #[.int .i64 b.view, .int .i64 b.height, .string b.block] 26)).heap[w.heap.size]? = some (.cells #[.int .i64 m.view, .int .i64 m.height, .string m.block, .slice A l.length c] 35 (0, 0)) := alloc_old (alloc_old (alloc_new w _) _) _
  have a1 : (((w.alloc (.cells #[.int .i64 m.view, .int .i64 m.height, .string m.block, .slice A l.length c] 35)).alloc (.cells #[.int .i64 a.view, .int .i64 a.height, .string a.block] 26)).alloc (.cells #[.int .i64 b.view, .int .i64 b.height, .string b.block] 26)).heap[w.heap.size + 1]? = some (.cells #[.int .i64 a.view, .int .i64 a.height, .string a.block] 26 (0, 0)) := by
    have := alloc_old (alloc_new (w.alloc (.cells #[.int .i64 m.view, .int .i64 m.height, .string m.block, .slice A l.length c] 35)) (.cells #[.int .i64 a.view, .int .i64 a.height, .string a.block] 26)) (.cells #[.int .i64 b.view, .int .i64 b.height, .string b.block] 26)
    rwa [World.size_alloc] at this
  have a2 : (((w.alloc (.cells #[.int .i64 m.view, .int .i64 m.height, .string m.block, .slice A l.length c] 35)).alloc (.cells #[.int .i64 a.view, .int .i64 a.height, .string a.block] 26)).alloc (.cells #[.int .i64 b.view, .int .i64 b.height, .string b.block] 26)).heap[w.heap.size + 1 + 1]? = some (.cells #[.int .i64 b.view, .int .i64 b.height, .string b.block] 26 (0, 0)) := by
    have := alloc_new ((w.alloc (.cells #[.int .i64 m.view, .int .i64 m.height, .string m.block, .slice A l.length c] 35)).alloc (.cells #[.int .i64 a.view, .int .i64 a.height, .string a.block] 26)) (.cells #[.int .i64 b.view, .int .i64 b.height, .string b.block] 26)
    rwa [World.size_alloc, World.size_alloc] at this
  have hrq := Kd.row_below q0 hr
  have hrrq := Kd.row_below q0 hrr
  obtain ⟨S, hS⟩ : ∃ S, cpW ([], 0) m l = S := ⟨_, rfl⟩
  have hSl : S.1.length ≤ 20482 := by rw [← hS]; exact cpW_bd m l
  have hput := fun (M N : Nat) (W : World) (h1 : kVote.Row 28 M W A l) (h2 : WrS M W N [] 0) => cput_calls M N ([], 0) m l A l.length c W rfl hl h1 h2 (by simp) hz hv
  have hput2 := fun (B Bl : Nat) (y : Value) (W : World) (h : WV B W ([], 0) y) (hB : B ≤ W.heap.size) (h1 : kVote.Row 28 Bl W A l) => refputcert_calls B ([], 0) m l A l.length c Bl y W h hB rfl hl h1 (by simp) hz hv
  simp only [hS] at hput hput2
  have hd1 := fun (M N : Nat) (W : World) (h : WrS M W N S.1 S.2) => done_calls M N S W h (by omega)
  have hd2 := fun (B : Nat) (y : Value) (W : World) (h : WV B W S y) => refdone_calls B S y W h (by omega)
  obtain ⟨D, hD⟩ : ∃ D, doneW S = D := ⟨_, rfl⟩
  simp only [hD] at hd1 hd2
  have HPUT := Lib.hid hput
  have HPUT2 := Lib.hid hput2
  have HD1 := Lib.hid hd1
  have HD2 := Lib.hid hd2
  obtain ⟨res, hres⟩ : ∃ r, chkC m l roots q = r := ⟨_, rfl⟩
  have hck := fun (W : World) (h1 : kVote.Row 28 B0 W A l) (h2 : Kd.str.Row 9 B0 W Ar roots) => check_calls m l roots q A Ar c cr B0 W hl hlr h1 h2
  have hrc := fun (W : World) (h1 : kVote.Row 28 B0 W A l) (h2 : Kd.str.Row 9 B0 W Ar roots) => refcert_calls m l roots q A Ar c cr B0 W hl hlr h1 h2
  simp only [hres] at hck hrc
  have HCK := Lib.hid hck
  have HRC := Lib.hid hrc
  clear hput hput2 hd1 hd2 hck hrc hr hrr hS hD hres hv hSl
  go_enter Try.func5, Try.ntmps5
  go_upto_region 1 with fail
  change Code.wp _ _ _ _ (((w.alloc (.cells #[.int .i64 m.view, .int .i64 m.height, .string m.block, .slice A l.length c] 35)).alloc (.cells #[.int .i64 a.view, .int .i64 a.height, .string a.block] 26)).alloc (.cells #[.int .i64 b.view, .int .i64 b.height, .string b.block] 26))
  obtain ⟨G, hG⟩ : ∃ G, w.heap.size = G := ⟨_, rfl⟩
  generalize ((w.alloc (.cells #[.int .i64 m.view, .int .i64 m.height, .string m.block, .slice A l.length c] 35)).alloc (.cells #[.int .i64 a.view, .int .i64 a.height, .string a.block] 26)).alloc (.cells #[.int .i64 b.view, .int .i64 b.height, .string b.block] 26) = V at *
  simp only [hG] at a0 a1 a2 ⊢
  clear hG
  go_upto_region 2 with (go_at_call 17; refine (new_calls _).mono ?_; rintro x w1 ⟨rfl, W1, b1⟩)
  have g1 := block_below b1 a0
  have X0 := block_cell g1 (i := 0) rfl
  have X1 := block_cell g1 (i := 1) rfl
  have X2 := block_cell g1 (i := 2) rfl
  have X3 := block_cell g1 (i := 3) rfl
  have row1 := row_lift (Nat.le_trans hB0 q0.size) (Kd.row_below b1 hrq)
  go_upto_region 3 with (go_at_call 18; refine (HPUT.out _ _ _ row1 W1).mono ?_; rintro x w2 ⟨⟨x2, rfl⟩, W2, k2⟩)
  have hb2 : Below V.heap.size V w2 := b1.trans (k2.1)
  clear X0 X1 X2 X3 row1 W1
  go_upto_region 4 with (go_at_call 19; refine (HD1.out _ _ _ W2).mono ?_; rintro x w3 ⟨⟨v3, rfl, own3⟩, b3⟩)
  have hb3 : Below V.heap.size V w3 := bl_trans hb2 b3
  have g3 := block_below hb3 a0
  have X0 := block_cell g3 (i := 0) rfl
  have X1 := block_cell g3 (i := 1) rfl
  have X2 := block_cell g3 (i := 2) rfl
  have X3 := block_cell g3 (i := 3) rfl
  have row3 := Kd.row_below hb3 hrq
  have wv0 : WV 0 w3 ([], 0) (.agg #[.slice none 0 0, .int .i64 0]) := ⟨none, 0, 0, rfl, none, 0, rfl, Nat.le_refl _, by decide, Kd.row_nil _ _ _ _ _⟩
  go_upto_region 5 with (first
    | (go_at_call 21; refine (HPUT2.out 0 B0 _ _ wv0 (Nat.zero_le _) row3).mono ?_; rintro x w4 ⟨⟨y4, rfl, wv4⟩, b4⟩)
    | (go_at_call 20; refine (HD2.out 0 _ _ wv4).mono ?_; rintro x w5 ⟨⟨v5, rfl, k5⟩, b5⟩))
  obtain ⟨A3, c3, rfl, l3, m3, r3, _⟩ := Kd.own_row own3
  obtain ⟨A5, c5, e5, _, _, r5⟩ := k5
  obtain rfl : v5 = .slice A5 D.1.length c5 := by injection e5
  have hb5 : Below V.heap.size V w5 := bl_trans hb3 (bl_trans b4 b5)
  have r3' := Kd.row_below (bl_trans b4 b5) r3
  have g0 := block_below hb5 a0
  have g1' := block_below hb5 a1
  have g2' := block_below hb5 a2
  have HA0 := Lib.hid g0
  have HA1 := Lib.hid g1'
  have HA2 := Lib.hid g2'
  have HR3 := Lib.hid r3'
  have HR5 := Lib.hid r5
  have HROW := Lib.hid (Kd.row_below hb5 hrq)
  have HRR := Lib.hid (Kd.row_below hb5 hrrq)
  have B5 := bl_trans q0 hb5
  have hqq : ∀ W, (binOp .eql 26 (.agg #[.int .i64 m.view, .int .i64 m.height, .string m.block]) (.agg #[.int .i64 m.view, .int .i64 m.height, .string m.block])).run Try.prog W = .ok (.bool true) W := fun W => by rw [eqlMark, decide_eq_true rfl]
  have HQQ := Lib.hid hqq
  have hh := fun W => higher_calls a b W
  clear hqq r3 r3' r5 own3 e5 l3 m3 hrq hrrq hb5 hb3 hb2 b1 k2 b3 b4 b5 X0 X1 X2 X3 g0 g1 g3 W2 row3 wv0 wv4 a0 a1 a2 q0
  have r0 := block_cell g1' (i := 0) rfl
  have r1 := block_cell g1' (i := 1) rfl
  have s0 := block_cell g2' (i := 0) rfl
  have s1 := block_cell g2' (i := 1) rfl
  clear g1' g2'
  obtain ⟨h, hhd⟩ : ∃ h, higherF a b = h := ⟨_, rfl⟩
  rw [hhd] at hh
  have HH := Lib.hid hh
  clear hh
  cases h
  case true =>
    have hcs : a.view > b.view ∨ (¬ a.view > b.view ∧ (a.view == b.view) = true ∧ a.height > b.height) := by
      simp only [higherF, Bool.or_eq_true, Bool.and_eq_true, decide_eq_true_eq] at hhd
      rcases hhd with h | ⟨h1, h2⟩
      · left; omega
      · right; exact ⟨by omega, by rw [h1]; simp, by omega⟩
    clear hhd
    rcases hcs with d1 | ⟨d1, d2, d3⟩
    all_goals
      go_upto_region 6 with fail
      clear r0 r1 s0 s1
      refine wp_region_invA (by kernel_rfl) (by kernel_rfl) Rb (ltG G m a b A Ar A3 A5 l.length roots.length D.1.length c cr c3 c5 q res D.2 (sb D.1) true) rb_refl rb_trans ⟨?_, ?_, ?_, ?_, ?_, ?_, ?_, ?_, ?_, ?_, ?_, ?_, ?_, ?_, ?_, ?_, ?_, ?_, ?_, ?_, ?_, ?_, ?_, ?_, ?_, ?_, ?_, ?_, ?_, ?_, ?_, ?_, ?_, ?_, ?_, ?_, ?_, ?_, ?_, ?_, ?_, ?_, ?_, ?_, ?_, ?_, trivial⟩ ?_
      · intro Fr u hN hO w1 hR hdep K hK
        rw [if_pos (by rfl)]
        have y5 : Fr.tmps[5]? = some (.pointer (some ⟨G, 0, none⟩)) := hO 5 _ rfl rfl
        clear hN hO hdep
        have gg := block_below hR HA0.out
        have z0 := block_cell gg (i := 0) rfl
        have z1 := block_cell gg (i := 1) rfl
        have z2 := block_cell gg (i := 2) rfl
        have z3 := block_cell gg (i := 3) rfl
        go_simp
        refine hK _ _ (rb_refl _) fun w3 h3 => ?_
        exact rfl
      · intro Fr u hN hO w1 hR hdep K hK
        rw [if_pos (by rfl)]
        have y1 : Fr.tmps[1]? = some (.slice Ar roots.length cr) := hO 1 _ rfl rfl
        clear hN hO hdep
        go_simp
        refine hK _ _ (rb_refl _) fun w3 h3 => ?_
        exact rfl
      · intro Fr u hN hO w1 hR hdep K hK
        rw [if_pos (by rfl)]
        have y2 : Fr.tmps[2]? = some (.int .i64 q) := hO 2 _ rfl rfl
        clear hN hO hdep
        go_simp
        refine hK _ _ (rb_refl _) fun w3 h3 => ?_
        exact rfl
      · intro Fr u hN hO w1 hR hdep K hK
        rw [if_pos (by rfl)]
        have x0 : Fr.tmps[52]? = some (u 0) := hN 0 _ 52 rfl rfl rfl
        rw [show u 0 = .agg #[.int .i64 m.view, .int .i64 m.height, .string m.block, .slice A l.length c] from hdep 0 (by kernel_rfl) w1 (rb_refl _)] at x0
        have x1 : Fr.tmps[53]? = some (u 1) := hN 1 _ 53 rfl rfl rfl
        rw [show u 1 = .slice Ar roots.length cr from hdep 1 (by kernel_rfl) w1 (rb_refl _)] at x1
        have x2 : Fr.tmps[54]? = some (u 2) := hN 2 _ 54 rfl rfl rfl
        rw [show u 2 = .int .i64 q from hdep 2 (by kernel_rfl) w1 (rb_refl _)] at x2
        clear hN hO hdep
        go_simp
        refine (HCK.out w1 (Kd.row_below hR HROW.out) (Kd.row_below hR HRR.out)).mono ?_
        rintro x w2 ⟨rfl, b2⟩
        refine hK _ _ b2 fun w3 h3 => ?_
        exact rfl
      · intro Fr u hN hO w1 hR hdep K hK
        rw [if_pos (by rfl)]
        have x3 : Fr.tmps[55]? = some (u 3) := hN 3 _ 55 rfl rfl rfl
        rw [show u 3 = .int .i64 res from hdep 3 (by kernel_rfl) w1 (rb_refl _)] at x3
        clear hN hO hdep
        go_simp
        refine (num09_calls res w1).mono ?_
        rintro x w2 ⟨rfl, b2⟩
        refine hK _ _ b2 fun w3 h3 => ?_
        exact rfl
      · intro Fr u hN hO w1 hR hdep K hK
        rw [if_pos (by rfl)]
        have y5 : Fr.tmps[5]? = some (.pointer (some ⟨G, 0, none⟩)) := hO 5 _ rfl rfl
        clear hN hO hdep
        have gg := block_below hR HA0.out
        have z0 := block_cell gg (i := 0) rfl
        have z1 := block_cell gg (i := 1) rfl
        have z2 := block_cell gg (i := 2) rfl
        have z3 := block_cell gg (i := 3) rfl
        go_simp
        refine hK _ _ (rb_refl _) fun w3 h3 => ?_
        exact rfl
      · intro Fr u hN hO w1 hR hdep K hK
        rw [if_pos (by rfl)]
        have y1 : Fr.tmps[1]? = some (.slice Ar roots.length cr) := hO 1 _ rfl rfl
        clear hN hO hdep
        go_simp
        refine hK _ _ (rb_refl _) fun w3 h3 => ?_
        exact rfl
      · intro Fr u hN hO w1 hR hdep K hK
        rw [if_pos (by rfl)]
        have y2 : Fr.tmps[2]? = some (.int .i64 q) := hO 2 _ rfl rfl
        clear hN hO hdep
        go_simp
        refine hK _ _ (rb_refl _) fun w3 h3 => ?_
        exact rfl
      · intro Fr u hN hO w1 hR hdep K hK
        rw [if_pos (by rfl)]
        have x5 : Fr.tmps[57]? = some (u 5) := hN 5 _ 57 rfl rfl rfl
        rw [show u 5 = .agg #[.int .i64 m.view, .int .i64 m.height, .string m.block, .slice A l.length c] from hdep 5 (by kernel_rfl) w1 (rb_refl _)] at x5
        have x6 : Fr.tmps[58]? = some (u 6) := hN 6 _ 58 rfl rfl rfl
        rw [show u 6 = .slice Ar roots.length cr from hdep 6 (by kernel_rfl) w1 (rb_refl _)] at x6
        have x7 : Fr.tmps[59]? = some (u 7) := hN 7 _ 59 rfl rfl rfl
        rw [show u 7 = .int .i64 q from hdep 7 (by kernel_rfl) w1 (rb_refl _)] at x7
        clear hN hO hdep
        go_simp
        refine (HRC.out w1 (Kd.row_below hR HROW.out) (Kd.row_below hR HRR.out)).mono ?_
        rintro x w2 ⟨rfl, b2⟩
        refine hK _ _ b2 fun w3 h3 => ?_
        exact rfl
      · intro Fr u hN hO w1 hR hdep K hK
        rw [if_pos (by rfl)]
        have x4 : Fr.tmps[56]? = some (u 4) := hN 4 _ 56 rfl rfl rfl
        rw [show u 4 = .int .i64 res from hdep 4 (by kernel_rfl) w1 (rb_refl _)] at x4
        have x8 : Fr.tmps[60]? = some (u 8) := hN 8 _ 60 rfl rfl rfl
        rw [show u 8 = .int .i64 res from hdep 8 (by kernel_rfl) w1 (rb_refl _)] at x8
        clear hN hO hdep
        go_simp
        refine hK _ _ (rb_refl _) fun w3 h3 => ?_
        exact rfl
      · intro Fr u hN hO w1 hR hdep K hK
        rw [if_pos (by rfl)]
        have x9 : Fr.tmps[61]? = some (u 9) := hN 9 _ 61 rfl rfl rfl
        rw [show u 9 = .bool true from hdep 9 (by kernel_rfl) w1 (rb_refl _)] at x9
        clear hN hO hdep
        go_simp
        refine hK _ _ (rb_refl _) fun w3 h3 => ?_
        exact rfl
      · intro Fr u hN hO w1 hR hdep K hK
        have gx : Fr.tmps[62]? = some (u 10) := hN 10 _ 62 rfl rfl rfl
        rw [show u 10 = .bool true from hdep 10 (by kernel_rfl) w1 (rb_refl _)] at gx
        rw [if_pos (wanted_on (s := 62) rfl (by kernel_rfl) gx)]
        have y5 : Fr.tmps[5]? = some (.pointer (some ⟨G, 0, none⟩)) := hO 5 _ rfl rfl
        clear hN hO hdep gx
        have gg := block_below hR HA0.out
        have z0 := block_cell gg (i := 0) rfl
        have z1 := block_cell gg (i := 1) rfl
        have z2 := block_cell gg (i := 2) rfl
        have z3 := block_cell gg (i := 3) rfl
        go_simp
        refine hK _ _ (rb_refl _) fun w3 h3 => ?_
        exact rfl
      · intro Fr u hN hO w1 hR hdep K hK
        have gx : Fr.tmps[62]? = some (u 10) := hN 10 _ 62 rfl rfl rfl
        rw [show u 10 = .bool true from hdep 10 (by kernel_rfl) w1 (rb_refl _)] at gx
        rw [if_pos (wanted_on (s := 62) rfl (by kernel_rfl) gx)]
        have x11 : Fr.tmps[63]? = some (u 11) := hN 11 _ 63 rfl rfl rfl
        rw [show u 11 = .agg #[.int .i64 m.view, .int .i64 m.height, .string m.block, .slice A l.length c] from hdep 11 (by kernel_rfl) w1 (rb_refl _)] at x11
        clear hN hO hdep gx
        go_simp
        refine (cmark_calls m _ _ _ _).mono ?_
        rintro x w2 ⟨rfl, b2⟩
        refine hK _ _ b2 fun w3 h3 => ?_
        exact rfl
      · intro Fr u hN hO w1 hR hdep K hK
        have gx : Fr.tmps[62]? = some (u 10) := hN 10 _ 62 rfl rfl rfl
        rw [show u 10 = .bool true from hdep 10 (by kernel_rfl) w1 (rb_refl _)] at gx
        rw [if_pos (wanted_on (s := 62) rfl (by kernel_rfl) gx)]
        have y5 : Fr.tmps[5]? = some (.pointer (some ⟨G, 0, none⟩)) := hO 5 _ rfl rfl
        clear hN hO hdep gx
        go_simp
        refine hK _ _ (rb_refl _) fun w3 h3 => ?_
        exact rfl
      · intro Fr u hN hO w1 hR hdep K hK
        have gx : Fr.tmps[62]? = some (u 10) := hN 10 _ 62 rfl rfl rfl
        rw [show u 10 = .bool true from hdep 10 (by kernel_rfl) w1 (rb_refl _)] at gx
        rw [if_pos (wanted_on (s := 62) rfl (by kernel_rfl) gx)]
        have x13 : Fr.tmps[65]? = some (u 13) := hN 13 _ 65 rfl rfl rfl
        rw [show u 13 = .pointer (some ⟨G, 0, none⟩) from hdep 13 (by kernel_rfl) w1 (rb_refl _)] at x13
        clear hN hO hdep gx
        have gg := block_below hR HA0.out
        have z0 := block_cell gg (i := 0) rfl
        have z1 := block_cell gg (i := 1) rfl
        have z2 := block_cell gg (i := 2) rfl
        have z3 := block_cell gg (i := 3) rfl
        go_simp
        refine hK _ _ (rb_refl _) fun w3 h3 => ?_
        exact rfl
      · intro Fr u hN hO w1 hR hdep K hK
        have gx : Fr.tmps[62]? = some (u 10) := hN 10 _ 62 rfl rfl rfl
        rw [show u 10 = .bool true from hdep 10 (by kernel_rfl) w1 (rb_refl _)] at gx
        rw [if_pos (wanted_on (s := 62) rfl (by kernel_rfl) gx)]
        have y5 : Fr.tmps[5]? = some (.pointer (some ⟨G, 0, none⟩)) := hO 5 _ rfl rfl
        clear hN hO hdep gx
        go_simp
        refine hK _ _ (rb_refl _) fun w3 h3 => ?_
        exact rfl
      · intro Fr u hN hO w1 hR hdep K hK
        have gx : Fr.tmps[62]? = some (u 10) := hN 10 _ 62 rfl rfl rfl
        rw [show u 10 = .bool true from hdep 10 (by kernel_rfl) w1 (rb_refl _)] at gx
        rw [if_pos (wanted_on (s := 62) rfl (by kernel_rfl) gx)]
        have x15 : Fr.tmps[67]? = some (u 15) := hN 15 _ 67 rfl rfl rfl
        rw [show u 15 = .pointer (some ⟨G, 1, none⟩) from hdep 15 (by kernel_rfl) w1 (rb_refl _)] at x15
        clear hN hO hdep gx
        have gg := block_below hR HA0.out
        have z0 := block_cell gg (i := 0) rfl
        have z1 := block_cell gg (i := 1) rfl
        have z2 := block_cell gg (i := 2) rfl
        have z3 := block_cell gg (i := 3) rfl
        go_simp
        refine hK _ _ (rb_refl _) fun w3 h3 => ?_
        exact rfl
      · intro Fr u hN hO w1 hR hdep K hK
        have gx : Fr.tmps[62]? = some (u 10) := hN 10 _ 62 rfl rfl rfl
        rw [show u 10 = .bool true from hdep 10 (by kernel_rfl) w1 (rb_refl _)] at gx
        rw [if_pos (wanted_on (s := 62) rfl (by kernel_rfl) gx)]
        have y5 : Fr.tmps[5]? = some (.pointer (some ⟨G, 0, none⟩)) := hO 5 _ rfl rfl
        clear hN hO hdep gx
        go_simp
        refine hK _ _ (rb_refl _) fun w3 h3 => ?_
        exact rfl
      · intro Fr u hN hO w1 hR hdep K hK
        have gx : Fr.tmps[62]? = some (u 10) := hN 10 _ 62 rfl rfl rfl
        rw [show u 10 = .bool true from hdep 10 (by kernel_rfl) w1 (rb_refl _)] at gx
        rw [if_pos (wanted_on (s := 62) rfl (by kernel_rfl) gx)]
        have x17 : Fr.tmps[69]? = some (u 17) := hN 17 _ 69 rfl rfl rfl
        rw [show u 17 = .pointer (some ⟨G, 2, none⟩) from hdep 17 (by kernel_rfl) w1 (rb_refl _)] at x17
        clear hN hO hdep gx
        have gg := block_below hR HA0.out
        have z0 := block_cell gg (i := 0) rfl
        have z1 := block_cell gg (i := 1) rfl
        have z2 := block_cell gg (i := 2) rfl
        have z3 := block_cell gg (i := 3) rfl
        go_simp
        refine hK _ _ (rb_refl _) fun w3 h3 => ?_
        exact rfl
      · intro Fr u hN hO w1 hR hdep K hK
        have gx : Fr.tmps[62]? = some (u 10) := hN 10 _ 62 rfl rfl rfl
        rw [show u 10 = .bool true from hdep 10 (by kernel_rfl) w1 (rb_refl _)] at gx
        rw [if_pos (wanted_on (s := 62) rfl (by kernel_rfl) gx)]
        have x14 : Fr.tmps[66]? = some (u 14) := hN 14 _ 66 rfl rfl rfl
        rw [show u 14 = .int .i64 m.view from hdep 14 (by kernel_rfl) w1 (rb_refl _)] at x14
        have x16 : Fr.tmps[68]? = some (u 16) := hN 16 _ 68 rfl rfl rfl
        rw [show u 16 = .int .i64 m.height from hdep 16 (by kernel_rfl) w1 (rb_refl _)] at x16
        have x18 : Fr.tmps[70]? = some (u 18) := hN 18 _ 70 rfl rfl rfl
        rw [show u 18 = .string m.block from hdep 18 (by kernel_rfl) w1 (rb_refl _)] at x18
        clear hN hO hdep gx
        go_simp
        refine hK _ _ (rb_refl _) fun w3 h3 => ?_
        exact rfl
      · intro Fr u hN hO w1 hR hdep K hK
        have gx : Fr.tmps[62]? = some (u 10) := hN 10 _ 62 rfl rfl rfl
        rw [show u 10 = .bool true from hdep 10 (by kernel_rfl) w1 (rb_refl _)] at gx
        rw [if_pos (wanted_on (s := 62) rfl (by kernel_rfl) gx)]
        have x12 : Fr.tmps[64]? = some (u 12) := hN 12 _ 64 rfl rfl rfl
        rw [show u 12 = .agg #[.int .i64 m.view, .int .i64 m.height, .string m.block] from hdep 12 (by kernel_rfl) w1 (rb_refl _)] at x12
        have x19 : Fr.tmps[71]? = some (u 19) := hN 19 _ 71 rfl rfl rfl
        rw [show u 19 = .agg #[.int .i64 m.view, .int .i64 m.height, .string m.block] from hdep 19 (by kernel_rfl) w1 (rb_refl _)] at x19
        clear hN hO hdep gx
        have hqq := HQQ.out
        go_simp
        refine hK _ _ (rb_refl _) fun w3 h3 => ?_
        exact rfl
      · intro Fr u hN hO w1 hR hdep K hK
        rw [if_pos (by rfl)]
        have x10 : Fr.tmps[62]? = some (u 10) := hN 10 _ 62 rfl rfl rfl
        rw [show u 10 = .bool true from hdep 10 (by kernel_rfl) w1 (rb_refl _)] at x10
        have x20 : Fr.tmps[72]? = some (u 20) := hN 20 _ 72 rfl rfl rfl
        rw [show u 20 = .bool true from hdep 20 (by kernel_rfl) w1 (rb_refl _)] at x20
        clear hN hO hdep
        go_simp
        refine hK _ _ (rb_refl _) fun w3 h3 => ?_
        exact rfl
      · intro Fr u hN hO w1 hR hdep K hK
        rw [if_pos (by rfl)]
        have x21 : Fr.tmps[73]? = some (u 21) := hN 21 _ 73 rfl rfl rfl
        rw [show u 21 = .bool true from hdep 21 (by kernel_rfl) w1 (rb_refl _)] at x21
        clear hN hO hdep
        go_simp
        refine hK _ _ (rb_refl _) fun w3 h3 => ?_
        exact rfl
      · intro Fr u hN hO w1 hR hdep K hK
        have gx : Fr.tmps[74]? = some (u 22) := hN 22 _ 74 rfl rfl rfl
        rw [show u 22 = .bool true from hdep 22 (by kernel_rfl) w1 (rb_refl _)] at gx
        rw [if_pos (wanted_on (s := 74) rfl (by kernel_rfl) gx)]
        have y8 : Fr.tmps[8]? = some (.pointer (some ⟨G + 1, 0, none⟩)) := hO 8 _ rfl rfl
        clear hN hO hdep gx
        have gg := block_below hR HA1.out
        have z0 := block_cell gg (i := 0) rfl
        have z1 := block_cell gg (i := 1) rfl
        have z2 := block_cell gg (i := 2) rfl
        go_simp
        refine hK _ _ (rb_refl _) fun w3 h3 => ?_
        exact rfl
      · intro Fr u hN hO w1 hR hdep K hK
        have gx : Fr.tmps[74]? = some (u 22) := hN 22 _ 74 rfl rfl rfl
        rw [show u 22 = .bool true from hdep 22 (by kernel_rfl) w1 (rb_refl _)] at gx
        rw [if_pos (wanted_on (s := 74) rfl (by kernel_rfl) gx)]
        have y9 : Fr.tmps[9]? = some (.pointer (some ⟨G + 1 + 1, 0, none⟩)) := hO 9 _ rfl rfl
        clear hN hO hdep gx
        have gg := block_below hR HA2.out
        have z0 := block_cell gg (i := 0) rfl
        have z1 := block_cell gg (i := 1) rfl
        have z2 := block_cell gg (i := 2) rfl
        go_simp
        refine hK _ _ (rb_refl _) fun w3 h3 => ?_
        exact rfl
      · intro Fr u hN hO w1 hR hdep K hK
        have gx : Fr.tmps[74]? = some (u 22) := hN 22 _ 74 rfl rfl rfl
        rw [show u 22 = .bool true from hdep 22 (by kernel_rfl) w1 (rb_refl _)] at gx
        rw [if_pos (wanted_on (s := 74) rfl (by kernel_rfl) gx)]
        have x23 : Fr.tmps[75]? = some (u 23) := hN 23 _ 75 rfl rfl rfl
        rw [show u 23 = .agg #[.int .i64 a.view, .int .i64 a.height, .string a.block] from hdep 23 (by kernel_rfl) w1 (rb_refl _)] at x23
        have x24 : Fr.tmps[76]? = some (u 24) := hN 24 _ 76 rfl rfl rfl
        rw [show u 24 = .agg #[.int .i64 b.view, .int .i64 b.height, .string b.block] from hdep 24 (by kernel_rfl) w1 (rb_refl _)] at x24
        clear hN hO hdep gx
        go_simp
        refine (HH.out w1).mono ?_
        rintro x w2 ⟨rfl, g2⟩; have b2 := gd_below g2
        refine hK _ _ b2 fun w3 h3 => ?_
        exact rfl
      · intro Fr u hN hO w1 hR hdep K hK
        have gx : Fr.tmps[74]? = some (u 22) := hN 22 _ 74 rfl rfl rfl
        rw [show u 22 = .bool true from hdep 22 (by kernel_rfl) w1 (rb_refl _)] at gx
        rw [if_pos (wanted_on (s := 74) rfl (by kernel_rfl) gx)]
        have y16 : Fr.tmps[16]? = some (.bool true) := hO 16 _ rfl rfl
        clear hN hO hdep gx
        go_simp
        refine hK _ _ (rb_refl _) fun w3 h3 => ?_
        exact rfl
      · intro Fr u hN hO w1 hR hdep K hK
        have gx : Fr.tmps[74]? = some (u 22) := hN 22 _ 74 rfl rfl rfl
        rw [show u 22 = .bool true from hdep 22 (by kernel_rfl) w1 (rb_refl _)] at gx
        rw [if_pos (wanted_on (s := 74) rfl (by kernel_rfl) gx)]
        have x25 : Fr.tmps[77]? = some (u 25) := hN 25 _ 77 rfl rfl rfl
        rw [show u 25 = .bool true from hdep 25 (by kernel_rfl) w1 (rb_refl _)] at x25
        have x26 : Fr.tmps[78]? = some (u 26) := hN 26 _ 78 rfl rfl rfl
        rw [show u 26 = .bool true from hdep 26 (by kernel_rfl) w1 (rb_refl _)] at x26
        clear hN hO hdep gx
        go_simp
        refine hK _ _ (rb_refl _) fun w3 h3 => ?_
        exact rfl
      · intro Fr u hN hO w1 hR hdep K hK
        rw [if_pos (by rfl)]
        have x22 : Fr.tmps[74]? = some (u 22) := hN 22 _ 74 rfl rfl rfl
        rw [show u 22 = .bool true from hdep 22 (by kernel_rfl) w1 (rb_refl _)] at x22
        have x27 : Fr.tmps[79]? = some (u 27) := hN 27 _ 79 rfl rfl rfl
        rw [show u 27 = .bool true from hdep 27 (by kernel_rfl) w1 (rb_refl _)] at x27
        clear hN hO hdep
        go_simp
        refine hK _ _ (rb_refl _) fun w3 h3 => ?_
        exact rfl
      · intro Fr u hN hO w1 hR hdep K hK
        rw [if_pos (by rfl)]
        have x28 : Fr.tmps[80]? = some (u 28) := hN 28 _ 80 rfl rfl rfl
        rw [show u 28 = .bool true from hdep 28 (by kernel_rfl) w1 (rb_refl _)] at x28
        clear hN hO hdep
        go_simp
        refine hK _ _ (rb_refl _) fun w3 h3 => ?_
        exact rfl
      · intro Fr u hN hO w1 hR hdep K hK
        have gx : Fr.tmps[81]? = some (u 29) := hN 29 _ 81 rfl rfl rfl
        rw [show u 29 = .bool true from hdep 29 (by kernel_rfl) w1 (rb_refl _)] at gx
        rw [if_pos (wanted_on (s := 81) rfl (by kernel_rfl) gx)]
        have y12 : Fr.tmps[12]? = some (.slice A3 D.1.length c3) := hO 12 _ rfl rfl
        clear hN hO hdep gx
        go_simp
        refine hK _ _ (rb_refl _) fun w3 h3 => ?_
        exact rfl
      · intro Fr u hN hO w1 hR hdep K hK
        have gx : Fr.tmps[81]? = some (u 29) := hN 29 _ 81 rfl rfl rfl
        rw [show u 29 = .bool true from hdep 29 (by kernel_rfl) w1 (rb_refl _)] at gx
        rw [if_pos (wanted_on (s := 81) rfl (by kernel_rfl) gx)]
        have x30 : Fr.tmps[82]? = some (u 30) := hN 30 _ 82 rfl rfl rfl
        rw [show u 30 = .slice A3 D.1.length c3 from hdep 30 (by kernel_rfl) w1 (rb_refl _)] at x30
        clear hN hO hdep gx
        have hrun := run_str Try.underlying40 Try.underlying5 Try.underlying9 (Kd.row_below hR HR3.out) c3
        refine wp_convert 40 9 (.tmp 82) rfl (.slice A3 D.1.length c3) (by show Fr.tmps.getD 82 undef = _; rw [Array.getD_eq_getD_getElem?, x30]; rfl) (.string (sb D.1)) w1 hrun ?_
        refine hK _ _ (rb_refl _) fun w3 h3 => ?_
        exact rfl
      · intro Fr u hN hO w1 hR hdep K hK
        have gx : Fr.tmps[81]? = some (u 29) := hN 29 _ 81 rfl rfl rfl
        rw [show u 29 = .bool true from hdep 29 (by kernel_rfl) w1 (rb_refl _)] at gx
        rw [if_pos (wanted_on (s := 81) rfl (by kernel_rfl) gx)]
        have y14 : Fr.tmps[14]? = some (.slice A5 D.1.length c5) := hO 14 _ rfl rfl
        clear hN hO hdep gx
        go_simp
        refine hK _ _ (rb_refl _) fun w3 h3 => ?_
        exact rfl
      · intro Fr u hN hO w1 hR hdep K hK
        have gx : Fr.tmps[81]? = some (u 29) := hN 29 _ 81 rfl rfl rfl
        rw [show u 29 = .bool true from hdep 29 (by kernel_rfl) w1 (rb_refl _)] at gx
        rw [if_pos (wanted_on (s := 81) rfl (by kernel_rfl) gx)]
        have x32 : Fr.tmps[84]? = some (u 32) := hN 32 _ 84 rfl rfl rfl
        rw [show u 32 = .slice A5 D.1.length c5 from hdep 32 (by kernel_rfl) w1 (rb_refl _)] at x32
        clear hN hO hdep gx
        have hrun := run_str Try.underlying40 Try.underlying5 Try.underlying9 (Kd.row_below hR HR5.out) c5
        refine wp_convert 40 9 (.tmp 84) rfl (.slice A5 D.1.length c5) (by show Fr.tmps.getD 84 undef = _; rw [Array.getD_eq_getD_getElem?, x32]; rfl) (.string (sb D.1)) w1 hrun ?_
        refine hK _ _ (rb_refl _) fun w3 h3 => ?_
        exact rfl
      · intro Fr u hN hO w1 hR hdep K hK
        have gx : Fr.tmps[81]? = some (u 29) := hN 29 _ 81 rfl rfl rfl
        rw [show u 29 = .bool true from hdep 29 (by kernel_rfl) w1 (rb_refl _)] at gx
        rw [if_pos (wanted_on (s := 81) rfl (by kernel_rfl) gx)]
        have x31 : Fr.tmps[83]? = some (u 31) := hN 31 _ 83 rfl rfl rfl
        rw [show u 31 = .string (sb D.1) from hdep 31 (by kernel_rfl) w1 (rb_refl _)] at x31
        have x33 : Fr.tmps[85]? = some (u 33) := hN 33 _ 85 rfl rfl rfl
        rw [show u 33 = .string (sb D.1) from hdep 33 (by kernel_rfl) w1 (rb_refl _)] at x33
        clear hN hO hdep gx
        go_simp
        refine hK _ _ (rb_refl _) fun w3 h3 => ?_
        exact rfl
      · intro Fr u hN hO w1 hR hdep K hK
        rw [if_pos (by rfl)]
        have x29 : Fr.tmps[81]? = some (u 29) := hN 29 _ 81 rfl rfl rfl
        rw [show u 29 = .bool true from hdep 29 (by kernel_rfl) w1 (rb_refl _)] at x29
        have x34 : Fr.tmps[86]? = some (u 34) := hN 34 _ 86 rfl rfl rfl
        rw [show u 34 = .bool true from hdep 34 (by kernel_rfl) w1 (rb_refl _)] at x34
        clear hN hO hdep
        go_simp
        refine hK _ _ (rb_refl _) fun w3 h3 => ?_
        exact rfl
      · intro Fr u hN hO w1 hR hdep K hK
        rw [if_pos (by rfl)]
        have x35 : Fr.tmps[87]? = some (u 35) := hN 35 _ 87 rfl rfl rfl
        rw [show u 35 = .bool true from hdep 35 (by kernel_rfl) w1 (rb_refl _)] at x35
        clear hN hO hdep
        go_simp
        refine hK _ _ (rb_refl _) fun w3 h3 => ?_
        exact rfl
      · intro Fr u hN hO w1 hR hdep K hK
        have gx : Fr.tmps[88]? = some (u 36) := hN 36 _ 88 rfl rfl rfl
        rw [show u 36 = .bool true from hdep 36 (by kernel_rfl) w1 (rb_refl _)] at gx
        rw [if_pos (wanted_on (s := 88) rfl (by kernel_rfl) gx)]
        have y13 : Fr.tmps[13]? = some (.int .i64 D.2) := hO 13 _ rfl rfl
        clear hN hO hdep gx
        go_simp
        refine hK _ _ (rb_refl _) fun w3 h3 => ?_
        exact rfl
      · intro Fr u hN hO w1 hR hdep K hK
        have gx : Fr.tmps[88]? = some (u 36) := hN 36 _ 88 rfl rfl rfl
        rw [show u 36 = .bool true from hdep 36 (by kernel_rfl) w1 (rb_refl _)] at gx
        rw [if_pos (wanted_on (s := 88) rfl (by kernel_rfl) gx)]
        have x37 : Fr.tmps[89]? = some (u 37) := hN 37 _ 89 rfl rfl rfl
        rw [show u 37 = .int .i64 D.2 from hdep 37 (by kernel_rfl) w1 (rb_refl _)] at x37
        clear hN hO hdep gx
        go_simp
        refine (num09_calls D.2 w1).mono ?_
        rintro x w2 ⟨rfl, b2⟩
        refine hK _ _ b2 fun w3 h3 => ?_
        exact rfl
      · intro Fr u hN hO w1 hR hdep K hK
        have gx : Fr.tmps[88]? = some (u 36) := hN 36 _ 88 rfl rfl rfl
        rw [show u 36 = .bool true from hdep 36 (by kernel_rfl) w1 (rb_refl _)] at gx
        rw [if_pos (wanted_on (s := 88) rfl (by kernel_rfl) gx)]
        have y15 : Fr.tmps[15]? = some (.int .i64 D.2) := hO 15 _ rfl rfl
        clear hN hO hdep gx
        go_simp
        refine hK _ _ (rb_refl _) fun w3 h3 => ?_
        exact rfl
      · intro Fr u hN hO w1 hR hdep K hK
        have gx : Fr.tmps[88]? = some (u 36) := hN 36 _ 88 rfl rfl rfl
        rw [show u 36 = .bool true from hdep 36 (by kernel_rfl) w1 (rb_refl _)] at gx
        rw [if_pos (wanted_on (s := 88) rfl (by kernel_rfl) gx)]
        have x38 : Fr.tmps[90]? = some (u 38) := hN 38 _ 90 rfl rfl rfl
        rw [show u 38 = .int .i64 D.2 from hdep 38 (by kernel_rfl) w1 (rb_refl _)] at x38
        have x39 : Fr.tmps[91]? = some (u 39) := hN 39 _ 91 rfl rfl rfl
        rw [show u 39 = .int .i64 D.2 from hdep 39 (by kernel_rfl) w1 (rb_refl _)] at x39
        clear hN hO hdep gx
        go_simp
        refine hK _ _ (rb_refl _) fun w3 h3 => ?_
        exact rfl
      · intro Fr u hN hO w1 hR hdep K hK
        rw [if_pos (by rfl)]
        have x36 : Fr.tmps[88]? = some (u 36) := hN 36 _ 88 rfl rfl rfl
        rw [show u 36 = .bool true from hdep 36 (by kernel_rfl) w1 (rb_refl _)] at x36
        have x40 : Fr.tmps[92]? = some (u 40) := hN 40 _ 92 rfl rfl rfl
        rw [show u 40 = .bool true from hdep 40 (by kernel_rfl) w1 (rb_refl _)] at x40
        clear hN hO hdep
        go_simp
        refine hK _ _ (rb_refl _) fun w3 h3 => ?_
        exact rfl
      · intro Fr u hN hO w1 hR hdep K hK
        rw [if_pos (by rfl)]
        have x41 : Fr.tmps[93]? = some (u 41) := hN 41 _ 93 rfl rfl rfl
        rw [show u 41 = .bool true from hdep 41 (by kernel_rfl) w1 (rb_refl _)] at x41
        clear hN hO hdep
        go_simp
        refine hK _ _ (rb_refl _) fun w3 h3 => ?_
        exact rfl
      · intro Fr u hN hO w1 hR hdep K hK
        have gx : Fr.tmps[94]? = some (u 42) := hN 42 _ 94 rfl rfl rfl
        rw [show u 42 = .bool true from hdep 42 (by kernel_rfl) w1 (rb_refl _)] at gx
        rw [if_pos (wanted_on (s := 94) rfl (by kernel_rfl) gx)]
        clear hN hO hdep gx
        go_simp
        refine (alive09_calls w1).mono ?_
        rintro x w2 ⟨rfl, b2⟩
        refine hK _ _ b2 fun w3 h3 => ?_
        exact rfl
      · intro Fr u hN hO w1 hR hdep K hK
        rw [if_pos (by rfl)]
        have x42 : Fr.tmps[94]? = some (u 42) := hN 42 _ 94 rfl rfl rfl
        rw [show u 42 = .bool true from hdep 42 (by kernel_rfl) w1 (rb_refl _)] at x42
        have x43 : Fr.tmps[95]? = some (u 43) := hN 43 _ 95 rfl rfl rfl
        rw [show u 43 = .bool true from hdep 43 (by kernel_rfl) w1 (rb_refl _)] at x43
        clear hN hO hdep
        go_simp
        refine hK _ _ (rb_refl _) fun w3 h3 => ?_
        exact rfl
      · intro Fr u hN hO w1 hR hdep K hK
        rw [if_pos (by rfl)]
        have x44 : Fr.tmps[96]? = some (u 44) := hN 44 _ 96 rfl rfl rfl
        rw [show u 44 = .bool true from hdep 44 (by kernel_rfl) w1 (rb_refl _)] at x44
        clear hN hO hdep
        go_simp
        refine hK _ _ (rb_refl _) fun w3 h3 => ?_
        exact rfl
      · intro u w' hR hall
        have h45 : u 45 = .bool true := hall 45 (by decide)
        have bw' := bl_trans (bl_drew B5) hR
        clear hall
        simp only [frameF, Act.put, List.setIfInBounds_toArray, List.set_cons_zero, List.set_cons_succ, Nat.reduceAdd, h45]
        clear h45
        go_wp2_with fail
        go_ret
        exact ⟨rfl, bw'⟩
  case false =>
    have hcs : (¬ a.view > b.view ∧ (a.view == b.view) = false) ∨ (¬ a.view > b.view ∧ (a.view == b.view) = true ∧ ¬ a.height > b.height) := by
      have hn : ¬ (higherF a b = true) := by rw [hhd]; simp
      simp only [higherF, Bool.or_eq_true, Bool.and_eq_true, decide_eq_true_eq] at hn
      by_cases h1 : a.view = b.view
      · right; exact ⟨by omega, by rw [h1]; simp, by omega⟩
      · left; exact ⟨by omega, by rw [beq_eq_false_iff_ne]; exact h1⟩
    clear hhd
    rcases hcs with ⟨d1, d2⟩ | ⟨d1, d2, d3⟩
    all_goals
      go_upto_region 6 with fail
      clear r0 r1 s0 s1
      refine wp_region_invA (by kernel_rfl) (by kernel_rfl) Rb (ltG G m a b A Ar A3 A5 l.length roots.length D.1.length c cr c3 c5 q res D.2 (sb D.1) false) rb_refl rb_trans ⟨?_, ?_, ?_, ?_, ?_, ?_, ?_, ?_, ?_, ?_, ?_, ?_, ?_, ?_, ?_, ?_, ?_, ?_, ?_, ?_, ?_, ?_, ?_, ?_, ?_, ?_, ?_, ?_, ?_, ?_, ?_, ?_, ?_, ?_, ?_, ?_, ?_, ?_, ?_, ?_, ?_, ?_, ?_, ?_, ?_, ?_, trivial⟩ ?_
      · intro Fr u hN hO w1 hR hdep K hK
        rw [if_pos (by rfl)]
        have y5 : Fr.tmps[5]? = some (.pointer (some ⟨G, 0, none⟩)) := hO 5 _ rfl rfl
        clear hN hO hdep
        have gg := block_below hR HA0.out
        have z0 := block_cell gg (i := 0) rfl
        have z1 := block_cell gg (i := 1) rfl
        have z2 := block_cell gg (i := 2) rfl
        have z3 := block_cell gg (i := 3) rfl
        go_simp
        refine hK _ _ (rb_refl _) fun w3 h3 => ?_
        exact rfl
      · intro Fr u hN hO w1 hR hdep K hK
        rw [if_pos (by rfl)]
        have y1 : Fr.tmps[1]? = some (.slice Ar roots.length cr) := hO 1 _ rfl rfl
        clear hN hO hdep
        go_simp
        refine hK _ _ (rb_refl _) fun w3 h3 => ?_
        exact rfl
      · intro Fr u hN hO w1 hR hdep K hK
        rw [if_pos (by rfl)]
        have y2 : Fr.tmps[2]? = some (.int .i64 q) := hO 2 _ rfl rfl
        clear hN hO hdep
        go_simp
        refine hK _ _ (rb_refl _) fun w3 h3 => ?_
        exact rfl
      · intro Fr u hN hO w1 hR hdep K hK
        rw [if_pos (by rfl)]
        have x0 : Fr.tmps[52]? = some (u 0) := hN 0 _ 52 rfl rfl rfl
        rw [show u 0 = .agg #[.int .i64 m.view, .int .i64 m.height, .string m.block, .slice A l.length c] from hdep 0 (by kernel_rfl) w1 (rb_refl _)] at x0
        have x1 : Fr.tmps[53]? = some (u 1) := hN 1 _ 53 rfl rfl rfl
        rw [show u 1 = .slice Ar roots.length cr from hdep 1 (by kernel_rfl) w1 (rb_refl _)] at x1
        have x2 : Fr.tmps[54]? = some (u 2) := hN 2 _ 54 rfl rfl rfl
        rw [show u 2 = .int .i64 q from hdep 2 (by kernel_rfl) w1 (rb_refl _)] at x2
        clear hN hO hdep
        go_simp
        refine (HCK.out w1 (Kd.row_below hR HROW.out) (Kd.row_below hR HRR.out)).mono ?_
        rintro x w2 ⟨rfl, b2⟩
        refine hK _ _ b2 fun w3 h3 => ?_
        exact rfl
      · intro Fr u hN hO w1 hR hdep K hK
        rw [if_pos (by rfl)]
        have x3 : Fr.tmps[55]? = some (u 3) := hN 3 _ 55 rfl rfl rfl
        rw [show u 3 = .int .i64 res from hdep 3 (by kernel_rfl) w1 (rb_refl _)] at x3
        clear hN hO hdep
        go_simp
        refine (num09_calls res w1).mono ?_
        rintro x w2 ⟨rfl, b2⟩
        refine hK _ _ b2 fun w3 h3 => ?_
        exact rfl
      · intro Fr u hN hO w1 hR hdep K hK
        rw [if_pos (by rfl)]
        have y5 : Fr.tmps[5]? = some (.pointer (some ⟨G, 0, none⟩)) := hO 5 _ rfl rfl
        clear hN hO hdep
        have gg := block_below hR HA0.out
        have z0 := block_cell gg (i := 0) rfl
        have z1 := block_cell gg (i := 1) rfl
        have z2 := block_cell gg (i := 2) rfl
        have z3 := block_cell gg (i := 3) rfl
        go_simp
        refine hK _ _ (rb_refl _) fun w3 h3 => ?_
        exact rfl
      · intro Fr u hN hO w1 hR hdep K hK
        rw [if_pos (by rfl)]
        have y1 : Fr.tmps[1]? = some (.slice Ar roots.length cr) := hO 1 _ rfl rfl
        clear hN hO hdep
        go_simp
        refine hK _ _ (rb_refl _) fun w3 h3 => ?_
        exact rfl
      · intro Fr u hN hO w1 hR hdep K hK
        rw [if_pos (by rfl)]
        have y2 : Fr.tmps[2]? = some (.int .i64 q) := hO 2 _ rfl rfl
        clear hN hO hdep
        go_simp
        refine hK _ _ (rb_refl _) fun w3 h3 => ?_
        exact rfl
      · intro Fr u hN hO w1 hR hdep K hK
        rw [if_pos (by rfl)]
        have x5 : Fr.tmps[57]? = some (u 5) := hN 5 _ 57 rfl rfl rfl
        rw [show u 5 = .agg #[.int .i64 m.view, .int .i64 m.height, .string m.block, .slice A l.length c] from hdep 5 (by kernel_rfl) w1 (rb_refl _)] at x5
        have x6 : Fr.tmps[58]? = some (u 6) := hN 6 _ 58 rfl rfl rfl
        rw [show u 6 = .slice Ar roots.length cr from hdep 6 (by kernel_rfl) w1 (rb_refl _)] at x6
        have x7 : Fr.tmps[59]? = some (u 7) := hN 7 _ 59 rfl rfl rfl
        rw [show u 7 = .int .i64 q from hdep 7 (by kernel_rfl) w1 (rb_refl _)] at x7
        clear hN hO hdep
        go_simp
        refine (HRC.out w1 (Kd.row_below hR HROW.out) (Kd.row_below hR HRR.out)).mono ?_
        rintro x w2 ⟨rfl, b2⟩
        refine hK _ _ b2 fun w3 h3 => ?_
        exact rfl
      · intro Fr u hN hO w1 hR hdep K hK
        rw [if_pos (by rfl)]
        have x4 : Fr.tmps[56]? = some (u 4) := hN 4 _ 56 rfl rfl rfl
        rw [show u 4 = .int .i64 res from hdep 4 (by kernel_rfl) w1 (rb_refl _)] at x4
        have x8 : Fr.tmps[60]? = some (u 8) := hN 8 _ 60 rfl rfl rfl
        rw [show u 8 = .int .i64 res from hdep 8 (by kernel_rfl) w1 (rb_refl _)] at x8
        clear hN hO hdep
        go_simp
        refine hK _ _ (rb_refl _) fun w3 h3 => ?_
        exact rfl
      · intro Fr u hN hO w1 hR hdep K hK
        rw [if_pos (by rfl)]
        have x9 : Fr.tmps[61]? = some (u 9) := hN 9 _ 61 rfl rfl rfl
        rw [show u 9 = .bool true from hdep 9 (by kernel_rfl) w1 (rb_refl _)] at x9
        clear hN hO hdep
        go_simp
        refine hK _ _ (rb_refl _) fun w3 h3 => ?_
        exact rfl
      · intro Fr u hN hO w1 hR hdep K hK
        have gx : Fr.tmps[62]? = some (u 10) := hN 10 _ 62 rfl rfl rfl
        rw [show u 10 = .bool true from hdep 10 (by kernel_rfl) w1 (rb_refl _)] at gx
        rw [if_pos (wanted_on (s := 62) rfl (by kernel_rfl) gx)]
        have y5 : Fr.tmps[5]? = some (.pointer (some ⟨G, 0, none⟩)) := hO 5 _ rfl rfl
        clear hN hO hdep gx
        have gg := block_below hR HA0.out
        have z0 := block_cell gg (i := 0) rfl
        have z1 := block_cell gg (i := 1) rfl
        have z2 := block_cell gg (i := 2) rfl
        have z3 := block_cell gg (i := 3) rfl
        go_simp
        refine hK _ _ (rb_refl _) fun w3 h3 => ?_
        exact rfl
      · intro Fr u hN hO w1 hR hdep K hK
        have gx : Fr.tmps[62]? = some (u 10) := hN 10 _ 62 rfl rfl rfl
        rw [show u 10 = .bool true from hdep 10 (by kernel_rfl) w1 (rb_refl _)] at gx
        rw [if_pos (wanted_on (s := 62) rfl (by kernel_rfl) gx)]
        have x11 : Fr.tmps[63]? = some (u 11) := hN 11 _ 63 rfl rfl rfl
        rw [show u 11 = .agg #[.int .i64 m.view, .int .i64 m.height, .string m.block, .slice A l.length c] from hdep 11 (by kernel_rfl) w1 (rb_refl _)] at x11
        clear hN hO hdep gx
        go_simp
        refine (cmark_calls m _ _ _ _).mono ?_
        rintro x w2 ⟨rfl, b2⟩
        refine hK _ _ b2 fun w3 h3 => ?_
        exact rfl
      · intro Fr u hN hO w1 hR hdep K hK
        have gx : Fr.tmps[62]? = some (u 10) := hN 10 _ 62 rfl rfl rfl
        rw [show u 10 = .bool true from hdep 10 (by kernel_rfl) w1 (rb_refl _)] at gx
        rw [if_pos (wanted_on (s := 62) rfl (by kernel_rfl) gx)]
        have y5 : Fr.tmps[5]? = some (.pointer (some ⟨G, 0, none⟩)) := hO 5 _ rfl rfl
        clear hN hO hdep gx
        go_simp
        refine hK _ _ (rb_refl _) fun w3 h3 => ?_
        exact rfl
      · intro Fr u hN hO w1 hR hdep K hK
        have gx : Fr.tmps[62]? = some (u 10) := hN 10 _ 62 rfl rfl rfl
        rw [show u 10 = .bool true from hdep 10 (by kernel_rfl) w1 (rb_refl _)] at gx
        rw [if_pos (wanted_on (s := 62) rfl (by kernel_rfl) gx)]
        have x13 : Fr.tmps[65]? = some (u 13) := hN 13 _ 65 rfl rfl rfl
        rw [show u 13 = .pointer (some ⟨G, 0, none⟩) from hdep 13 (by kernel_rfl) w1 (rb_refl _)] at x13
        clear hN hO hdep gx
        have gg := block_below hR HA0.out
        have z0 := block_cell gg (i := 0) rfl
        have z1 := block_cell gg (i := 1) rfl
        have z2 := block_cell gg (i := 2) rfl
        have z3 := block_cell gg (i := 3) rfl
        go_simp
        refine hK _ _ (rb_refl _) fun w3 h3 => ?_
        exact rfl
      · intro Fr u hN hO w1 hR hdep K hK
        have gx : Fr.tmps[62]? = some (u 10) := hN 10 _ 62 rfl rfl rfl
        rw [show u 10 = .bool true from hdep 10 (by kernel_rfl) w1 (rb_refl _)] at gx
        rw [if_pos (wanted_on (s := 62) rfl (by kernel_rfl) gx)]
        have y5 : Fr.tmps[5]? = some (.pointer (some ⟨G, 0, none⟩)) := hO 5 _ rfl rfl
        clear hN hO hdep gx
        go_simp
        refine hK _ _ (rb_refl _) fun w3 h3 => ?_
        exact rfl
      · intro Fr u hN hO w1 hR hdep K hK
        have gx : Fr.tmps[62]? = some (u 10) := hN 10 _ 62 rfl rfl rfl
        rw [show u 10 = .bool true from hdep 10 (by kernel_rfl) w1 (rb_refl _)] at gx
        rw [if_pos (wanted_on (s := 62) rfl (by kernel_rfl) gx)]
        have x15 : Fr.tmps[67]? = some (u 15) := hN 15 _ 67 rfl rfl rfl
        rw [show u 15 = .pointer (some ⟨G, 1, none⟩) from hdep 15 (by kernel_rfl) w1 (rb_refl _)] at x15
        clear hN hO hdep gx
        have gg := block_below hR HA0.out
        have z0 := block_cell gg (i := 0) rfl
        have z1 := block_cell gg (i := 1) rfl
        have z2 := block_cell gg (i := 2) rfl
        have z3 := block_cell gg (i := 3) rfl
        go_simp
        refine hK _ _ (rb_refl _) fun w3 h3 => ?_
        exact rfl
      · intro Fr u hN hO w1 hR hdep K hK
        have gx : Fr.tmps[62]? = some (u 10) := hN 10 _ 62 rfl rfl rfl
        rw [show u 10 = .bool true from hdep 10 (by kernel_rfl) w1 (rb_refl _)] at gx
        rw [if_pos (wanted_on (s := 62) rfl (by kernel_rfl) gx)]
        have y5 : Fr.tmps[5]? = some (.pointer (some ⟨G, 0, none⟩)) := hO 5 _ rfl rfl
        clear hN hO hdep gx
        go_simp
        refine hK _ _ (rb_refl _) fun w3 h3 => ?_
        exact rfl
      · intro Fr u hN hO w1 hR hdep K hK
        have gx : Fr.tmps[62]? = some (u 10) := hN 10 _ 62 rfl rfl rfl
        rw [show u 10 = .bool true from hdep 10 (by kernel_rfl) w1 (rb_refl _)] at gx
        rw [if_pos (wanted_on (s := 62) rfl (by kernel_rfl) gx)]
        have x17 : Fr.tmps[69]? = some (u 17) := hN 17 _ 69 rfl rfl rfl
        rw [show u 17 = .pointer (some ⟨G, 2, none⟩) from hdep 17 (by kernel_rfl) w1 (rb_refl _)] at x17
        clear hN hO hdep gx
        have gg := block_below hR HA0.out
        have z0 := block_cell gg (i := 0) rfl
        have z1 := block_cell gg (i := 1) rfl
        have z2 := block_cell gg (i := 2) rfl
        have z3 := block_cell gg (i := 3) rfl
        go_simp
        refine hK _ _ (rb_refl _) fun w3 h3 => ?_
        exact rfl
      · intro Fr u hN hO w1 hR hdep K hK
        have gx : Fr.tmps[62]? = some (u 10) := hN 10 _ 62 rfl rfl rfl
        rw [show u 10 = .bool true from hdep 10 (by kernel_rfl) w1 (rb_refl _)] at gx
        rw [if_pos (wanted_on (s := 62) rfl (by kernel_rfl) gx)]
        have x14 : Fr.tmps[66]? = some (u 14) := hN 14 _ 66 rfl rfl rfl
        rw [show u 14 = .int .i64 m.view from hdep 14 (by kernel_rfl) w1 (rb_refl _)] at x14
        have x16 : Fr.tmps[68]? = some (u 16) := hN 16 _ 68 rfl rfl rfl
        rw [show u 16 = .int .i64 m.height from hdep 16 (by kernel_rfl) w1 (rb_refl _)] at x16
        have x18 : Fr.tmps[70]? = some (u 18) := hN 18 _ 70 rfl rfl rfl
        rw [show u 18 = .string m.block from hdep 18 (by kernel_rfl) w1 (rb_refl _)] at x18
        clear hN hO hdep gx
        go_simp
        refine hK _ _ (rb_refl _) fun w3 h3 => ?_
        exact rfl
      · intro Fr u hN hO w1 hR hdep K hK
        have gx : Fr.tmps[62]? = some (u 10) := hN 10 _ 62 rfl rfl rfl
        rw [show u 10 = .bool true from hdep 10 (by kernel_rfl) w1 (rb_refl _)] at gx
        rw [if_pos (wanted_on (s := 62) rfl (by kernel_rfl) gx)]
        have x12 : Fr.tmps[64]? = some (u 12) := hN 12 _ 64 rfl rfl rfl
        rw [show u 12 = .agg #[.int .i64 m.view, .int .i64 m.height, .string m.block] from hdep 12 (by kernel_rfl) w1 (rb_refl _)] at x12
        have x19 : Fr.tmps[71]? = some (u 19) := hN 19 _ 71 rfl rfl rfl
        rw [show u 19 = .agg #[.int .i64 m.view, .int .i64 m.height, .string m.block] from hdep 19 (by kernel_rfl) w1 (rb_refl _)] at x19
        clear hN hO hdep gx
        have hqq := HQQ.out
        go_simp
        refine hK _ _ (rb_refl _) fun w3 h3 => ?_
        exact rfl
      · intro Fr u hN hO w1 hR hdep K hK
        rw [if_pos (by rfl)]
        have x10 : Fr.tmps[62]? = some (u 10) := hN 10 _ 62 rfl rfl rfl
        rw [show u 10 = .bool true from hdep 10 (by kernel_rfl) w1 (rb_refl _)] at x10
        have x20 : Fr.tmps[72]? = some (u 20) := hN 20 _ 72 rfl rfl rfl
        rw [show u 20 = .bool true from hdep 20 (by kernel_rfl) w1 (rb_refl _)] at x20
        clear hN hO hdep
        go_simp
        refine hK _ _ (rb_refl _) fun w3 h3 => ?_
        exact rfl
      · intro Fr u hN hO w1 hR hdep K hK
        rw [if_pos (by rfl)]
        have x21 : Fr.tmps[73]? = some (u 21) := hN 21 _ 73 rfl rfl rfl
        rw [show u 21 = .bool true from hdep 21 (by kernel_rfl) w1 (rb_refl _)] at x21
        clear hN hO hdep
        go_simp
        refine hK _ _ (rb_refl _) fun w3 h3 => ?_
        exact rfl
      · intro Fr u hN hO w1 hR hdep K hK
        have gx : Fr.tmps[74]? = some (u 22) := hN 22 _ 74 rfl rfl rfl
        rw [show u 22 = .bool true from hdep 22 (by kernel_rfl) w1 (rb_refl _)] at gx
        rw [if_pos (wanted_on (s := 74) rfl (by kernel_rfl) gx)]
        have y8 : Fr.tmps[8]? = some (.pointer (some ⟨G + 1, 0, none⟩)) := hO 8 _ rfl rfl
        clear hN hO hdep gx
        have gg := block_below hR HA1.out
        have z0 := block_cell gg (i := 0) rfl
        have z1 := block_cell gg (i := 1) rfl
        have z2 := block_cell gg (i := 2) rfl
        go_simp
        refine hK _ _ (rb_refl _) fun w3 h3 => ?_
        exact rfl
      · intro Fr u hN hO w1 hR hdep K hK
        have gx : Fr.tmps[74]? = some (u 22) := hN 22 _ 74 rfl rfl rfl
        rw [show u 22 = .bool true from hdep 22 (by kernel_rfl) w1 (rb_refl _)] at gx
        rw [if_pos (wanted_on (s := 74) rfl (by kernel_rfl) gx)]
        have y9 : Fr.tmps[9]? = some (.pointer (some ⟨G + 1 + 1, 0, none⟩)) := hO 9 _ rfl rfl
        clear hN hO hdep gx
        have gg := block_below hR HA2.out
        have z0 := block_cell gg (i := 0) rfl
        have z1 := block_cell gg (i := 1) rfl
        have z2 := block_cell gg (i := 2) rfl
        go_simp
        refine hK _ _ (rb_refl _) fun w3 h3 => ?_
        exact rfl
      · intro Fr u hN hO w1 hR hdep K hK
        have gx : Fr.tmps[74]? = some (u 22) := hN 22 _ 74 rfl rfl rfl
        rw [show u 22 = .bool true from hdep 22 (by kernel_rfl) w1 (rb_refl _)] at gx
        rw [if_pos (wanted_on (s := 74) rfl (by kernel_rfl) gx)]
        have x23 : Fr.tmps[75]? = some (u 23) := hN 23 _ 75 rfl rfl rfl
        rw [show u 23 = .agg #[.int .i64 a.view, .int .i64 a.height, .string a.block] from hdep 23 (by kernel_rfl) w1 (rb_refl _)] at x23
        have x24 : Fr.tmps[76]? = some (u 24) := hN 24 _ 76 rfl rfl rfl
        rw [show u 24 = .agg #[.int .i64 b.view, .int .i64 b.height, .string b.block] from hdep 24 (by kernel_rfl) w1 (rb_refl _)] at x24
        clear hN hO hdep gx
        go_simp
        refine (HH.out w1).mono ?_
        rintro x w2 ⟨rfl, g2⟩; have b2 := gd_below g2
        refine hK _ _ b2 fun w3 h3 => ?_
        exact rfl
      · intro Fr u hN hO w1 hR hdep K hK
        have gx : Fr.tmps[74]? = some (u 22) := hN 22 _ 74 rfl rfl rfl
        rw [show u 22 = .bool true from hdep 22 (by kernel_rfl) w1 (rb_refl _)] at gx
        rw [if_pos (wanted_on (s := 74) rfl (by kernel_rfl) gx)]
        have y16 : Fr.tmps[16]? = some (.bool false) := hO 16 _ rfl rfl
        clear hN hO hdep gx
        go_simp
        refine hK _ _ (rb_refl _) fun w3 h3 => ?_
        exact rfl
      · intro Fr u hN hO w1 hR hdep K hK
        have gx : Fr.tmps[74]? = some (u 22) := hN 22 _ 74 rfl rfl rfl
        rw [show u 22 = .bool true from hdep 22 (by kernel_rfl) w1 (rb_refl _)] at gx
        rw [if_pos (wanted_on (s := 74) rfl (by kernel_rfl) gx)]
        have x25 : Fr.tmps[77]? = some (u 25) := hN 25 _ 77 rfl rfl rfl
        rw [show u 25 = .bool false from hdep 25 (by kernel_rfl) w1 (rb_refl _)] at x25
        have x26 : Fr.tmps[78]? = some (u 26) := hN 26 _ 78 rfl rfl rfl
        rw [show u 26 = .bool false from hdep 26 (by kernel_rfl) w1 (rb_refl _)] at x26
        clear hN hO hdep gx
        go_simp
        refine hK _ _ (rb_refl _) fun w3 h3 => ?_
        exact rfl
      · intro Fr u hN hO w1 hR hdep K hK
        rw [if_pos (by rfl)]
        have x22 : Fr.tmps[74]? = some (u 22) := hN 22 _ 74 rfl rfl rfl
        rw [show u 22 = .bool true from hdep 22 (by kernel_rfl) w1 (rb_refl _)] at x22
        have x27 : Fr.tmps[79]? = some (u 27) := hN 27 _ 79 rfl rfl rfl
        rw [show u 27 = .bool true from hdep 27 (by kernel_rfl) w1 (rb_refl _)] at x27
        clear hN hO hdep
        go_simp
        refine hK _ _ (rb_refl _) fun w3 h3 => ?_
        exact rfl
      · intro Fr u hN hO w1 hR hdep K hK
        rw [if_pos (by rfl)]
        have x28 : Fr.tmps[80]? = some (u 28) := hN 28 _ 80 rfl rfl rfl
        rw [show u 28 = .bool true from hdep 28 (by kernel_rfl) w1 (rb_refl _)] at x28
        clear hN hO hdep
        go_simp
        refine hK _ _ (rb_refl _) fun w3 h3 => ?_
        exact rfl
      · intro Fr u hN hO w1 hR hdep K hK
        have gx : Fr.tmps[81]? = some (u 29) := hN 29 _ 81 rfl rfl rfl
        rw [show u 29 = .bool true from hdep 29 (by kernel_rfl) w1 (rb_refl _)] at gx
        rw [if_pos (wanted_on (s := 81) rfl (by kernel_rfl) gx)]
        have y12 : Fr.tmps[12]? = some (.slice A3 D.1.length c3) := hO 12 _ rfl rfl
        clear hN hO hdep gx
        go_simp
        refine hK _ _ (rb_refl _) fun w3 h3 => ?_
        exact rfl
      · intro Fr u hN hO w1 hR hdep K hK
        have gx : Fr.tmps[81]? = some (u 29) := hN 29 _ 81 rfl rfl rfl
        rw [show u 29 = .bool true from hdep 29 (by kernel_rfl) w1 (rb_refl _)] at gx
        rw [if_pos (wanted_on (s := 81) rfl (by kernel_rfl) gx)]
        have x30 : Fr.tmps[82]? = some (u 30) := hN 30 _ 82 rfl rfl rfl
        rw [show u 30 = .slice A3 D.1.length c3 from hdep 30 (by kernel_rfl) w1 (rb_refl _)] at x30
        clear hN hO hdep gx
        have hrun := run_str Try.underlying40 Try.underlying5 Try.underlying9 (Kd.row_below hR HR3.out) c3
        refine wp_convert 40 9 (.tmp 82) rfl (.slice A3 D.1.length c3) (by show Fr.tmps.getD 82 undef = _; rw [Array.getD_eq_getD_getElem?, x30]; rfl) (.string (sb D.1)) w1 hrun ?_
        refine hK _ _ (rb_refl _) fun w3 h3 => ?_
        exact rfl
      · intro Fr u hN hO w1 hR hdep K hK
        have gx : Fr.tmps[81]? = some (u 29) := hN 29 _ 81 rfl rfl rfl
        rw [show u 29 = .bool true from hdep 29 (by kernel_rfl) w1 (rb_refl _)] at gx
        rw [if_pos (wanted_on (s := 81) rfl (by kernel_rfl) gx)]
        have y14 : Fr.tmps[14]? = some (.slice A5 D.1.length c5) := hO 14 _ rfl rfl
        clear hN hO hdep gx
        go_simp
        refine hK _ _ (rb_refl _) fun w3 h3 => ?_
        exact rfl
      · intro Fr u hN hO w1 hR hdep K hK
        have gx : Fr.tmps[81]? = some (u 29) := hN 29 _ 81 rfl rfl rfl
        rw [show u 29 = .bool true from hdep 29 (by kernel_rfl) w1 (rb_refl _)] at gx
        rw [if_pos (wanted_on (s := 81) rfl (by kernel_rfl) gx)]
        have x32 : Fr.tmps[84]? = some (u 32) := hN 32 _ 84 rfl rfl rfl
        rw [show u 32 = .slice A5 D.1.length c5 from hdep 32 (by kernel_rfl) w1 (rb_refl _)] at x32
        clear hN hO hdep gx
        have hrun := run_str Try.underlying40 Try.underlying5 Try.underlying9 (Kd.row_below hR HR5.out) c5
        refine wp_convert 40 9 (.tmp 84) rfl (.slice A5 D.1.length c5) (by show Fr.tmps.getD 84 undef = _; rw [Array.getD_eq_getD_getElem?, x32]; rfl) (.string (sb D.1)) w1 hrun ?_
        refine hK _ _ (rb_refl _) fun w3 h3 => ?_
        exact rfl
      · intro Fr u hN hO w1 hR hdep K hK
        have gx : Fr.tmps[81]? = some (u 29) := hN 29 _ 81 rfl rfl rfl
        rw [show u 29 = .bool true from hdep 29 (by kernel_rfl) w1 (rb_refl _)] at gx
        rw [if_pos (wanted_on (s := 81) rfl (by kernel_rfl) gx)]
        have x31 : Fr.tmps[83]? = some (u 31) := hN 31 _ 83 rfl rfl rfl
        rw [show u 31 = .string (sb D.1) from hdep 31 (by kernel_rfl) w1 (rb_refl _)] at x31
        have x33 : Fr.tmps[85]? = some (u 33) := hN 33 _ 85 rfl rfl rfl
        rw [show u 33 = .string (sb D.1) from hdep 33 (by kernel_rfl) w1 (rb_refl _)] at x33
        clear hN hO hdep gx
        go_simp
        refine hK _ _ (rb_refl _) fun w3 h3 => ?_
        exact rfl
      · intro Fr u hN hO w1 hR hdep K hK
        rw [if_pos (by rfl)]
        have x29 : Fr.tmps[81]? = some (u 29) := hN 29 _ 81 rfl rfl rfl
        rw [show u 29 = .bool true from hdep 29 (by kernel_rfl) w1 (rb_refl _)] at x29
        have x34 : Fr.tmps[86]? = some (u 34) := hN 34 _ 86 rfl rfl rfl
        rw [show u 34 = .bool true from hdep 34 (by kernel_rfl) w1 (rb_refl _)] at x34
        clear hN hO hdep
        go_simp
        refine hK _ _ (rb_refl _) fun w3 h3 => ?_
        exact rfl
      · intro Fr u hN hO w1 hR hdep K hK
        rw [if_pos (by rfl)]
        have x35 : Fr.tmps[87]? = some (u 35) := hN 35 _ 87 rfl rfl rfl
        rw [show u 35 = .bool true from hdep 35 (by kernel_rfl) w1 (rb_refl _)] at x35
        clear hN hO hdep
        go_simp
        refine hK _ _ (rb_refl _) fun w3 h3 => ?_
        exact rfl
      · intro Fr u hN hO w1 hR hdep K hK
        have gx : Fr.tmps[88]? = some (u 36) := hN 36 _ 88 rfl rfl rfl
        rw [show u 36 = .bool true from hdep 36 (by kernel_rfl) w1 (rb_refl _)] at gx
        rw [if_pos (wanted_on (s := 88) rfl (by kernel_rfl) gx)]
        have y13 : Fr.tmps[13]? = some (.int .i64 D.2) := hO 13 _ rfl rfl
        clear hN hO hdep gx
        go_simp
        refine hK _ _ (rb_refl _) fun w3 h3 => ?_
        exact rfl
      · intro Fr u hN hO w1 hR hdep K hK
        have gx : Fr.tmps[88]? = some (u 36) := hN 36 _ 88 rfl rfl rfl
        rw [show u 36 = .bool true from hdep 36 (by kernel_rfl) w1 (rb_refl _)] at gx
        rw [if_pos (wanted_on (s := 88) rfl (by kernel_rfl) gx)]
        have x37 : Fr.tmps[89]? = some (u 37) := hN 37 _ 89 rfl rfl rfl
        rw [show u 37 = .int .i64 D.2 from hdep 37 (by kernel_rfl) w1 (rb_refl _)] at x37
        clear hN hO hdep gx
        go_simp
        refine (num09_calls D.2 w1).mono ?_
        rintro x w2 ⟨rfl, b2⟩
        refine hK _ _ b2 fun w3 h3 => ?_
        exact rfl
      · intro Fr u hN hO w1 hR hdep K hK
        have gx : Fr.tmps[88]? = some (u 36) := hN 36 _ 88 rfl rfl rfl
        rw [show u 36 = .bool true from hdep 36 (by kernel_rfl) w1 (rb_refl _)] at gx
        rw [if_pos (wanted_on (s := 88) rfl (by kernel_rfl) gx)]
        have y15 : Fr.tmps[15]? = some (.int .i64 D.2) := hO 15 _ rfl rfl
        clear hN hO hdep gx
        go_simp
        refine hK _ _ (rb_refl _) fun w3 h3 => ?_
        exact rfl
      · intro Fr u hN hO w1 hR hdep K hK
        have gx : Fr.tmps[88]? = some (u 36) := hN 36 _ 88 rfl rfl rfl
        rw [show u 36 = .bool true from hdep 36 (by kernel_rfl) w1 (rb_refl _)] at gx
        rw [if_pos (wanted_on (s := 88) rfl (by kernel_rfl) gx)]
        have x38 : Fr.tmps[90]? = some (u 38) := hN 38 _ 90 rfl rfl rfl
        rw [show u 38 = .int .i64 D.2 from hdep 38 (by kernel_rfl) w1 (rb_refl _)] at x38
        have x39 : Fr.tmps[91]? = some (u 39) := hN 39 _ 91 rfl rfl rfl
        rw [show u 39 = .int .i64 D.2 from hdep 39 (by kernel_rfl) w1 (rb_refl _)] at x39
        clear hN hO hdep gx
        go_simp
        refine hK _ _ (rb_refl _) fun w3 h3 => ?_
        exact rfl
      · intro Fr u hN hO w1 hR hdep K hK
        rw [if_pos (by rfl)]
        have x36 : Fr.tmps[88]? = some (u 36) := hN 36 _ 88 rfl rfl rfl
        rw [show u 36 = .bool true from hdep 36 (by kernel_rfl) w1 (rb_refl _)] at x36
        have x40 : Fr.tmps[92]? = some (u 40) := hN 40 _ 92 rfl rfl rfl
        rw [show u 40 = .bool true from hdep 40 (by kernel_rfl) w1 (rb_refl _)] at x40
        clear hN hO hdep
        go_simp
        refine hK _ _ (rb_refl _) fun w3 h3 => ?_
        exact rfl
      · intro Fr u hN hO w1 hR hdep K hK
        rw [if_pos (by rfl)]
        have x41 : Fr.tmps[93]? = some (u 41) := hN 41 _ 93 rfl rfl rfl
        rw [show u 41 = .bool true from hdep 41 (by kernel_rfl) w1 (rb_refl _)] at x41
        clear hN hO hdep
        go_simp
        refine hK _ _ (rb_refl _) fun w3 h3 => ?_
        exact rfl
      · intro Fr u hN hO w1 hR hdep K hK
        have gx : Fr.tmps[94]? = some (u 42) := hN 42 _ 94 rfl rfl rfl
        rw [show u 42 = .bool true from hdep 42 (by kernel_rfl) w1 (rb_refl _)] at gx
        rw [if_pos (wanted_on (s := 94) rfl (by kernel_rfl) gx)]
        clear hN hO hdep gx
        go_simp
        refine (alive09_calls w1).mono ?_
        rintro x w2 ⟨rfl, b2⟩
        refine hK _ _ b2 fun w3 h3 => ?_
        exact rfl
      · intro Fr u hN hO w1 hR hdep K hK
        rw [if_pos (by rfl)]
        have x42 : Fr.tmps[94]? = some (u 42) := hN 42 _ 94 rfl rfl rfl
        rw [show u 42 = .bool true from hdep 42 (by kernel_rfl) w1 (rb_refl _)] at x42
        have x43 : Fr.tmps[95]? = some (u 43) := hN 43 _ 95 rfl rfl rfl
        rw [show u 43 = .bool true from hdep 43 (by kernel_rfl) w1 (rb_refl _)] at x43
        clear hN hO hdep
        go_simp
        refine hK _ _ (rb_refl _) fun w3 h3 => ?_
        exact rfl
      · intro Fr u hN hO w1 hR hdep K hK
        rw [if_pos (by rfl)]
        have x44 : Fr.tmps[96]? = some (u 44) := hN 44 _ 96 rfl rfl rfl
        rw [show u 44 = .bool true from hdep 44 (by kernel_rfl) w1 (rb_refl _)] at x44
        clear hN hO hdep
        go_simp
        refine hK _ _ (rb_refl _) fun w3 h3 => ?_
        exact rfl
      · intro u w' hR hall
        have h45 : u 45 = .bool true := hall 45 (by decide)
        have bw' := bl_trans (bl_drew B5) hR
        clear hall
        simp only [frameF, Act.put, List.setIfInBounds_toArray, List.set_cons_zero, List.set_cons_succ, Nat.reduceAdd, h45]
        clear h45
        go_wp2_with fail
        go_ret
        exact ⟨rfl, bw'⟩
end Go.Proofs.Ytglneailkgminaa
/- Package mootlaw09: CertTells at a cert of bounded bulk. No claim of its own; no condition. -/
namespace Go.Proofs.Ytglneailkgminaa
open Go.ChangeShapes Go.WideShapes Go.ChangeAt Go.RowKit
set_option linter.unusedVariables false
theorem votes_bulk (l : List Vote) : l.length ≤ (l.map kVote.bulk).sum ∧ ∀ v ∈ l, kVote.bulk v ≤ (l.map kVote.bulk).sum := by
  induction l with
  | nil => exact ⟨Nat.le_refl _, fun v h => by cases h⟩
  | cons x l ih =>
    have h1 : 1 ≤ kVote.bulk x := Nat.le_add_left 1 _
    rw [List.map_cons, List.sum_cons, List.length_cons]
    refine ⟨by omega, fun v hv => ?_⟩
    rcases List.mem_cons.1 hv with rfl | h
    · omega
    · have := ih.2 v h
      omega
theorem cert_bulk (x : Cert) (hb : kCert.bulk x ≤ 1048576) : x.votes.length ≤ 1048576 ∧ x.block.size ≤ 1048576 ∧ ∀ v ∈ x.votes, v.block.size ≤ 1048576 ∧ v.sig.size ≤ 1048576 := by
  have e : kCert.bulk x = 1 + (1 + ((x.block.size + 1) + ((x.votes.map kVote.bulk).sum + 1))) + 1 := rfl
  rw [e] at hb
  obtain ⟨h1, h2⟩ := votes_bulk x.votes
  refine ⟨by omega, by omega, fun v hv => ?_⟩
  have h3 := h2 v hv
  have e2 : kVote.bulk v = 1 + (1 + (1 + ((v.block.size + 1) + (1 + (1 + (v.sig.size + 1)))))) + 1 := rfl
  rw [e2] at h3
  exact ⟨by omega, by omega⟩
theorem certtells_x (x : Cert) (xs : List ByteArray) (q : Int) (a b : Mark) (A Ar : Option Addr) (c cr : Nat) (w : World) (hb : kCert.bulk x ≤ 1048576) (hlr : xs.length ≤ 1048576) (hr : kVote.Row 28 w.heap.size w A x.votes) (hrr : Kd.str.Row 9 w.heap.size w Ar xs) :
    Calls Try.prog 5 #[.agg #[.int .i64 x.view, .int .i64 x.height, .string x.block, .slice A x.votes.length c], .slice Ar xs.length cr, .int .i64 q, .agg #[.int .i64 a.view, .int .i64 a.height, .string a.block], .agg #[.int .i64 b.view, .int .i64 b.height, .string b.block]] w
      fun e w' => e = .returned (.bool true) ∧ Below w.heap.size w w' := by
  obtain ⟨h1, h2, h3⟩ := cert_bulk x hb
  exact certtells_walk ⟨x.view, x.height, x.block⟩ x.votes xs q a b A Ar c cr w.heap.size w (Nat.le_refl _) h1 hlr hr hrr h2 h3
end Go.Proofs.Ytglneailkgminaa
