/- Package store: fresh of no records, Up. No claim of its own; no condition. -/
import Derived.Test.YtcbfpdenjdgnlaaGreatScaA
import Derived.Test.YtcbfpdenjdgnlaaGreatInvL
namespace Go.Proofs.YtcbfpdenjdgnlaaGreat
open Go.ChangeShapes Go.WideShapes Go.ChangeAt Go.RowKit
set_option linter.unusedVariables false
set_option linter.unusedSimpArgs false
/-- A configuration and a rule that New takes. -/
def Fine (roots clients : List ByteArray) (q rk rn : Int) : Prop := 1 ≤ roots.length ∧ roots.length ≤ 7 ∧ 1 ≤ q ∧ q ≤ (roots.length : Int) ∧ clients.length ≤ 2097152 ∧ chkF (rk, rn) roots.length q = 0
/-- A store, whatever its disk holds. -/
def Sto0 (M : Nat) (w : World) (S L0 D : Nat) (roots clients : List ByteArray) (q base cap rk rn : Int) (down : Bool) : Prop :=
  ∃ A1 c1 A2 c2, w.heap[S]? = some (.cells #[.slice A1 roots.length c1, .slice A2 clients.length c2, .int .i64 q, .int .i64 base, .int .i64 cap, .int .i64 rk, .int .i64 rn, .pointer (some ⟨L0, 0, none⟩), .pointer (some ⟨D, 0, none⟩), .bool down] 88 (0, 0)) ∧ M ≤ S ∧ Kd.str.Own 9 M w M (.slice A1 roots.length c1) roots ∧ Kd.str.Own 9 M w M (.slice A2 clients.length c2) clients
theorem sto0_of {M S L0 D sure : Nat} {w : World} {roots clients : List ByteArray} {q base cap rk rn room : Int} {down : Bool} {b : List UInt8} (h : StoAt M w S L0 D roots clients q base cap rk rn down b sure room) : Sto0 M w S L0 D roots clients q base cap rk rn down := by
  obtain ⟨A1, c1, A2, c2, h1, h2, h3, h4, h5⟩ := h
  exact ⟨A1, c1, A2, c2, h1, h2, h3, h4⟩
theorem sto0_dk {M S L0 D : Nat} {w w' : World} {roots clients : List ByteArray} {q base cap rk rn : Int} {down : Bool} (h : Sto0 M w S L0 D roots clients q base cap rk rn down) (k : Dk M w w') : Sto0 M w' S L0 D roots clients q base cap rk rn down := by
  obtain ⟨A1, c1, A2, c2, h1, h2, h3, h4⟩ := h
  have k9 := k.2 [9] (by decide) (by decide)
  exact ⟨A1, c1, A2, c2, ((k.2 [88] (by decide) (by decide)).2 S ⟨blk_lt h1, .inr ⟨_, _, _, h1, by simp⟩⟩).trans h1, h2, Kd.own_keep h3 (by simpa [Kd.str] using k9), Kd.own_keep h4 (by simpa [Kd.str] using k9)⟩
theorem sto0_up {M S L0 D L : Nat} {w : World} {roots clients : List ByteArray} {q base cap rk rn : Int} {down : Bool} (h : Sto0 M w S L0 D roots clients q base cap rk rn down) :
    w.cell? ⟨S, 7, none⟩ = some (.pointer (some ⟨L0, 0, none⟩)) ∧ w.cell? ⟨S, 9, none⟩ = some (.bool down) ∧ w.frozen? ⟨S, 7, none⟩ = false ∧ w.frozen? ⟨S, 9, none⟩ = false ∧ Below M w ((w.setCell ⟨S, 7, none⟩ (.pointer (some ⟨L, 0, none⟩))).setCell ⟨S, 9, none⟩ (.bool false)) ∧
    Sto0 M ((w.setCell ⟨S, 7, none⟩ (.pointer (some ⟨L, 0, none⟩))).setCell ⟨S, 9, none⟩ (.bool false)) S L D roots clients q base cap rk rn false := by
  obtain ⟨A1, c1, A2, c2, h1, h2, h3, h4⟩ := h
  have n1 := block_set (i := 7) (u := .pointer (some ⟨L, 0, none⟩)) h1
  have n2 := block_set (i := 9) (u := .bool false) n1
  have k9 := (Keeps.set (p := ⟨S, 7, none⟩) (E := [9]) h1 h2 (by decide) (.pointer (some ⟨L, 0, none⟩))).trans (Keeps.set (p := ⟨S, 9, none⟩) (E := [9]) n1 h2 (by decide) (.bool false))
  exact ⟨block_cell h1 (i := 7) rfl, block_cell h1 (i := 9) rfl, block_free h1, block_free h1, ((Below.refl M w).setCell (p := ⟨S, 7, none⟩) h2 _).setCell (p := ⟨S, 9, none⟩) h2 _, A1, c1, A2, c2, by simpa using n2, h2, Kd.own_keep h3 (by simpa [Kd.str] using k9), Kd.own_keep h4 (by simpa [Kd.str] using k9)⟩
theorem sto0_cells {M S L0 D : Nat} {w : World} {roots clients : List ByteArray} {q base cap rk rn : Int} {down : Bool} (h : Sto0 M w S L0 D roots clients q base cap rk rn down) : w.cell? ⟨S, 7, none⟩ = some (.pointer (some ⟨L0, 0, none⟩)) ∧ w.cell? ⟨S, 9, none⟩ = some (.bool down) := by
  obtain ⟨A1, c1, A2, c2, h1, h2, h3, h4⟩ := h
  exact ⟨block_cell h1 (i := 7) rfl, block_cell h1 (i := 9) rfl⟩
def frA (S : Nat) (A1 A2 : Option Addr) (roots clients : List ByteArray) (c1 c2 : Nat) (q base cap rk rn : Int) (V : Nat) : Nat → Value → World → Prop
  | 0, y, _ => y = .pointer (some ⟨S, 0, none⟩)
  | 1, y, _ => y = .pointer (some ⟨S, 0, none⟩)
  | 2, y, _ => y = .pointer (some ⟨S, 0, none⟩)
  | 3, y, _ => y = .agg #[.slice A1 roots.length c1, .slice A2 clients.length c2, .int .i64 q, .int .i64 base, .int .i64 cap]
  | 4, y, _ => y = .pointer (some ⟨S, 0, none⟩)
  | 5, y, _ => y = .pointer (some ⟨S, 0, none⟩)
  | 6, y, _ => y = .pointer (some ⟨S, 5, none⟩)
  | 7, y, _ => y = .agg #[.int .i64 rk, .int .i64 rn]
  | 8, y, w => ∃ L, y = .tuple #[.pointer (some ⟨L, 0, none⟩), .int .i64 0] ∧ LrnNew V w L roots clients q base cap rk rn
  | 9, y, w => ∃ L, y = .tuple #[.pointer (some ⟨L, 0, none⟩), .int .i64 0] ∧ LrnNew V w L roots clients q base cap rk rn
  | 10, y, w => ∃ L, y = .pointer (some ⟨L, 0, none⟩) ∧ LrnNew V w L roots clients q base cap rk rn
  | 11, y, _ => y = .int .i64 0
  | 12, y, w => ∃ L, y = .pointer (some ⟨L, 0, none⟩) ∧ LrnNew V w L roots clients q base cap rk rn
  | 13, y, _ => y = .int .i64 0
  | _, _, _ => True
set_option maxHeartbeats 4000000 in
set_option maxRecDepth 100000 in
theorem fresh_nil (M S L0 D : Nat) (roots clients : List ByteArray) (q base cap rk rn : Int) (down : Bool) (w : World) (h : Sto0 M w S L0 D roots clients q base cap rk rn down) (hc : Fine roots clients q rk rn) :
    Calls Tryz.prog 95 #[.pointer (some ⟨S, 0, none⟩), .slice none 0 0] w fun x w' => (∃ L, x = .returned (.pointer (some ⟨L, 0, none⟩)) ∧ LrnNew w.heap.size w' L roots clients q base cap rk rn) ∧ Below w.heap.size w w' := by
  obtain ⟨A1, c1, A2, c2, h1, h2, h3, h4⟩ := h
  obtain ⟨Ax, cx, ex, _, _, r1, _⟩ := Kd.own_row h3
  obtain ⟨Ay, cy, ey, _, _, r2, _⟩ := Kd.own_row h4
  cases ex
  cases ey
  have HG := Lib.hid h1
  have HR1 := Lib.hid r1
  have HR2 := Lib.hid r2
  have HC : Hid (1 ≤ roots.length ∧ roots.length ≤ 7 ∧ 1 ≤ q ∧ q ≤ (roots.length : Int) ∧ clients.length ≤ 2097152 ∧ chkF (rk, rn) roots.length q = 0) := Lib.hid hc
  clear h1 h3 h4 r1 r2 hc
  go_enter Tryz.func95, Tryz.ntmps95
  go_upto_region 1 with fail
  refine wp_region_invA (by kernel_rfl) (by kernel_rfl) Rb (frA S A1 A2 roots clients c1 c2 q base cap rk rn w.heap.size) rb_refl rb_trans ⟨?_, ?_, ?_, ?_, ?_, ?_, ?_, ?_, ?_, ?_, ?_, ?_, ?_, ?_, trivial⟩ ?_
  · intro Fr u hN hO w1 hR hdep K hK
    rw [if_pos (by rfl)]
    have y0 : Fr.tmps[0]? = some (.pointer (some ⟨S, 0, none⟩)) := hO 0 _ rfl rfl
    clear hN hO hdep
    go_simp
    refine hK _ _ (rb_refl _) fun w3 h3 => ?_
    exact rfl
  · intro Fr u hN hO w1 hR hdep K hK
    rw [if_pos (by rfl)]
    have x0 : Fr.tmps[11]? = some (u 0) := hN 0 _ 11 rfl rfl rfl
    rw [show u 0 = .pointer (some ⟨S, 0, none⟩) from hdep 0 (by kernel_rfl) w1 (rb_refl _)] at x0
    clear hN hO hdep
    go_simp
    refine hK _ _ (rb_refl _) fun w3 h3 => ?_
    exact rfl
  · intro Fr u hN hO w1 hR hdep K hK
    rw [if_pos (by rfl)]
    have x1 : Fr.tmps[12]? = some (u 1) := hN 1 _ 12 rfl rfl rfl
    rw [show u 1 = .pointer (some ⟨S, 0, none⟩) from hdep 1 (by kernel_rfl) w1 (rb_refl _)] at x1
    clear hN hO hdep
    go_simp
    refine hK _ _ (rb_refl _) fun w3 h3 => ?_
    exact rfl
  · intro Fr u hN hO w1 hR hdep K hK
    rw [if_pos (by rfl)]
    have x2 : Fr.tmps[13]? = some (u 2) := hN 2 _ 13 rfl rfl rfl
    rw [show u 2 = .pointer (some ⟨S, 0, none⟩) from hdep 2 (by kernel_rfl) w1 (rb_refl _)] at x2
    clear hN hO hdep
    have gg := block_below hR HG.out
    have z0 := block_cell gg (i := 0) rfl
    have z1 := block_cell gg (i := 1) rfl
    have z2 := block_cell gg (i := 2) rfl
    have z3 := block_cell gg (i := 3) rfl
    have z4 := block_cell gg (i := 4) rfl
    have z5 := block_cell gg (i := 5) rfl
    have z6 := block_cell gg (i := 6) rfl
    go_simp
    refine hK _ _ (rb_refl _) fun w3 h3 => ?_
    exact rfl
  · intro Fr u hN hO w1 hR hdep K hK
    rw [if_pos (by rfl)]
    have y0 : Fr.tmps[0]? = some (.pointer (some ⟨S, 0, none⟩)) := hO 0 _ rfl rfl
    clear hN hO hdep
    go_simp
    refine hK _ _ (rb_refl _) fun w3 h3 => ?_
    exact rfl
  · intro Fr u hN hO w1 hR hdep K hK
    rw [if_pos (by rfl)]
    have x4 : Fr.tmps[15]? = some (u 4) := hN 4 _ 15 rfl rfl rfl
    rw [show u 4 = .pointer (some ⟨S, 0, none⟩) from hdep 4 (by kernel_rfl) w1 (rb_refl _)] at x4
    clear hN hO hdep
    go_simp
    refine hK _ _ (rb_refl _) fun w3 h3 => ?_
    exact rfl
  · intro Fr u hN hO w1 hR hdep K hK
    rw [if_pos (by rfl)]
    have x5 : Fr.tmps[16]? = some (u 5) := hN 5 _ 16 rfl rfl rfl
    rw [show u 5 = .pointer (some ⟨S, 0, none⟩) from hdep 5 (by kernel_rfl) w1 (rb_refl _)] at x5
    clear hN hO hdep
    go_simp
    refine hK _ _ (rb_refl _) fun w3 h3 => ?_
    exact rfl
  · intro Fr u hN hO w1 hR hdep K hK
    rw [if_pos (by rfl)]
    have x6 : Fr.tmps[17]? = some (u 6) := hN 6 _ 17 rfl rfl rfl
    rw [show u 6 = .pointer (some ⟨S, 5, none⟩) from hdep 6 (by kernel_rfl) w1 (rb_refl _)] at x6
    clear hN hO hdep
    have gg := block_below hR HG.out
    have z0 := block_cell gg (i := 0) rfl
    have z1 := block_cell gg (i := 1) rfl
    have z2 := block_cell gg (i := 2) rfl
    have z3 := block_cell gg (i := 3) rfl
    have z4 := block_cell gg (i := 4) rfl
    have z5 := block_cell gg (i := 5) rfl
    have z6 := block_cell gg (i := 6) rfl
    go_simp
    refine hK _ _ (rb_refl _) fun w3 h3 => ?_
    exact rfl
  · intro Fr u hN hO w1 hR hdep K hK
    rw [if_pos (by rfl)]
    have x3 : Fr.tmps[14]? = some (u 3) := hN 3 _ 14 rfl rfl rfl
    rw [show u 3 = .agg #[.slice A1 roots.length c1, .slice A2 clients.length c2, .int .i64 q, .int .i64 base, .int .i64 cap] from hdep 3 (by kernel_rfl) w1 (rb_refl _)] at x3
    have x7 : Fr.tmps[18]? = some (u 7) := hN 7 _ 18 rfl rfl rfl
    rw [show u 7 = .agg #[.int .i64 rk, .int .i64 rn] from hdep 7 (by kernel_rfl) w1 (rb_refl _)] at x7
    clear hN hO hdep
    go_simp
    refine (lnew_ok roots clients A1 A2 c1 c2 q base cap rk rn w1 M (Kd.row_below hR HR1.out) (Kd.row_below hR HR2.out) HC.out.1 HC.out.2.1 HC.out.2.2.1 HC.out.2.2.2.1 HC.out.2.2.2.2.1 HC.out.2.2.2.2.2).mono ?_
    rintro x w2 ⟨⟨L, rfl, l⟩, b2⟩
    refine hK _ _ b2 fun w3 h3 => ?_
    exact ⟨L, rfl, lrn_below (lrn_mono l hR.size) h3⟩
  · intro Fr u hN hO w1 hR hdep K hK
    rw [if_pos (by rfl)]
    have x8 : Fr.tmps[19]? = some (u 8) := hN 8 _ 19 rfl rfl rfl
    obtain ⟨L, hu8, l8⟩ := hdep 8 (by kernel_rfl) w1 (rb_refl _)
    rw [hu8] at x8
    clear hN hO hdep
    go_simp
    refine hK _ _ (rb_refl _) fun w3 h3 => ?_
    exact ⟨L, rfl, lrn_below l8 h3⟩
  · intro Fr u hN hO w1 hR hdep K hK
    rw [if_pos (by rfl)]
    have x9 : Fr.tmps[10]? = some (u 9) := hN 9 _ 10 rfl rfl rfl
    obtain ⟨L, hu9, l9⟩ := hdep 9 (by kernel_rfl) w1 (rb_refl _)
    rw [hu9] at x9
    clear hN hO hdep
    go_simp
    refine hK _ _ (rb_refl _) fun w3 h3 => ?_
    exact ⟨L, rfl, lrn_below l9 h3⟩
  · intro Fr u hN hO w1 hR hdep K hK
    rw [if_pos (by rfl)]
    have x9 : Fr.tmps[10]? = some (u 9) := hN 9 _ 10 rfl rfl rfl
    obtain ⟨L, hu9, l9⟩ := hdep 9 (by kernel_rfl) w1 (rb_refl _)
    rw [hu9] at x9
    clear hN hO hdep
    go_simp
    refine hK _ _ (rb_refl _) fun w3 h3 => ?_
    exact rfl
  · intro Fr u hN hO w1 hR hdep K hK
    rw [if_pos (by rfl)]
    have x10 : Fr.tmps[20]? = some (u 10) := hN 10 _ 20 rfl rfl rfl
    obtain ⟨L, hu10, l10⟩ := hdep 10 (by kernel_rfl) w1 (rb_refl _)
    rw [hu10] at x10
    clear hN hO hdep
    go_simp
    refine hK _ _ (rb_refl _) fun w3 h3 => ?_
    exact ⟨L, rfl, lrn_below l10 h3⟩
  · intro Fr u hN hO w1 hR hdep K hK
    rw [if_pos (by rfl)]
    have x11 : Fr.tmps[21]? = some (u 11) := hN 11 _ 21 rfl rfl rfl
    rw [show u 11 = .int .i64 0 from hdep 11 (by kernel_rfl) w1 (rb_refl _)] at x11
    clear hN hO hdep
    go_simp
    refine hK _ _ (rb_refl _) fun w3 h3 => ?_
    exact rfl
  · intro u w' hR hall
    obtain ⟨L, e12, l12⟩ := hall 12 (by decide)
    have e13 : u 13 = .int .i64 0 := hall 13 (by decide)
    have bw : Below w.heap.size w w' := bl_trans (bl_drew (Below.refl _ _)) hR
    clear hall
    simp only [frameF, Act.put, List.setIfInBounds_toArray, List.set_cons_zero, List.set_cons_succ, Nat.reduceAdd, e12, e13]
    clear e12 e13
    have LL := Lib.hid l12
    have BW := Lib.hid bw
    clear l12 bw hR
    go_wp2_with fail
    go_loopw [26] (fun kv wr => kv = .int .i64 0 ∧ wr = w') (fun _ _ => 0)
    case atStart => exact ⟨rfl, rfl⟩
    case round =>
      obtain ⟨rfl, rfl⟩ := hrel
      go_wp2_with fail
      go_ret
      exact ⟨⟨L, rfl, LL.out⟩, BW.out⟩
set_option maxHeartbeats 1600000 in
set_option maxRecDepth 100000 in
theorem sup_ok (M S L0 D : Nat) (roots clients : List ByteArray) (q base cap rk rn room : Int) (w : World) (h : StoAt M w S L0 D roots clients q base cap rk rn true [] 0 room) (hc : Fine roots clients q rk rn) :
    Calls Tryz.prog 39 #[.pointer (some ⟨S, 0, none⟩)] w fun x w' => x = .returned (.int .i64 0) ∧ (∃ L, Sto0 M w' S L D roots clients q base cap rk rn false) ∧ Below M w w' := by
  obtain ⟨s7, s8, s9, f9, f7, d0, hMw⟩ := stoat_cells h
  have HI := Lib.hid (sis_at S (some ⟨L0, 0, none⟩) w s7)
  have HR := Lib.hid (recover_nil M D room w d0)
  have H := Lib.hid h
  clear h d0 f9 f7
  go_enter Tryz.func39, Tryz.ntmps39
  go_wp2_with first
    | (go_at_call 93; refine Calls.mono (HI.out) ?_; rintro x w0 ⟨rfl, hw⟩; subst hw)
    | (go_at_call 94; refine Calls.mono (HR.out) ?_; rintro x w1 ⟨rfl, k1⟩; have st1 := sto0_dk (sto0_of H.out) k1; have FR := Lib.hid (fresh_nil M S L0 D roots clients q base cap rk rn true w1 st1 hc); have ST1 := Lib.hid st1; have K1 := Lib.hid k1; clear k1 st1)
    | (go_at_call 95; refine Calls.mono (FR.out) ?_; rintro x w2 ⟨⟨L, rfl, l2⟩, b2⟩; have st2 := sto0_dk ST1.out (dk_below b2 (by have := K1.out.1.size; omega)); obtain ⟨t7, t9, g7, g9, bb, st3⟩ := sto0_up (L := L) st2; have B2 := Lib.hid b2; have BB := Lib.hid bb; have ST3 := Lib.hid st3; clear st2 b2 l2 bb st3)
  go_ret
  have z1 := K1.out.1.size
  exact ⟨rfl, ⟨L, ST3.out⟩, (K1.out.1.trans (B2.out.mono (by omega))).trans BB.out⟩
end Go.Proofs.YtcbfpdenjdgnlaaGreat
