/- Package mootlaw37: the walk of ToleranceMore. No claim of its own; no condition. -/
import Derived.Deep.DeepCutAuto
import Derived.Deep.RegionHeld3
import Derived.Test.YtflfpfaebndefaaTolC
namespace Go.Proofs.Ytflfpfaebndefaa
open Go.ChangeShapes Go.WideShapes Go.ChangeAt Go.RowKit
set_option linter.unusedVariables false
set_option linter.unusedSimpArgs false

theorem more37_out (r q n : Int) (w : World) (h : n < 0 ∨ 9 < n) :
    Calls Try.prog 8 #[.int .i64 r, .int .i64 q, .int .i64 n] w fun e w' => e = .returned (.bool true) ∧ Below w.heap.size w w' := by
  have hc : decide (n < 0) = true ∨ (decide (n < 0) = false ∧ decide (9 < n) = true) := by simp; omega
  have hm : mostF ⟨1, n⟩ r q = -1 := by
    unfold mostF
    rw [if_neg]
    rw [checkF_iff]
    show ¬ (r ≤ 7 ∧ 1 ≤ q ∧ q ≤ r ∧ ((1 : Int) = 1 ∧ q ≤ n ∧ n ≤ r ∨ (1 : Int) = 2 ∧ 1 ≤ n ∧ n ≤ 32))
    omega
  have HM := Lib.hid hm
  clear hm h
  rcases hc with h | ⟨h1, h⟩
  all_goals
    go_enter Try.func8, Try.ntmps8
    go_wp2_with (first | (go_at_call 21; refine (alive37_calls _).mono ?_; rintro e w1 ⟨rfl, b1⟩) | (go_at_call 24; refine (most_calls ⟨1, n⟩ r q _).mono ?_; rw [HM.out]; rintro e w2 ⟨rfl, b2⟩))
    go_ret
    exact ⟨rfl, bl_trans b1 b2⟩
theorem more37_in (r q n : Int) (w : World) (h0 : 0 ≤ n) (h9 : n ≤ 9) :
    Calls Try.prog 8 #[.int .i64 r, .int .i64 q, .int .i64 n] w fun e w' => e = .returned (.bool true) ∧ Below w.heap.size w w' := by
  rcases checkF_or ⟨1, n⟩ r q with ha | ha
  · rcases checkF_or ⟨1, n + 1⟩ r q with hb | hb
    · have g1 := checkF_zero ha
      have g2 := checkF_zero hb
      simp only at g1 g2
      have ma : mostF ⟨1, n⟩ r q = max (n + q - r - 1) 0 := by simp [mostF, ha]
      have mb : mostF ⟨1, n + 1⟩ r q = max (n + 1 + q - r - 1) 0 := by simp [mostF, hb]
      have la : liveF ⟨1, n⟩ r q = r - n := by simp [liveF, ha]
      have lb : liveF ⟨1, n + 1⟩ r q = r - (n + 1) := by simp [liveF, hb]
      have t1 : decide (max (n + q - r - 1) 0 ≤ max (n + 1 + q - r - 1) 0) = true := by simp; omega
      have t2 : decide (r - (n + 1) < r - n) = true := by simp; omega
      have HA := Lib.hid ha
      have HB := Lib.hid hb
      have MA := Lib.hid ma
      have MB := Lib.hid mb
      have LA := Lib.hid la
      have LB := Lib.hid lb
      clear ha hb ma mb la lb g1 g2
      go_enter Try.func8, Try.ntmps8
      go_wp2_with (first
        | (go_at_call 21; refine (alive37_calls _).mono ?_; rintro e w1 ⟨rfl, b1⟩; obtain ⟨q1, q2⟩ := alloc2_new w1 (.cells #[.int .i64 1, .int .i64 n] 30) (.cells #[.int .i64 1, .int .i64 (n + 1)] 30); have q3 := bl_alloc (bl_alloc b1 (.cells #[.int .i64 1, .int .i64 n] 30)) (.cells #[.int .i64 1, .int .i64 (n + 1)] 30))
        | (go_at_call 23; first
            | (with_reducible refine (may_calls ⟨1, n + 1⟩ r q _).mono ?_; rw [HB.out]; rintro e w3 ⟨rfl, b3⟩; have q5 := bl_trans q4 b3; have b4 := bl_trans b2 b3; have d0 := cell_below b4 (block_cell q1 (i := 0) rfl); have d1 := cell_below b4 (block_cell q1 (i := 1) rfl); have d2 := cell_below b4 (block_cell q2 (i := 0) rfl); have d3 := cell_below b4 (block_cell q2 (i := 1) rfl))
            | (with_reducible refine (may_calls ⟨1, n⟩ r q _).mono ?_; rw [HA.out]; rintro e w2 ⟨rfl, b2⟩; have q4 := bl_trans q3 b2; have c0 := cell_below b2 (block_cell q2 (i := 0) rfl); have c1 := cell_below b2 (block_cell q2 (i := 1) rfl))))
      clear c0 c1 b4
      have f0 := held_cell d0
      have f1 := held_cell d1
      have f2 := held_cell d2
      have f3 := held_cell d3
      clear d0 d1 d2 d3
      go_region_held3 (fun w' => Below w3.heap.size w3 w') (first | exact Below.refl _ _ | (apply bl_drew; exact Below.refl _ _) | (refine bl_trans ?_ (by assumption); assumption)) ((first
        | (go_at_call 24; first
            | (with_reducible refine (most_calls ⟨1, n + 1⟩ r q _).mono ?_; rw [MB.out]; rintro e w' ⟨rfl, hb⟩)
            | (with_reducible refine (most_calls ⟨1, n⟩ r q _).mono ?_; rw [MA.out]; rintro e w' ⟨rfl, hb⟩))
        | (go_at_call 25; first
            | (with_reducible refine (live_calls ⟨1, n + 1⟩ r q _).mono ?_; rw [LB.out]; rintro e w' ⟨rfl, hb⟩)
            | (with_reducible refine (live_calls ⟨1, n⟩ r q _).mono ?_; rw [LA.out]; rintro e w' ⟨rfl, hb⟩))))
      all_goals
        go_wp2_with fail
        go_ret
        exact ⟨by simp; try omega, bl_trans q5 (by assumption)⟩
    · have HA := Lib.hid ha
      have HB := Lib.hid hb
      clear ha hb
      go_enter Try.func8, Try.ntmps8
      go_wp2_with (first
        | (go_at_call 21; refine (alive37_calls _).mono ?_; rintro e w1 ⟨rfl, b1⟩; obtain ⟨q1, q2⟩ := alloc2_new w1 (.cells #[.int .i64 1, .int .i64 n] 30) (.cells #[.int .i64 1, .int .i64 (n + 1)] 30); have q3 := bl_alloc (bl_alloc b1 (.cells #[.int .i64 1, .int .i64 n] 30)) (.cells #[.int .i64 1, .int .i64 (n + 1)] 30))
        | (go_at_call 23; first
            | (with_reducible refine (may_calls ⟨1, n + 1⟩ r q _).mono ?_; rw [HB.out]; rintro e w3 ⟨rfl, b3⟩; have q5 := bl_trans q4 b3)
            | (with_reducible refine (may_calls ⟨1, n⟩ r q _).mono ?_; rw [HA.out]; rintro e w2 ⟨rfl, b2⟩; have q4 := bl_trans q3 b2; have c0 := cell_below b2 (block_cell q2 (i := 0) rfl); have c1 := cell_below b2 (block_cell q2 (i := 1) rfl))))
      go_ret
      exact ⟨rfl, q5⟩
  · have HA := Lib.hid ha
    clear ha
    go_enter Try.func8, Try.ntmps8
    go_wp2_with (first
      | (go_at_call 21; refine (alive37_calls _).mono ?_; rintro e w1 ⟨rfl, b1⟩; have q3 := bl_alloc (bl_alloc b1 (.cells #[.int .i64 1, .int .i64 n] 30)) (.cells #[.int .i64 1, .int .i64 (n + 1)] 30))
      | (go_at_call 23; refine (may_calls ⟨1, n⟩ r q _).mono ?_; rw [HA.out]; rintro e w2 ⟨rfl, b2⟩; have q4 := bl_trans q3 b2))
    go_ret
    exact ⟨rfl, q4⟩
theorem more37_walk (r q n : Int) (w : World) :
    Calls Try.prog 8 #[.int .i64 r, .int .i64 q, .int .i64 n] w fun e w' => e = .returned (.bool true) ∧ Below w.heap.size w w' := by
  by_cases h : n < 0 ∨ 9 < n
  · exact more37_out r q n w h
  · exact more37_in r q n w (by omega) (by omega)
end Go.Proofs.Ytflfpfaebndefaa
