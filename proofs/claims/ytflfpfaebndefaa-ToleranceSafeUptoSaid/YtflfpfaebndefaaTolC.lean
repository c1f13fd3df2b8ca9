/- Package tolerance: Best, Most, Live, and the laws' own helpers. No claim of its own; no condition. -/
import Derived.Test.YtflfpfaebndefaaTolB
import Derived.Test.YtflfpfaebndefaaPaceB
namespace Go.Proofs.Ytflfpfaebndefaa
open Go.ChangeShapes Go.WideShapes Go.ChangeAt Go.RowKit
set_option linter.unusedVariables false
set_option linter.unusedSimpArgs false

theorem best_out (r f : Int) (h : ¬ (1 ≤ r ∧ r ≤ 7 ∧ 0 ≤ f ∧ f ≤ r)) (w : World) :
    Calls Try.prog 22 #[.int .i64 r, .int .i64 f] w fun e W' => e = .returned (.tuple #[.int .i64 0, .int .i64 0, .bool false]) ∧ Below w.heap.size w W' := by
  have hc : decide (r < 1) = true ∨ (decide (r < 1) = false ∧ decide (7 < r) = true) ∨ (decide (r < 1) = false ∧ decide (7 < r) = false ∧ decide (f < 0) = true) ∨ (decide (r < 1) = false ∧ decide (7 < r) = false ∧ decide (f < 0) = false ∧ decide (r < f) = true) := by
    simp only [decide_eq_true_eq, decide_eq_false_iff_not]; omega
  clear h
  rcases hc with h | ⟨h1, h⟩ | ⟨h1, h2, h⟩ | ⟨h1, h2, h3, h⟩
  all_goals
    go_enter Try.func22, Try.ntmps22
    go_wp2
    refine bodyPost_ret (v := .tuple #[.int .i64 0, .int .i64 0, .bool false]) (by simp [results, Try.results22, go_sem]) rfl ⟨rfl, ?_⟩
    repeat (first | exact Below.refl _ _ | apply bl_alloc | apply bl_drew | (refine bl_set ?_ (by simp; omega) _) | (refine bl_set ?_ (by simp) _))

theorem best_calls (r f : Int) (w : World) :
    Calls Try.prog 22 #[.int .i64 r, .int .i64 f] w fun e W' => e = .returned (.tuple #[.int .i64 (bestF r f).1, .int .i64 (bestF r f).2.1, .bool (bestF r f).2.2]) ∧ Below w.heap.size w W' := by
  by_cases h : 1 ≤ r ∧ r ≤ 7 ∧ 0 ≤ f ∧ f ≤ r
  · obtain ⟨h1, h2, h3, h4⟩ := h
    refine (callsIn_wide.1 (best_in Fence.wide 3 trivial trivial trivial rfl (by omega) r f h1 h2 h3 h4 w)).mono ?_
    rintro e W' ⟨⟨a, b, c, hb, rfl⟩, hB⟩
    exact ⟨by rw [hb], hB⟩
  · have e : bestF r f = (0, 0, false) := if_neg h
    rw [e]
    exact best_out r f h w

theorem bestF_41 : bestF 4 1 = (3, 3, true) := by decide
theorem alive37_calls (w : World) : Calls Try.prog 21 #[] w fun e w' => e = .returned (.bool true) ∧ Below w.heap.size w w' := by
  have H := Lib.hid bestF_41
  go_enter Try.func21, Try.ntmps21
  go_wp2_with (go_at_call 22; refine (best_calls 4 1 _).mono ?_; rw [H.out]; rintro e w' ⟨rfl, hb⟩)
  go_ret
  exact ⟨rfl, hb⟩

def mostF (r : Rule) (n q : Int) : Int := if checkF r n q = 0 then (if r.kind = 1 then max (r.n + q - n - 1) 0 else q - 1) else -1
def liveF (r : Rule) (n q : Int) : Int := if checkF r n q = 0 then (if r.kind = 1 then n - r.n else n - q) else -1
theorem checkF_zero {r : Rule} {n q : Int} (h : checkF r n q = 0) : n ≤ 7 ∧ 1 ≤ q ∧ q ≤ n ∧ ((r.kind = 1 ∧ q ≤ r.n ∧ r.n ≤ n) ∨ (r.kind = 2 ∧ 1 ≤ r.n ∧ r.n ≤ 32)) := by
  unfold checkF at h
  split at h
  · assumption
  · cases h
theorem checkF_or (r : Rule) (n q : Int) : checkF r n q = 0 ∨ checkF r n q = 81 := by
  unfold checkF
  split <;> simp
attribute [local go_sem high] run_max2 run_min2
theorem most_calls (r : Rule) (n q : Int) (w : World) :
    Calls Try.prog 24 #[.agg #[.int .i64 r.kind, .int .i64 r.n], .int .i64 n, .int .i64 q] w fun e w' => e = .returned (.int .i64 (mostF r n q)) ∧ Below w.heap.size w w' := by
  have q0 := bl_alloc (Below.refl w.heap.size w) (.cells #[.int .i64 r.kind, .int .i64 r.n] 30)
  have b0 := alloc_new w (.cells #[.int .i64 r.kind, .int .i64 r.n] 30)
  rcases checkF_or r n q with hz | hz
  · obtain ⟨h1, h2, h3, h4⟩ := checkF_zero hz
    rcases h4 with ⟨h4, h5, h6⟩ | ⟨h4, h5, h6⟩
    · have hf : mostF r n q = max (r.n + q - n - 1) 0 := by simp [mostF, hz, h4]
      have k1 : (r.kind == 1) = true := by simp [h4]
      have HF := Lib.hid hf
      have HZ := Lib.hid hz
      clear hf hz h4
      go_enter Try.func24, Try.ntmps24
      go_wp2_with (go_at_call 39; refine (check_calls r n q _).mono ?_; rw [HZ.out]; rintro e w1 ⟨rfl, hb1⟩; have c0 := cell_below hb1 (block_cell b0 (i := 0) rfl); have c1 := cell_below hb1 (block_cell b0 (i := 1) rfl))
      go_ret
      exact ⟨by rw [HF.out]; rfl, bl_trans q0 hb1⟩
    · have hf : mostF r n q = q - 1 := by simp [mostF, hz, h4]
      have k1 : (r.kind == 1) = false := by simp [h4]
      have HF := Lib.hid hf
      have HZ := Lib.hid hz
      clear hf hz h4
      go_enter Try.func24, Try.ntmps24
      go_wp2_with (go_at_call 39; refine (check_calls r n q _).mono ?_; rw [HZ.out]; rintro e w1 ⟨rfl, hb1⟩; have c0 := cell_below hb1 (block_cell b0 (i := 0) rfl); have c1 := cell_below hb1 (block_cell b0 (i := 1) rfl))
      go_ret
      exact ⟨by rw [HF.out]; rfl, bl_trans q0 hb1⟩
  · have hf : mostF r n q = -1 := by simp [mostF, hz]
    have HF := Lib.hid hf
    have HZ := Lib.hid hz
    clear hf hz
    go_enter Try.func24, Try.ntmps24
    go_wp2_with (go_at_call 39; refine (check_calls r n q _).mono ?_; rw [HZ.out]; rintro e w1 ⟨rfl, hb1⟩)
    go_ret
    exact ⟨by rw [HF.out]; rfl, bl_trans q0 hb1⟩
theorem live_calls (r : Rule) (n q : Int) (w : World) :
    Calls Try.prog 25 #[.agg #[.int .i64 r.kind, .int .i64 r.n], .int .i64 n, .int .i64 q] w fun e w' => e = .returned (.int .i64 (liveF r n q)) ∧ Below w.heap.size w w' := by
  have q0 := bl_alloc (Below.refl w.heap.size w) (.cells #[.int .i64 r.kind, .int .i64 r.n] 30)
  have b0 := alloc_new w (.cells #[.int .i64 r.kind, .int .i64 r.n] 30)
  rcases checkF_or r n q with hz | hz
  · obtain ⟨h1, h2, h3, h4⟩ := checkF_zero hz
    rcases h4 with ⟨h4, h5, h6⟩ | ⟨h4, h5, h6⟩
    · have hf : liveF r n q = n - r.n := by simp [liveF, hz, h4]
      have k1 : (r.kind == 1) = true := by simp [h4]
      have HF := Lib.hid hf
      have HZ := Lib.hid hz
      clear hf hz h4
      go_enter Try.func25, Try.ntmps25
      go_wp2_with (go_at_call 39; refine (check_calls r n q _).mono ?_; rw [HZ.out]; rintro e w1 ⟨rfl, hb1⟩; have c0 := cell_below hb1 (block_cell b0 (i := 0) rfl); have c1 := cell_below hb1 (block_cell b0 (i := 1) rfl))
      go_ret
      exact ⟨by rw [HF.out]; rfl, bl_trans q0 hb1⟩
    · have hf : liveF r n q = n - q := by simp [liveF, hz, h4]
      have k1 : (r.kind == 1) = false := by simp [h4]
      have HF := Lib.hid hf
      have HZ := Lib.hid hz
      clear hf hz h4
      go_enter Try.func25, Try.ntmps25
      go_wp2_with (go_at_call 39; refine (check_calls r n q _).mono ?_; rw [HZ.out]; rintro e w1 ⟨rfl, hb1⟩; have c0 := cell_below hb1 (block_cell b0 (i := 0) rfl); have c1 := cell_below hb1 (block_cell b0 (i := 1) rfl))
      go_ret
      exact ⟨by rw [HF.out]; rfl, bl_trans q0 hb1⟩
  · have hf : liveF r n q = -1 := by simp [liveF, hz]
    have HF := Lib.hid hf
    have HZ := Lib.hid hz
    clear hf hz
    go_enter Try.func25, Try.ntmps25
    go_wp2_with (go_at_call 39; refine (check_calls r n q _).mono ?_; rw [HZ.out]; rintro e w1 ⟨rfl, hb1⟩)
    go_ret
    exact ⟨by rw [HF.out]; rfl, bl_trans q0 hb1⟩
theorem checkF_iff (r : Rule) (n q : Int) : (checkF r n q = 0) ↔ (n ≤ 7 ∧ 1 ≤ q ∧ q ≤ n ∧ ((r.kind = 1 ∧ q ≤ r.n ∧ r.n ≤ n) ∨ (r.kind = 2 ∧ 1 ≤ r.n ∧ r.n ≤ 32))) := by
  refine ⟨checkF_zero, fun h => ?_⟩
  unfold checkF
  rw [if_pos h]
/-- The law's own 'may' is Check's zero. -/
theorem may_calls (r : Rule) (n q : Int) (w : World) :
    Calls Try.prog 23 #[.agg #[.int .i64 r.kind, .int .i64 r.n], .int .i64 n, .int .i64 q] w fun e w' => e = .returned (.bool (decide (checkF r n q = 0))) ∧ Below w.heap.size w w' := by
  have hk : r.kind = 1 ∧ (r.kind == 1) = true ∨ r.kind = 2 ∧ (r.kind == 1) = false ∧ (r.kind == 2) = true ∨ (r.kind ≠ 1 ∧ r.kind ≠ 2) ∧ (r.kind == 1) = false ∧ (r.kind == 2) = false := by
    by_cases h1 : r.kind = 1
    · exact .inl ⟨h1, by simp [h1]⟩
    · by_cases h2 : r.kind = 2
      · exact .inr (.inl ⟨h2, by simp [h2], by simp [h2]⟩)
      · exact .inr (.inr ⟨⟨h1, h2⟩, by simp [h1], by simp [h2]⟩)
  rcases hk with ⟨h1, h2⟩ | ⟨h1, h2, h3⟩ | ⟨h1, h2, h3⟩
  all_goals
    have H1 := Lib.hid h1
    clear h1
    go_enter Try.func23, Try.ntmps23
    go_wp2
    all_goals go_ret
    all_goals refine ⟨?_, bl_alloc (Below.refl _ _) _⟩
    all_goals
      have H2 := H1.out
      refine congrArg (fun b => Ending.returned (Value.bool b)) ?_
      rw [Bool.eq_iff_iff]
      simp only [decide_eq_true_eq, checkF_iff, Bool.false_eq_true, false_iff, true_iff]
      omega
end Go.Proofs.Ytflfpfaebndefaa
