/- Package mootlaw37: the walks of ToleranceBest and ToleranceMore. No claim of its own; no condition. -/
import Derived.Deep.DeepCutAuto
import Derived.Test.YtflfpfaebndefaaTolC
namespace Go.Proofs.Ytflfpfaebndefaa
open Go.ChangeShapes Go.WideShapes Go.ChangeAt Go.RowKit
set_option linter.unusedVariables false
set_option linter.unusedSimpArgs false

/-- What Best answers where there is a best. -/
def bestOk (r f : Nat) : Bool :=
  let b := bestF r f
  if 3 * f < r then b.2.2 && decide (1 ≤ b.1) && decide (b.1 ≤ b.2.1) && decide (b.2.1 ≤ (r : Int) - f) && decide (b.1 + b.2.1 - r - 1 ≥ f) &&
    (List.range 8).all fun p => !decide (1 ≤ p ∧ (p : Int) < b.1) || (List.range 8).all fun m => !decide (p ≤ m ∧ (m : Int) ≤ (r : Int) - f) || decide ((m : Int) + p - r - 1 < f)
  else b == (0, 0, false)
theorem bestOk_all : ∀ r ∈ List.range 8, ∀ f ∈ List.range 8, 1 ≤ r → bestOk r f = true := by decide +kernel
theorem best_ok (r f : Int) (h1 : 1 ≤ r) (h2 : r ≤ 7) (h3 : 0 ≤ f) (h4 : f ≤ 7) :
    (¬ 3 * f < r ∧ bestF r f = (0, 0, false)) ∨ (3 * f < r ∧ ∃ q n : Int, bestF r f = (q, n, true) ∧ 1 ≤ q ∧ q ≤ n ∧ n ≤ r - f ∧ q + n - r - 1 ≥ f ∧
      ∀ p m : Int, 1 ≤ p → p < q → p ≤ m → m ≤ r - f → m + p - r - 1 < f) := by
  obtain ⟨R, rfl⟩ : ∃ R : Nat, r = R := ⟨r.toNat, by omega⟩
  obtain ⟨F, rfl⟩ : ∃ F : Nat, f = F := ⟨f.toNat, by omega⟩
  have h := bestOk_all R (List.mem_range.2 (by omega)) F (List.mem_range.2 (by omega)) (by omega)
  unfold bestOk at h
  simp only at h
  split at h
  · next hlt =>
    simp only [Bool.and_eq_true, decide_eq_true_eq, List.all_eq_true, Bool.or_eq_true, Bool.not_eq_true', decide_eq_false_iff_not, List.mem_range] at h
    obtain ⟨⟨⟨⟨⟨ha, hb⟩, hc⟩, hd⟩, he⟩, hg⟩ := h
    refine .inr ⟨by omega, (bestF R F).1, (bestF R F).2.1, ?_, hb, hc, hd, he, ?_⟩
    · rw [← ha]
    · intro p m h5 h6 h7 h8
      obtain ⟨p', rfl⟩ : ∃ p' : Nat, p = p' := ⟨p.toNat, by omega⟩
      obtain ⟨m', rfl⟩ : ∃ m' : Nat, m = m' := ⟨m.toNat, by omega⟩
      rcases hg p' (by omega) with hg | hg
      · omega
      · rcases hg m' (by omega) with hg | hg
        · omega
        · exact hg
  · next hlt => exact .inl ⟨by omega, by simpa using h⟩

theorem bestlaw_no (r f : Int) (w : World) (hb : bestF r f = (0, 0, false)) (hf : 1 ≤ r → r ≤ 7 → 0 ≤ f → f ≤ 7 → ¬ 3 * f < r) (h64 : -9223372036854775808 ≤ f) (h65 : f ≤ 9223372036854775807) :
    Calls Try.prog 7 #[.int .i64 r, .int .i64 f] w fun e w' => e = .returned (.bool true) ∧ Below w.heap.size w w' := by
  have H := Lib.hid hb
  clear hb
  have hc : decide (r < 1) = true ∨ (decide (r < 1) = false ∧ decide (7 < r) = true) ∨ (decide (r < 1) = false ∧ decide (7 < r) = false ∧ decide (f < 0) = true) ∨ (decide (r < 1) = false ∧ decide (7 < r) = false ∧ decide (f < 0) = false ∧ decide (7 < f) = true) ∨ (decide (r < 1) = false ∧ decide (7 < r) = false ∧ decide (f < 0) = false ∧ decide (7 < f) = false ∧ wrap64 (3 * f) = 3 * f ∧ decide (3 * f < r) = false) := by
    simp only [decide_eq_true_eq, decide_eq_false_iff_not]; unfold wrap64; omega
  clear hf
  rcases hc with h | ⟨h1, h⟩ | ⟨h1, h2, h⟩ | ⟨h1, h2, h3, h⟩ | ⟨h1, h2, h3, h4, h5, h⟩
  all_goals
    go_enter Try.func7, Try.ntmps7
    go_wp2_with (first | (go_at_call 21; refine (alive37_calls _).mono ?_; rintro e w1 ⟨rfl, b1⟩) | (go_at_call 22; refine (best_calls r f _).mono ?_; rw [H.out]; rintro e w2 ⟨rfl, b2⟩))
    go_ret
    exact ⟨rfl, bl_trans b1 b2⟩
theorem bestlaw_yes (r f q n : Int) (w : World) (h1 : 1 ≤ r) (h2 : r ≤ 7) (h3 : 0 ≤ f) (h4 : 3 * f < r) (hb : bestF r f = (q, n, true)) (hq : 1 ≤ q) (hqn : q ≤ n) (hn : n ≤ r - f) (hbe : q + n - r - 1 ≥ f)
    (hno : ∀ p m : Int, 1 ≤ p → p < q → p ≤ m → m ≤ r - f → m + p - r - 1 < f) :
    Calls Try.prog 7 #[.int .i64 r, .int .i64 f] w fun e w' => e = .returned (.bool true) ∧ Below w.heap.size w w' := by
  have hz : checkF ⟨1, n⟩ r q = 0 := (checkF_iff _ _ _).2 ⟨h2, hq, by omega, .inl ⟨rfl, hqn, by show n ≤ r; omega⟩⟩
  have hm : mostF ⟨1, n⟩ r q = max (n + q - r - 1) 0 := by simp [mostF, hz]
  have hl : liveF ⟨1, n⟩ r q = r - n := by simp [liveF, hz]
  have h5 : wrap64 (3 * f) = 3 * f := by unfold wrap64; omega
  have h6 : f ≤ 7 := by omega
  have H := Lib.hid hb
  have HZ := Lib.hid hz
  have HM := Lib.hid hm
  have HL := Lib.hid hl
  have HN := Lib.hid hno
  have a1 : decide (max (n + q - r - 1) 0 < f) = false := by simp; omega
  have a2 : decide (r - n < f) = false := by simp; omega
  have a3 : decide (r - q < f) = false := by simp; omega
  clear hb hz hm hl hno
  go_enter Try.func7, Try.ntmps7
  go_wp2_with (first
    | (go_at_call 21; refine (alive37_calls _).mono ?_; rintro e w1 ⟨rfl, b1⟩)
    | (go_at_call 22; refine (best_calls r f _).mono ?_; rw [H.out]; rintro e w2 ⟨rfl, b2⟩; have b0 := alloc_new w2 (.cells #[.int .i64 1, .int .i64 n] 30); have q2 := bl_alloc (bl_trans b1 b2) (.cells #[.int .i64 1, .int .i64 n] 30))
    | (go_at_call 23; refine (may_calls ⟨1, n⟩ r q _).mono ?_; rw [HZ.out]; rintro e w3 ⟨rfl, b3⟩; have q3 := bl_trans q2 b3; have c30 := cell_below b3 (block_cell b0 (i := 0) rfl); have c31 := cell_below b3 (block_cell b0 (i := 1) rfl))
    | (go_at_call 24; refine (most_calls ⟨1, n⟩ r q _).mono ?_; rw [HM.out]; rintro e w4 ⟨rfl, b4⟩; have q4 := bl_trans q3 b4; have c40 := cell_below (bl_trans b3 b4) (block_cell b0 (i := 0) rfl); have c41 := cell_below (bl_trans b3 b4) (block_cell b0 (i := 1) rfl))
    | (go_at_call 25; refine (live_calls ⟨1, n⟩ r q _).mono ?_; rw [HL.out]; rintro e w5 ⟨rfl, b5⟩; have q5 := bl_trans q4 b5))
  clear b0 c30 c31 c40 c41 H HZ HM HL a1 a2 a3
  go_loop [9] (fun pv => ∃ p : Nat, pv = .int .i64 p ∧ 1 ≤ p ∧ (p : Int) ≤ q) (fun pv => 8 - (intOf pv).toNat)
  case atStart => exact ⟨1, by go_num, by omega, by omega⟩
  case round =>
    obtain ⟨p, rfl, g1, g2⟩ := hrel
    by_cases hp : (p : Int) < q
    · go_wp2
      go_loop [10] (fun mv => ∃ m : Nat, mv = .int .i64 m ∧ p ≤ m ∧ (m : Int) ≤ r - f + 1) (fun mv => 9 - (intOf mv).toNat)
      case atStart => exact ⟨p, by go_num, by omega, by omega⟩
      case round =>
        obtain ⟨m, rfl, g3, g4⟩ := hrel
        by_cases hm : (m : Int) ≤ r - f
        · have g5 := HN.out p m (by omega) hp (by omega) hm
          go_wp2
          go_round
          case rel => exact ⟨m + 1, by go_num, by omega, by omega⟩
          case measure => simp [intOf]; omega
        · go_wp2
          go_round
          case rel => exact ⟨p + 1, by go_num, by omega, by omega⟩
          case measure => simp [intOf]; omega
    · go_wp2
      go_ret
      exact ⟨rfl, q5⟩
theorem bestlaw_walk (r f : Int) (w : World) (hf : (Lit.int .i64 f).wf = true) :
    Calls Try.prog 7 #[.int .i64 r, .int .i64 f] w fun e w' => e = .returned (.bool true) ∧ Below w.heap.size w w' := by
  obtain ⟨h64, h65⟩ := int_bd hf
  by_cases h : 1 ≤ r ∧ r ≤ 7 ∧ 0 ≤ f ∧ f ≤ 7
  · obtain ⟨h1, h2, h3, h4⟩ := h
    rcases best_ok r f h1 h2 h3 h4 with ⟨h5, h6⟩ | ⟨h5, q, n, h6, h7, h8, h9, h10, h11⟩
    · exact bestlaw_no r f w h6 (fun _ _ _ _ => h5) (by omega) (by omega)
    · exact bestlaw_yes r f q n w h1 h2 h3 h5 h6 h7 h8 h9 h10 h11
  · refine bestlaw_no r f w (if_neg (by omega)) (fun h1 h2 h3 h4 => absurd ⟨h1, h2, h3, h4⟩ h) (by omega) (by omega)
end Go.Proofs.Ytflfpfaebndefaa
