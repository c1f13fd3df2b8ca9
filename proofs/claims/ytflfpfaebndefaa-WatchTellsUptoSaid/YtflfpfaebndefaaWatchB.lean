/- Package watch: Quorum; package tolerance: Safe; package mootplain: Ints. No claim of its own; no condition. -/
import Derived.Test.YtflfpfaebndefaaWatch
namespace Go.Proofs.Ytflfpfaebndefaa
open Go.ChangeShapes Go.WideShapes Go.ChangeAt Go.RowKit
set_option linter.unusedVariables false
set_option linter.unusedSimpArgs false
attribute [local go_sem high] run_max2 run_min2 run_max3 run_min3

def quorumF (r : Rule) (n q s : Int) : Bool := (r.kind == 1) && (decide (max r.n (max n q) ≤ 7) && (decide (0 ≤ min r.n (min n q)) && decide (faultsF s n ≤ r.n + q - n - 1)))
theorem quorum_calls (r : Rule) (n q s : Int) (w : World) :
    Calls Try.prog 27 #[.agg #[.int .i64 r.kind, .int .i64 r.n], .int .i64 n, .int .i64 q, .int .i64 s] w fun e w' => e = .returned (.bool (quorumF r n q s)) ∧ Below w.heap.size w w' := by
  by_cases h : r.kind = 1
  · obtain ⟨rk, rn⟩ := r
    obtain rfl : rk = 1 := h
    have q0 := bl_alloc (Below.refl w.heap.size w) (.cells #[.int .i64 1, .int .i64 rn] 30)
    have b0 := alloc_new w (.cells #[.int .i64 1, .int .i64 rn] 30)
    by_cases h2 : max rn (max n q) ≤ 7
    · by_cases h3 : 0 ≤ min rn (min n q)
      · have hf : quorumF ⟨1, rn⟩ n q s = decide (faultsF s n ≤ rn + q - n - 1) := by simp only [quorumF, h2, h3]; simp
        have k2 : decide (7 < max rn (max n q)) = false := by simp; omega
        have k3 : decide (min rn (min n q) < 0) = false := by simp; omega
        have s1 : IntKind.i64.wrap (rn + q) = rn + q := IntWalk.i64_in _ (by omega)
        have s2 : IntKind.i64.wrap (rn + q - n) = rn + q - n := IntWalk.i64_in _ (by omega)
        have s3 : IntKind.i64.wrap (rn + q - n - 1) = rn + q - n - 1 := IntWalk.i64_in _ (by omega)
        have HF := Lib.hid hf
        clear h2 h3 hf
        have c0 := block_cell b0 (i := 0) rfl
        have c1 := block_cell b0 (i := 1) rfl
        go_enter Try.func27, Try.ntmps27
        go_wp2_with fail
        go_quiet ((go_at_call 26; exact Calls.quiet_of_same ((faults_calls s n _).mono fun _ _ h => ⟨h.1, h.2.symm⟩)))
        all_goals
          go_wp2_with fail
          go_ret
          exact ⟨by rw [HF.out]; rfl, by first | exact q0 | exact bl_drewN q0 _⟩
      · have hf : quorumF ⟨1, rn⟩ n q s = false := by simp [quorumF, h3]
        have k2 : decide (7 < max rn (max n q)) = false := by simp; omega
        have k3 : decide (min rn (min n q) < 0) = true := by simp; omega
        have HF := Lib.hid hf
        clear h2 h3 hf
        go_enter Try.func27, Try.ntmps27
        go_wp2_with fail
        go_ret
        exact ⟨by rw [HF.out]; rfl, q0⟩
    · have hf : quorumF ⟨1, rn⟩ n q s = false := by simp [quorumF, h2]
      have k2 : decide (7 < max rn (max n q)) = true := by simp; omega
      have HF := Lib.hid hf
      clear h2 hf
      go_enter Try.func27, Try.ntmps27
      go_wp2_with fail
      go_ret
      exact ⟨by rw [HF.out]; rfl, q0⟩
  · have hf : quorumF r n q s = false := by simp [quorumF, h]
    have q0 := bl_alloc (Below.refl w.heap.size w) (.cells #[.int .i64 r.kind, .int .i64 r.n] 30)
    have b0 := alloc_new w (.cells #[.int .i64 r.kind, .int .i64 r.n] 30)
    have HF := Lib.hid hf
    clear hf
    go_enter Try.func27, Try.ntmps27
    go_wp2_with fail
    go_ret
    exact ⟨by rw [HF.out]; rfl, q0⟩
end Go.Proofs.Ytflfpfaebndefaa
