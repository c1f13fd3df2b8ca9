import Derived.Test.YtflfpfaebndefaaRows
import Derived.WalkKit
import Derived.ProofKit
import Derived.OpenShut
import Derived.LoopTactic
import Derived.Lib.Hide
namespace Go.Proofs.Ytflfpfaebndefaa
open Go.ChangeShapes Go.WideShapes Go.ChangeAt Go.RowKit
set_option linter.unusedVariables false

theorem ret_int {k : IntKind} {a b : Int} (h : a = b) : Ending.returned (.int k a) = .returned (.int k b) := by rw [h]

def clampT (a : Int) : Int := min (max a 1) 1048576
theorem clampT_bd (a : Int) : 1 ≤ clampT a ∧ clampT a ≤ 1048576 := by unfold clampT; omega

theorem within_calls (a : Int) (w : World) :
    Calls Try.prog 38 #[.int .i64 a] w fun e w' => e = .returned (.int .i64 (clampT a)) ∧ w = w' := by
  go_enter Try.func38, Try.ntmps38
  go_wp2
  all_goals go_ret
  all_goals exact ⟨ret_int (by unfold clampT; omega), rfl⟩

def dbl (top : Int) : Nat → Int → Int
  | 0, n => n
  | t + 1, n => if n < top then dbl top t (2 * n) else n

def waitF (base tries most : Int) : Int := min (dbl (clampT most) tries.toNat (clampT base)) (clampT most)

theorem int_bd {a : Int} (h : (Lit.int .i64 a).wf = true) : -9223372036854775808 ≤ a ∧ a ≤ 9223372036854775807 := by
  simpa [Lit.wf, IntKind.min, IntKind.max, IntKind.signed, IntKind.bits] using h

theorem wait_calls (b t m : Int) (w : World) (ht : -9223372036854775808 ≤ t) (ht' : t ≤ 9223372036854775807) :
    Calls Try.prog 16 #[.int .i64 b, .int .i64 t, .int .i64 m] w fun e w' => e = .returned (.int .i64 (waitF b t m)) ∧ w = w' := by
  have hb := clampT_bd b
  have hm := clampT_bd m
  go_enter Try.func16, Try.ntmps16
  go_wp2_with (go_at_call 38; refine (within_calls _ _).mono ?_; rintro e w' ⟨rfl, rfl⟩)
  go_loop [1, 8] (fun tv nv => ∃ t' n' : Int, tv = .int .i64 t' ∧ nv = .int .i64 n' ∧ t' ≤ t ∧ -9223372036854775808 ≤ t' ∧ 1 ≤ n' ∧ n' ≤ 2097152 ∧ dbl (clampT m) t'.toNat n' = dbl (clampT m) t.toNat (clampT b)) (fun tv _ => (intOf tv).toNat)
  case atStart => exact ⟨t, clampT b, rfl, rfl, by omega, by omega, by omega, by omega, rfl⟩
  case round =>
    obtain ⟨t', n', rfl, rfl, h1, h2, h3, h4, h5⟩ := hrel
    have H5 := Lib.hid h5
    clear h5
    by_cases h6 : 0 < t'
    · by_cases h7 : n' < clampT m
      · go_wp2
        go_round
        case rel =>
          refine ⟨t' - 1, n' * 2, rfl, by go_num, by omega, by omega, by omega, by omega, ?_⟩
          rw [← H5.out, show t'.toNat = (t' - 1).toNat + 1 by omega, dbl, if_pos h7, Int.mul_comm]
        case measure => simp [intOf]; omega
      · have hr : dbl (clampT m) t'.toNat n' = n' := by
          cases t'.toNat with
          | zero => rfl
          | succ k => rw [dbl, if_neg h7]
        have HR := Lib.hid (H5.out.symm.trans hr)
        clear hr
        go_wp2
        all_goals go_ret
        all_goals exact ⟨ret_int (by unfold waitF; rw [HR.out]; omega), rfl⟩
    · have hr : dbl (clampT m) t'.toNat n' = n' := by
        rw [show t'.toNat = 0 by omega]; rfl
      have HR := Lib.hid (H5.out.symm.trans hr)
      clear hr
      go_wp2
      all_goals go_ret
      all_goals exact ⟨ret_int (by unfold waitF; rw [HR.out]; omega), rfl⟩
end Go.Proofs.Ytflfpfaebndefaa
