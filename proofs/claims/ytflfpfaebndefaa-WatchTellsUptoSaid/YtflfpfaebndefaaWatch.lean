/- Packages math/bits and watch: the ones of a small number, whose assumptions hold. No claim of its own; no condition. -/
import Derived.Deep.DeepCutAuto
import Derived.Deep.RegionHeld3
import Derived.IntWalk
import Derived.Laws.Bits64b
import Derived.Test.YtflfpfaebndefaaPaceB
import Derived.Test.YtflfpfaebndefaaTypes
namespace Go.Proofs.Ytflfpfaebndefaa
open Go.ChangeShapes Go.WideShapes Go.ChangeAt Go.RowKit
set_option linter.unusedVariables false
set_option linter.unusedSimpArgs false

def onesN (x : Nat) : Nat := (List.range 7).foldl (fun s i => s + x / 2 ^ i % 2) 0
theorem ones64_calls (x : Nat) (hx : x < 128) (w : World) :
    Calls Try.prog 50 #[.int .u64 x] w fun e w' => e = .returned (.int .i64 (onesN x)) ∧ w = w' := by
  go_enter Try.func50, Try.ntmps50
  go_wp2
  go_ret
  refine ⟨ret_int ?_, rfl⟩
  clear w
  revert x
  decide +kernel
theorem ones_calls (x : Nat) (hx : x < 128) (w : World) :
    Calls Try.prog 42 #[.int .u64 x] w fun e w' => e = .returned (.int .i64 (onesN x)) ∧ w = w' := by
  go_enter Try.func42, Try.ntmps42
  go_wp2_with (go_at_call 50; refine (ones64_calls x hx _).mono ?_; rintro e w' ⟨rfl, rfl⟩)
  go_ret
  exact ⟨rfl, rfl⟩
theorem run_max3 {P : Program} {w : World} (ts : Array TypeId) (t : TypeId) (k k' k'' : IntKind) (x y z : Int) : (Builtin.max_ ts t #[.int k x, .int k' y, .int k'' z]).run P w = .ok (.int k (max (max x y) z)) w := by
  simp [Builtin.max_, Builtin.max2]
  repeat' split
  all_goals omega
theorem run_min3 {P : Program} {w : World} (ts : Array TypeId) (t : TypeId) (k k' k'' : IntKind) (x y z : Int) : (Builtin.min_ ts t #[.int k x, .int k' y, .int k'' z]).run P w = .ok (.int k (min (min x y) z)) w := by
  simp [Builtin.min_, Builtin.min2]
  repeat' split
  all_goals omega
attribute [local go_sem high] run_max2 run_min2 run_max3 run_min3
def lowN (s : Int) (k : Nat) : Nat := (s % 2 ^ k).toNat
theorem lowN_lt (s : Int) (k : Nat) (hk : k ≤ 7) : lowN s k < 128 := by
  unfold lowN
  have h : s % 2 ^ k < 2 ^ k := Int.emod_lt_of_pos _ (Int.pow_pos (by decide))
  have h2 : (2 : Int) ^ k ≤ 128 := (by decide +kernel : ∀ k : Nat, k < 8 → (2 : Int) ^ k ≤ 128) k (by omega)
  have h0 : 0 ≤ s % 2 ^ k := Int.emod_nonneg _ (Int.ne_of_gt (Int.pow_pos (by decide)))
  omega
theorem mask_eq : ∀ k : Nat, k < 8 → IntKind.u64.wrap (IntKind.u64.wrap (2 ^ k) - 1) = ((2 ^ k - 1 : Nat) : Int) := by decide +kernel
theorem low_eq (s : Int) (k : Nat) (hk : k ≤ 7) : bits .and .u64 (IntKind.u64.wrap s) (IntKind.u64.wrap (IntKind.u64.wrap (2 ^ k) - 1)) = ((lowN s k : Nat) : Int) := by
  rw [mask_eq k (by omega), IntKind.wrap_u64]
  obtain ⟨a, ha⟩ : ∃ a : Nat, s % 18446744073709551616 = a := ⟨(s % 18446744073709551616).toNat, by omega⟩
  rw [ha, bits_and_u64_nat a (2 ^ k - 1) (by omega) (by have : (2 : Nat) ^ k ≤ 2 ^ 7 := Nat.pow_le_pow_right (by decide) hk; omega), Nat.and_two_pow_sub_one_eq_mod]
  have hd : s % 2 ^ k = (a : Int) % 2 ^ k := by
    rw [← ha, Int.emod_emod_of_dvd]
    exact ⟨2 ^ (64 - k), by rw [← Int.pow_add, show k + (64 - k) = 64 by omega]; rfl⟩
  unfold lowN
  rw [hd]
  have : ((a % 2 ^ k : Nat) : Int) = (a : Int) % 2 ^ k := by simp
  omega
def capN (n : Int) : Nat := (min (max n 0) 7).toNat
theorem capN_le (n : Int) : capN n ≤ 7 := by unfold capN; omega
theorem low_calls (s n : Int) (w : World) :
    Calls Try.prog 43 #[.int .i64 s, .int .i64 n] w fun e w' => e = .returned (.int .u64 (lowN s (capN n))) ∧ w = w' := by
  have h := low_eq s (capN n) (capN_le n)
  have H := Lib.hid h
  clear h
  go_enter Try.func43, Try.ntmps43
  go_wp2
  go_ret
  exact ⟨ret_int H.out, rfl⟩
def faultsF (s n : Int) : Int := onesN (lowN s (capN n))
theorem faults_calls (s n : Int) (w : World) :
    Calls Try.prog 26 #[.int .i64 s, .int .i64 n] w fun e w' => e = .returned (.int .i64 (faultsF s n)) ∧ w = w' := by
  go_enter Try.func26, Try.ntmps26
  go_wp2_with (first | (go_at_call 43; refine (low_calls s n _).mono ?_; rintro e w' ⟨rfl, rfl⟩) | (go_at_call 42; refine (ones_calls _ (lowN_lt s _ (capN_le n)) _).mono ?_; rintro e w' ⟨rfl, rfl⟩))
  go_ret
  exact ⟨rfl, rfl⟩
end Go.Proofs.Ytflfpfaebndefaa
