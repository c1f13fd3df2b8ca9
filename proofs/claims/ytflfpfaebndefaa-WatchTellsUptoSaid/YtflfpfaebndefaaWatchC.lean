/- Package mootlaw27: alive; the ones of a number, counted. No claim of its own; no condition. -/
import Derived.Test.YtflfpfaebndefaaEqual
namespace Go.Proofs.Ytflfpfaebndefaa
open Go.ChangeShapes Go.WideShapes Go.ChangeAt Go.RowKit
set_option linter.unusedVariables false
set_option linter.unusedSimpArgs false

theorem str_fresh (w : World) (B : Nat) (x : ByteArray) (hx : x.size ≤ 140737488351232) : Kd.str.Row 9 B (w.alloc (.cells #[.string x] 9)) (some ⟨w.heap.size, 0, none⟩) [x] := Kd.row_fresh1 ⟨rfl, hx⟩
theorem small_one (x : UInt8) : (⟨#[x]⟩ : ByteArray).size ≤ 140737488351232 := Nat.le_trans (Nat.le_refl 1) (by omega)
theorem pre27a (w : World) : Calls Try.prog 28 #[.slice none 0 0, .slice (some ⟨w.heap.size, 0, none⟩) 1 1] (w.alloc (.cells #[.string ⟨#[97]⟩] 9)) fun e w' => e = .returned (.bool true) ∧ Below (w.alloc (.cells #[.string ⟨#[97]⟩] 9)).heap.size (w.alloc (.cells #[.string ⟨#[97]⟩] 9)) w' := by
  have h := prefix_calls [] [⟨#[97]⟩] none (some ⟨w.heap.size, 0, none⟩) 0 0 1 1 (w.alloc (.cells #[.string ⟨#[97]⟩] 9)) 0 0 rfl rfl (by simp) (by simp) (by simp) (by simp) (Kd.row_nil _ _ _ _ _) (str_fresh _ _ _ (small_one _))
  rwa [show prefixF [] [⟨#[97]⟩] = true by decide] at h
theorem pre27b (w : World) : Calls Try.prog 28 #[.slice (some ⟨w.heap.size, 0, none⟩) 1 1, .slice (some ⟨w.heap.size + 1, 0, none⟩) 1 1] ((w.alloc (.cells #[.string ⟨#[98]⟩] 9)).alloc (.cells #[.string ⟨#[97]⟩] 9)) fun e w' => e = .returned (.bool false) ∧ Below ((w.alloc (.cells #[.string ⟨#[98]⟩] 9)).alloc (.cells #[.string ⟨#[97]⟩] 9)).heap.size ((w.alloc (.cells #[.string ⟨#[98]⟩] 9)).alloc (.cells #[.string ⟨#[97]⟩] 9)) w' := by
  have r2 := str_fresh (w.alloc (.cells #[.string ⟨#[98]⟩] 9)) 0 ⟨#[97]⟩ (small_one _)
  have e : (w.alloc (.cells #[.string ⟨#[98]⟩] 9)).heap.size = w.heap.size + 1 := by simp
  rw [e] at r2
  have h := prefix_calls [⟨#[98]⟩] [⟨#[97]⟩] (some ⟨w.heap.size, 0, none⟩) (some ⟨w.heap.size + 1, 0, none⟩) 1 1 1 1 ((w.alloc (.cells #[.string ⟨#[98]⟩] 9)).alloc (.cells #[.string ⟨#[97]⟩] 9)) 0 0 rfl rfl (by simp) (by simp) (by simp) (by simp) (Kd.row_below (bl_alloc (Below.refl _ _) _) (str_fresh _ _ _ (small_one _))) r2
  rwa [show prefixF [⟨#[98]⟩] [⟨#[97]⟩] = false by decide] at h
theorem fau27 (w : World) : Calls Try.prog 26 #[.int .i64 5, .int .i64 3] w fun e w' => e = .returned (.int .i64 2) ∧ w = w' := by
  have h := faults_calls 5 3 w
  rwa [show faultsF 5 3 = 2 by decide] at h
theorem alive27_calls (w : World) : Calls Try.prog 29 #[] w fun e w' => e = .returned (.bool true) ∧ Below w.heap.size w w' := by
  go_enter Try.func29, Try.ntmps29
  go_wp2_with (first
    | (go_at_call 28; with_reducible refine (pre27a w).mono ?_; rintro e w1 ⟨rfl, b1⟩)
    | (go_at_call 28; with_reducible refine (pre27b _).mono ?_; rintro e w2 ⟨rfl, b2⟩)
    | (go_at_call 26; refine (fau27 _).mono ?_; rintro e w3 ⟨rfl, rfl⟩))
  go_ret
  exact ⟨rfl, bl_trans (bl_alloc (bl_alloc (bl_trans (bl_alloc (Below.refl _ _) _) b1) _) _) b2⟩
def bitI (s : Int) (k : Nat) : Int := s / 2 ^ k % 2
def cntF (s : Int) : Nat → Int
  | 0 => 0
  | k + 1 => cntF s k + bitI s k
theorem bitI_or (s : Int) (k : Nat) : bitI s k = 0 ∨ bitI s k = 1 := by unfold bitI; omega
theorem cntF_bd (s : Int) : ∀ k : Nat, 0 ≤ cntF s k ∧ cntF s k ≤ k
  | 0 => by simp [cntF]
  | k + 1 => by
    have := cntF_bd s k
    have := bitI_or s k
    simp only [cntF]
    omega
theorem and_one (x : Int) : bits .and .i64 x 1 = x % 2 := by
  have h1 : (BitVec.ofInt 64 x).toNat &&& 1 = (BitVec.ofInt 64 x).toNat % 2 := Nat.and_one_is_mod _
  show IntKind.i64.wrap ((BitVec.ofInt 64 x &&& BitVec.ofInt 64 1).toNat : Int) = _
  rw [BitVec.toNat_and, show (BitVec.ofInt 64 1).toNat = 1 from rfl, h1, BitVec.toNat_ofInt]
  have h2 : ((x % ((2 ^ 64 : Nat) : Int)).toNat % 2 : Nat) = (x % 2).toNat := by omega
  rw [h2]
  rcases (show x % 2 = 0 ∨ x % 2 = 1 by omega) with h | h <;> rw [h] <;> rfl
theorem bit_eq (s : Int) (k : Nat) (hk : k < 7) : bits .and .i64 (s / 2 ^ min (IntKind.u64.wrap (k : Int)).toNat 64) 1 = bitI s k := by
  rw [and_one, IntKind.wrap_u64, show min ((k : Int) % 18446744073709551616).toNat 64 = k by omega]
  rfl
theorem bit_low (s : Int) (K i : Nat) : ((lowN s K / 2 ^ i % 2 : Nat) : Int) = if i < K then bitI s i else 0 := by
  have hp : ∀ n : Nat, (0 : Int) < 2 ^ n := fun n => Int.pow_pos (by decide)
  have h0 : 0 ≤ s % 2 ^ K := Int.emod_nonneg _ (Int.ne_of_gt (hp K))
  have hc : ((lowN s K : Nat) : Int) = s % 2 ^ K := by unfold lowN; omega
  have hcast : ((lowN s K / 2 ^ i % 2 : Nat) : Int) = s % 2 ^ K / 2 ^ i % 2 := by
    rw [Int.natCast_emod, Int.natCast_ediv, hc]
    simp
  rw [hcast]
  split
  · next h =>
    unfold bitI
    have e1 : (2 : Int) ^ K = 2 ^ i * (2 * 2 ^ (K - i - 1)) := by
      rw [← Int.pow_succ', ← Int.pow_add]
      congr 1
      omega
    have e2 : s = s % 2 ^ K + 2 ^ i * (2 * 2 ^ (K - i - 1) * (s / 2 ^ K)) := by
      have := Int.emod_add_mul_ediv s (2 ^ K)
      rw [← Int.mul_assoc, ← e1]
      omega
    have e3 : s / 2 ^ i = s % 2 ^ K / 2 ^ i + 2 * 2 ^ (K - i - 1) * (s / 2 ^ K) := by
      conv => lhs; rw [e2]
      rw [Int.add_mul_ediv_left _ _ (Int.ne_of_gt (hp i))]
    rw [e3, Int.mul_assoc, Int.add_mul_emod_self_left]
  · next h =>
    have h1 : s % 2 ^ K < 2 ^ K := Int.emod_lt_of_pos _ (hp K)
    have h2 : (2 : Int) ^ K ≤ 2 ^ i := by
      have : (2 : Nat) ^ K ≤ 2 ^ i := Nat.pow_le_pow_right (by decide) (by omega)
      exact_mod_cast this
    rw [Int.ediv_eq_zero_of_lt h0 (by omega)]
    rfl
theorem cnt_eq (s : Int) (K : Nat) (hK : K ≤ 7) : (onesN (lowN s K) : Int) = cntF s K := by
  have h : K = 0 ∨ K = 1 ∨ K = 2 ∨ K = 3 ∨ K = 4 ∨ K = 5 ∨ K = 6 ∨ K = 7 := by omega
  have e : onesN (lowN s K) = lowN s K / 2 ^ 0 % 2 + lowN s K / 2 ^ 1 % 2 + lowN s K / 2 ^ 2 % 2 + lowN s K / 2 ^ 3 % 2 + lowN s K / 2 ^ 4 % 2 + lowN s K / 2 ^ 5 % 2 + lowN s K / 2 ^ 6 % 2 := by
    simp only [onesN, List.range, List.range.loop, List.foldl, Nat.zero_add]
  rw [e]
  simp only [Int.natCast_add, bit_low]
  rcases h with rfl | rfl | rfl | rfl | rfl | rfl | rfl | rfl <;> simp [cntF]
end Go.Proofs.Ytflfpfaebndefaa
