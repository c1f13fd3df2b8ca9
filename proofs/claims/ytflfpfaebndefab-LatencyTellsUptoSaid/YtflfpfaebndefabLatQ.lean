/- The buckets' plain law. No claim of its own; no condition. -/
import Derived.Test.YtflfpfaebndefabLat2
namespace Go.Proofs.Ytflfpfaebndefab
open Go.ChangeShapes Go.WideShapes Go.ChangeAt Go.RowKit
theorem wrap_pow {j : Nat} (h : j < 7) : wrap64 ((2 : Int) ^ j) = ((2 ^ j : Nat) : Int) := by
  have : j = 0 ∨ j = 1 ∨ j = 2 ∨ j = 3 ∨ j = 4 ∨ j = 5 ∨ j = 6 := by omega
  rcases this with rfl | rfl | rfl | rfl | rfl | rfl | rfl <;> simp [wrap64]
theorem pow_le {j c n : Nat} (h : j < c) (hn : 2 ^ (c - 1) ≤ n) : 2 ^ j ≤ n := Nat.le_trans (Nat.pow_le_pow_right (by decide) (by omega)) hn
theorem at_spec (n : Nat) : (atF n < 7 → n < 2 ^ atF n) ∧ ∀ j, j < atF n → 2 ^ j ≤ n := by
  unfold atF
  split
  · exact ⟨fun _ => by simpa using ‹n < 1›, fun j hj => by omega⟩
  split
  · exact ⟨fun _ => by simpa using ‹n < 2›, fun j hj => pow_le hj (by simp; omega)⟩
  split
  · exact ⟨fun _ => by simpa using ‹n < 4›, fun j hj => pow_le hj (by simp; omega)⟩
  split
  · exact ⟨fun _ => by simpa using ‹n < 8›, fun j hj => pow_le hj (by simp; omega)⟩
  split
  · exact ⟨fun _ => by simpa using ‹n < 16›, fun j hj => pow_le hj (by simp; omega)⟩
  split
  · exact ⟨fun _ => by simpa using ‹n < 32›, fun j hj => pow_le hj (by simp; omega)⟩
  split
  · exact ⟨fun _ => by simpa using ‹n < 64›, fun j hj => pow_le hj (by simp; omega)⟩
  · exact ⟨fun h => absurd h (by decide), fun j hj => pow_le hj (by simp; omega)⟩
theorem at_go {n j : Nat} (h : j < atF n) : j < 7 ∧ 2 ^ j ≤ n := ⟨by have := atF_le n; omega, (at_spec n).2 j h⟩
theorem at_end {n : Nat} (h : atF n < 7) : n < 2 ^ atF n := (at_spec n).1 h
end Go.Proofs.Ytflfpfaebndefab
