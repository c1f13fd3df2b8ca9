/- Package latency: Pair, Within, Buckets; mootplain.Ints; mootlaw41.plus. No claim of its own; no condition. -/
import Derived.Test.YtflfpfaebndefabLat
import Derived.Test.YtflfpfaebndefabLib1
import Derived.Shelf.LaysM
import Derived.Lib.Strings
import Derived.Lib.Slices
import Derived.Lib.Small
import Derived.Lib.Walk
import Derived.Lib.BitFns
import Derived.Lib.Tables
namespace Go.Proofs.Ytflfpfaebndefab
open Go.ChangeShapes Go.WideShapes Go.ChangeAt Go.RowKit
set_option linter.unusedVariables false
set_option linter.unusedSimpArgs false
set_option maxHeartbeats 4000000 in
set_option maxRecDepth 100000 in
theorem len64_calls (x : Int) (w : World) (h0 : 0 ≤ x) (h1 : x ≤ 1099511627776) :
    Calls Try.prog 58 #[.int .u64 x] w fun e w' => e = .returned (.int .i64 (Lib.bitLen x.toNat)) ∧ w' = w := by
  have hx : ∀ (w : World) (i : Int), 0 ≤ i → i < 256 → (Instr.index 9 (.string Lib.len8tab) (.int .u8 i)).run Try.prog w = .ok (.int .u8 (Lib.len8 i)) w := fun w i a b => Lib.run_index_len8tab w 9 .u8 i Try.underlying9 a (by omega)
  have hcase : (x < 256) ∨ (256 ≤ x ∧ x < 65536) ∨ (65536 ≤ x ∧ x < 16777216) ∨ (16777216 ≤ x ∧ x < 4294967296) ∨ (4294967296 ≤ x ∧ x < 1099511627776) ∨ (1099511627776 ≤ x ∧ x < 1099511627777) := by omega
  rcases hcase with hc | hc | hc | hc | hc | hc
  · have e0 : 0 ≤ x := by omega
    have e1 : x < 256 := by omega
    go_enter Try.func58, Try.ntmps58
    go_wp2_with fail
    go_ret
    refine ⟨ret_int ?_, rfl⟩
    rw [Lib.len8_of (x) (by omega) (by omega)]
    have l := Lib.bitLen_le8' (x) (by omega) (by omega)
    unfold wrap64
    omega
  · have e0 : 0 ≤ x / 256 := by omega
    have e1 : x / 256 < 256 := by omega
    go_enter Try.func58, Try.ntmps58
    go_wp2_with fail
    go_ret
    refine ⟨ret_int ?_, rfl⟩
    rw [Lib.len8_of (x / 256) (by omega) (by omega)]
    have l := Lib.bitLen_le8' (x / 256) (by omega) (by omega)
    have e : (x / 256).toNat = x.toNat / 256 := by omega
    have s := Lib.bitLen_shift8 x.toNat (by omega) (by omega)
    rw [e] at l ⊢
    unfold wrap64
    omega
  · have e0 : 0 ≤ x / 65536 := by omega
    have e1 : x / 65536 < 256 := by omega
    go_enter Try.func58, Try.ntmps58
    go_wp2_with fail
    go_ret
    refine ⟨ret_int ?_, rfl⟩
    rw [Lib.len8_of (x / 65536) (by omega) (by omega)]
    have l := Lib.bitLen_le8' (x / 65536) (by omega) (by omega)
    have e : (x / 65536).toNat = x.toNat / 65536 := by omega
    have s := Lib.bitLen_shift16 x.toNat (by omega) (by omega)
    rw [e] at l ⊢
    unfold wrap64
    omega
  · have e0 : 0 ≤ x / 65536 / 256 := by omega
    have e1 : x / 65536 / 256 < 256 := by omega
    have e2 : 256 ≤ x / 65536 := by omega
    go_enter Try.func58, Try.ntmps58
    go_wp2_with fail
    go_ret
    refine ⟨ret_int ?_, rfl⟩
    rw [Lib.len8_of (x / 65536 / 256) (by omega) (by omega)]
    have l := Lib.bitLen_le8' (x / 65536 / 256) (by omega) (by omega)
    have e : (x / 65536 / 256).toNat = x.toNat / 16777216 := by omega
    have s := Lib.bitLen_shift24 x.toNat (by omega) (by omega)
    rw [e] at l ⊢
    unfold wrap64
    omega
  · have e0 : 0 ≤ x / 4294967296 := by omega
    have e1 : x / 4294967296 < 256 := by omega
    have e2 : x / 4294967296 < 65536 := by omega
    go_enter Try.func58, Try.ntmps58
    go_wp2_with fail
    go_ret
    refine ⟨ret_int ?_, rfl⟩
    rw [Lib.len8_of (x / 4294967296) (by omega) (by omega)]
    have l := Lib.bitLen_le8' (x / 4294967296) (by omega) (by omega)
    have e : (x / 4294967296).toNat = x.toNat / 4294967296 := by omega
    have s := Lib.bitLen_shift32 x.toNat (by omega) (by omega)
    rw [e] at l ⊢
    unfold wrap64
    omega
  · have e0 : 0 ≤ x / 4294967296 / 256 := by omega
    have e1 : x / 4294967296 / 256 < 256 := by omega
    have e2 : x / 4294967296 < 65536 := by omega
    have e3 : 256 ≤ x / 4294967296 := by omega
    go_enter Try.func58, Try.ntmps58
    go_wp2_with fail
    go_ret
    refine ⟨ret_int ?_, rfl⟩
    rw [Lib.len8_of (x / 4294967296 / 256) (by omega) (by omega)]
    have l := Lib.bitLen_le8' (x / 4294967296 / 256) (by omega) (by omega)
    have e : (x / 4294967296 / 256).toNat = x.toNat / 1099511627776 := by omega
    have s := Lib.bitLen_shift40 x.toNat (by omega) (by omega)
    rw [e] at l ⊢
    unfold wrap64
    omega
theorem len_calls (x : Int) (w : World) (h0 : 0 ≤ x) (h1 : x ≤ 1099511627776) :
    Calls Try.prog 47 #[.int .u64 x] w fun e w' => e = .returned (.int .i64 (Lib.bitLen x.toNat)) ∧ w' = w := by
  go_enter Try.func47, Try.ntmps47
  go_wp2_with (go_at_call 58; refine (len64_calls x _ h0 h1).mono ?_; rintro e w' ⟨rfl, rfl⟩)
  go_ret
  exact ⟨rfl, rfl⟩
/-- The bucket of so many ticks. -/
def atF (n : Nat) : Nat := if n < 1 then 0 else if n < 2 then 1 else if n < 4 then 2 else if n < 8 then 3 else if n < 16 then 4 else if n < 32 then 5 else if n < 64 then 6 else 7
theorem atF_le (n : Nat) : atF n ≤ 7 := by unfold atF; repeat' split <;> try omega
theorem bitLen_at (n : Nat) : min (Lib.bitLen n) 7 = atF n := by
  by_cases h : n < 64
  · have : ∀ m : Fin 64, min (Lib.bitLen m.val) 7 = atF m.val := by decide
    exact this ⟨n, h⟩
  · have h1 : atF n = 7 := by unfold atF; repeat' split <;> try omega
    rw [h1]
    unfold Lib.bitLen
    have h2 : Lib.bitLenAux 64 n = 7 + Lib.bitLenAux 57 (n / 2 / 2 / 2 / 2 / 2 / 2 / 2) := by
      simp only [Lib.bitLenAux]
      rw [if_neg (by omega), if_neg (by omega), if_neg (by omega), if_neg (by omega), if_neg (by omega), if_neg (by omega), if_neg (by omega)]
      omega
    rw [h2]
    omega
def isPair (f t : Int) (x : Trace) : Bool := x.frm == f && x.to == t
theorem pair1_calls (f t : Int) (B1 B2 : Nat) (x : Trace) (W : World) (h1 : W.cell? ⟨B1, 0, none⟩ = some (.int .i64 f)) (h2 : W.cell? ⟨B2, 0, none⟩ = some (.int .i64 t)) :
    Calls Try.prog 45 #[.agg #[.int .i64 x.frm, .int .i64 x.to, .int .i64 x.sent, .int .i64 x.got], .pointer (some ⟨B1, 0, none⟩), .pointer (some ⟨B2, 0, none⟩)] W fun e W' => e = .returned (.bool (!isPair f t x)) ∧ Below W.heap.size W W' := by
  have hb1 := World.block_lt_of_cell? _ _ h1
  have hb2 := World.block_lt_of_cell? _ _ h2
  by_cases p1 : x.frm = f
  · have d1 : (x.frm != f) = false := by simp [p1]
    have hf : (!isPair f t x) = (x.to != t) := by unfold isPair; simp only [p1, beq_self_eq_true, Bool.true_and]; rfl
    have HF := Lib.hid hf
    clear hf p1
    go_enter Try.func45, Try.ntmps45
    go_wp2_with fail
    go_ret
    exact ⟨by rw [HF.out]; rfl, bl_alloc (Below.refl _ _) _⟩
  · have d1 : (x.frm != f) = true := by simp [p1]
    have hf : (!isPair f t x) = true := by unfold isPair; simp [p1]
    have HF := Lib.hid hf
    clear hf p1
    go_enter Try.func45, Try.ntmps45
    go_wp2_with fail
    go_ret
    exact ⟨by rw [HF.out]; rfl, bl_alloc (Below.refl _ _) _⟩
end Go.Proofs.Ytflfpfaebndefab
