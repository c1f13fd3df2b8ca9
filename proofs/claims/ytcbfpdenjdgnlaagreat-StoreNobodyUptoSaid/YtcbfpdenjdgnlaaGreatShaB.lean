/- Package sha: words of 32 bits, and what turns them. No claim of its own; no condition. -/
import Derived.Test.YtcbfpdenjdgnlaaGreatWordsB
import Derived.Test.YtcbfpdenjdgnlaaGreatFlat
import Derived.Laws.BitsAllLaws
import Derived.Laws.Bits64b
namespace Go.Proofs.YtcbfpdenjdgnlaaGreat
open Go.ChangeShapes Go.WideShapes Go.ChangeAt Go.RowKit
set_option linter.unusedVariables false
set_option linter.unusedSimpArgs false
/-- A word as the model has it. -/
def tn (x : UInt32) : Int := (x.toNat : Int)
theorem tn_bd (x : UInt32) : 0 ≤ tn x ∧ tn x < 4294967296 := by have := x.toNat_lt; unfold tn; omega
theorem tn_inj {x y : UInt32} (h : tn x = tn y) : x = y := UInt32.toNat_inj.1 (by unfold tn at h; omega)
theorem tn_of (n : Nat) : tn (UInt32.ofNat n) = ((n % 4294967296 : Nat) : Int) := by unfold tn; simp
theorem wrap_nat (n : Nat) : IntKind.u32.wrap (n : Int) = ((n % 4294967296 : Nat) : Int) := by
  simp [IntKind.wrap, IntKind.bits, IntKind.signed]
theorem wrap_tn (x : UInt32) : IntKind.u32.wrap (tn x) = tn x := by
  unfold tn
  rw [wrap_nat, Nat.mod_eq_of_lt x.toNat_lt]
theorem of_tn (x : UInt32) : BitVec.ofInt 32 (tn x) = x.toBitVec := by
  apply BitVec.eq_of_toNat_eq
  have := x.toNat_lt
  unfold tn
  simp
theorem b_xor (x y : UInt32) : bits .xor .u32 (tn x) (tn y) = tn (x ^^^ y) := by
  show IntKind.u32.wrap ((BitVec.ofInt 32 (tn x) ^^^ BitVec.ofInt 32 (tn y)).toNat : Int) = _
  rw [of_tn, of_tn]
  exact wrap_tn (x ^^^ y)
theorem b_and (x y : UInt32) : bits .and .u32 (tn x) (tn y) = tn (x &&& y) := by
  show IntKind.u32.wrap ((BitVec.ofInt 32 (tn x) &&& BitVec.ofInt 32 (tn y)).toNat : Int) = _
  rw [of_tn, of_tn]
  exact wrap_tn (x &&& y)
theorem b_or (x y : UInt32) : bits .or .u32 (tn x) (tn y) = tn (x ||| y) := by
  show IntKind.u32.wrap ((BitVec.ofInt 32 (tn x) ||| BitVec.ofInt 32 (tn y)).toNat : Int) = _
  rw [of_tn, of_tn]
  exact wrap_tn (x ||| y)
theorem b_add' (x y : UInt32) : (tn x + tn y) % 4294967296 = tn (x + y) := by
  have h : tn (x + y) = (((x.toNat + y.toNat) % 2 ^ 32 : Nat) : Int) := by unfold tn; rw [UInt32.toNat_add]
  rw [h]
  unfold tn
  omega
theorem b_not (x : UInt32) : bits .xor .u32 4294967295 (tn x) = tn (~~~x) := by
  have h := b_xor 4294967295 x
  rw [show tn 4294967295 = 4294967295 from rfl] at h
  rw [h]
  congr 1
theorem b_add (x y : UInt32) : IntKind.u32.wrap (tn x + tn y) = tn (x + y) := by
  unfold tn
  rw [← Int.natCast_add, wrap_nat, UInt32.toNat_add]
/-- Turned right. -/
def rotr (x : UInt32) (n : Nat) : UInt32 := UInt32.ofNat (x.toNat / 2 ^ n) ||| UInt32.ofNat (x.toNat * 2 ^ (32 - n))
def shr (x : UInt32) (n : Nat) : UInt32 := UInt32.ofNat (x.toNat / 2 ^ n)
theorem tn_div (x : UInt32) (n : Nat) : tn x / 2 ^ n = tn (shr x n) := by
  have h := x.toNat_lt
  unfold shr
  rw [tn_of]
  unfold tn
  have h2 : x.toNat / 2 ^ n ≤ x.toNat := Nat.div_le_self _ _
  rw [Nat.mod_eq_of_lt (by omega)]
  simp
theorem tn_shl (x : UInt32) (n : Nat) : IntKind.u32.wrap (tn x * 2 ^ n) = tn (UInt32.ofNat (x.toNat * 2 ^ n)) := by
  rw [tn_of, ← wrap_nat]
  unfold tn
  simp
theorem tn_shl' (x : UInt32) (n : Nat) : tn x * 2 ^ n % 4294967296 = tn (UInt32.ofNat (x.toNat * 2 ^ n)) := by
  rw [tn_of]
  unfold tn
  rw [show (x.toNat : Int) * 2 ^ n = ((x.toNat * 2 ^ n : Nat) : Int) by simp]
  omega
theorem rotr_eq (x : UInt32) (n : Nat) : bits .or .u32 (tn x / 2 ^ n) (IntKind.u32.wrap (tn x * 2 ^ (32 - n))) = tn (rotr x n) := by
  rw [tn_div, tn_shl, b_or]
  rfl
theorem rotr_eq' (x : UInt32) (n : Nat) : bits .or .u32 (IntKind.u32.wrap (tn x * 2 ^ (32 - n))) (tn x / 2 ^ n) = tn (rotr x n) := by
  rw [tn_div, tn_shl, b_or, UInt32.or_comm]
  rfl
theorem neg_and (n : Nat) (h1 : 1 ≤ n) (h2 : n ≤ 31) : bits .and .u64 (IntKind.u64.wrap (-(n : Int))) 31 = ((32 - n : Nat) : Int) := by
  have key : ∀ n : Fin 32, 1 ≤ n.val → bits .and .u64 (IntKind.u64.wrap (-(n.val : Int))) 31 = ((32 - n.val : Nat) : Int) := by decide +kernel
  exact key ⟨n, by omega⟩ h1
theorem rotate_calls (x : UInt32) (n : Nat) (h1 : 1 ≤ n) (h2 : n ≤ 31) (w : World) :
    Calls Tryz.prog 281 #[.int .u32 (tn x), .int .i64 (-(n : Int))] w fun e w' => e = .returned (.int .u32 (tn (rotr x n))) ∧ w = w' := by
  have ha := neg_and n h1 h2
  have hn : (0 : Int) ≤ ((32 - n : Nat) : Int) := by omega
  have hn2 : (0 : Int) ≤ 32 - ((32 - n : Nat) : Int) := by omega
  go_enter Tryz.func281, Tryz.ntmps281
  go_wp2_with fail
  go_ret
  refine ⟨ret_int ?_, rfl⟩
  show bits .or .u32 (tn x * 2 ^ (32 - n) % 4294967296) (tn x / 2 ^ (32 - (32 - n))) = _
  rw [show 32 - (32 - n) = n by omega, tn_shl', tn_div, b_or, UInt32.or_comm]
  rfl
theorem right_calls (x : UInt32) (n : Nat) (h1 : 1 ≤ n) (h2 : n ≤ 31) (w : World) :
    Calls Tryz.prog 267 #[.int .u32 (tn x), .int .i64 (n : Int)] w fun e w' => e = .returned (.int .u32 (tn (rotr x n))) ∧ w = w' := by
  go_enter Tryz.func267, Tryz.ntmps267
  go_wp2_with (go_at_call 281; refine (rotate_calls x n h1 h2 _).mono ?_; rintro e w' ⟨rfl, rfl⟩)
  go_ret
  exact ⟨rfl, rfl⟩
theorem turn_calls (x : UInt32) (n : Nat) (h1 : 1 ≤ n) (h2 : n ≤ 31) (w : World) :
    Calls Tryz.prog 161 #[.int .u32 (tn x), .int .u64 (n : Int)] w fun e w' => e = .returned (.int .u32 (tn (rotr x n))) ∧ w = w' := by
  have hn2 : (0 : Int) ≤ 32 - (n : Int) := by omega
  go_enter Tryz.func161, Tryz.ntmps161
  go_wp2_with fail
  go_ret
  refine ⟨ret_int ?_, rfl⟩
  show bits .or .u32 (tn x / 2 ^ n) (tn x * 2 ^ (32 - n) % 4294967296) = _
  rw [tn_shl', tn_div, b_or]
  rfl
end Go.Proofs.YtcbfpdenjdgnlaaGreat
/- Package sha: a word out of octets. No claim of its own; no condition. -/
namespace Go.Proofs.YtcbfpdenjdgnlaaGreat
open Go.ChangeShapes Go.WideShapes Go.ChangeAt Go.RowKit
set_option linter.unusedVariables false
set_option linter.unusedSimpArgs false
theorem u8_at {e : TypeId} {B : Nat} {w : World} {A : Option Addr} {xs : List UInt8} (h : Kd.u8.Row e B w A xs) {i : Nat} {x : UInt8} (hx : xs[i]? = some x) : ∃ ad, A = some ad ∧ w.cell? (ad.add i) = some (.int .u8 (x.toNat : Int)) := by
  obtain ⟨ad, cs, h1, _, hK, hc⟩ := Kd.row_at h hx
  obtain rfl : cs = [.int .u8 (x.toNat : Int)] := hK
  refine ⟨ad, h1, ?_⟩
  have := hc 0 _ rfl
  have e1 : Kd.u8.sz = 1 := rfl
  rw [e1] at this
  simpa using this
/-- An octet as a word. -/
def w8 (x : UInt8) : UInt32 := UInt32.ofNat x.toNat
theorem tn_w8 (x : UInt8) : tn (w8 x) = (x.toNat : Int) := by
  have := x.toNat_lt
  unfold w8
  rw [tn_of]
  omega
/-- So many of a word's octets, from a place on. -/
def beG (b : List UInt8) (a : Nat) : Nat → UInt32
  | 0 => 0
  | k + 1 => UInt32.ofNat ((beG b a k).toNat * 256) ||| w8 (b.getD (a + k) 0)
def beW (b : List UInt8) (a : Nat) : UInt32 := beG b a 4
theorem shl8 (x : UInt32) : tn x * 256 % 4294967296 = tn (UInt32.ofNat (x.toNat * 256)) := tn_shl' x 8
theorem w8_mod (x : UInt8) : (x.toNat : Int) % 4294967296 = tn (w8 x) := by
  have := x.toNat_lt
  rw [tn_w8]
  omega
theorem word_step (u : UInt32) (x : UInt8) : bits .or .u32 (tn u * 256 % 4294967296) ((x.toNat : Int) % 4294967296) = tn (UInt32.ofNat (u.toNat * 256) ||| w8 x) := by
  rw [shl8, w8_mod, b_or]
set_option maxHeartbeats 1600000 in
set_option maxRecDepth 100000 in
theorem word_calls (b : List UInt8) (A : Option Addr) (n c a : Nat) (w : World) (B : Nat) (hn : n = b.length) (ha : a + 4 ≤ b.length) (hl : b.length ≤ 4194304) (hr : Kd.u8.Row 5 B w A b) :
    Calls Tryz.prog 280 #[.slice A n c, .int .i64 (a : Int)] w fun e w' => e = .returned (.int .u32 (tn (beW b a))) ∧ Below w.heap.size w w' := by
  subst hn
  go_enter Tryz.func280, Tryz.ntmps280
  go_wp2_with fail
  go_loopw [5, 7] (fun wv kv w' => ∃ k : Nat, k ≤ 4 ∧ kv = .int .i64 k ∧ wv = .int .u32 (tn (beG b a k)) ∧ Below w.heap.size w w') (fun _ kv _ => 4 - (intOf kv).toNat)
  case atStart => exact ⟨0, by omega, rfl, rfl, Below.refl _ _⟩
  case round =>
    obtain ⟨k, h1, rfl, rfl, bel⟩ := hrel
    by_cases h : k < 4
    · obtain ⟨x, hx⟩ : ∃ x, b[a + k]? = some x := ⟨_, List.getElem?_eq_getElem (by omega)⟩
      obtain ⟨ad, rfl, e0⟩ := u8_at (Kd.row_below bel hr) hx
      have hkI : (k : Int) < 4 := by omega
      have hg : (a : Int) < (b.length : Int) - (k : Int) := by omega
      have hi : (a : Int) + (k : Int) < (b.length : Int) := by omega
      have hd : beG b a (k + 1) = UInt32.ofNat ((beG b a k).toNat * 256) ||| w8 x := by
        show _ ||| w8 (b.getD (a + k) 0) = _
        rw [List.getD_eq_getElem?_getD, hx]
        rfl
      have HD := Lib.hid hd
      generalize beG b a k = u at *
      clear hd hx
      go_wp2_with fail
      go_roundw
      case rel => exact ⟨k + 1, by omega, by go_num, by rw [HD.out, word_step], bel⟩
      case measure => simp [intOf]; omega
    · have hk : k = 4 := by omega
      subst hk
      have hkI : ¬ (((4 : Nat) : Int) < 4) := by omega
      go_wp2_with fail
      go_ret
      exact ⟨rfl, bel⟩
end Go.Proofs.YtcbfpdenjdgnlaaGreat
