/- Package octets: Get. No claim of its own; no condition. -/
import Derived.Test.YtflfpfaebndefabSmall
import Derived.Test.YtflfpfaebndefabFlat
import Derived.Laws.Bits64b
namespace Go.Proofs.Ytflfpfaebndefab
open Go.ChangeShapes Go.WideShapes Go.ChangeAt Go.RowKit
set_option linter.unusedVariables false
set_option linter.unusedSimpArgs false
/-- What octets are as a number of 64 bits. -/
def getU (l : List UInt8) : Nat := l.foldl (fun u c => u * 256 % 18446744073709551616 + c.toNat) 0
theorem u8_at {e : TypeId} {B : Nat} {w : World} {A : Option Addr} {xs : List UInt8} (h : Kd.u8.Row e B w A xs) {i : Nat} {x : UInt8} (hx : xs[i]? = some x) : ∃ ad, A = some ad ∧ w.cell? (ad.add i) = some (.int .u8 (x.toNat : Int)) := by
  obtain ⟨ad, cs, h1, _, hK, hc⟩ := Kd.row_at h hx
  obtain rfl : cs = [.int .u8 (x.toNat : Int)] := hK
  refine ⟨ad, h1, ?_⟩
  have := hc 0 _ rfl
  have e1 : Kd.u8.sz = 1 := rfl
  rw [e1] at this
  simpa using this
theorem get_step {l : List UInt8} {k : Nat} {x : UInt8} (h : l[k]? = some x) : getU (l.take (k + 1)) = getU (l.take k) * 256 % 18446744073709551616 + x.toNat := by
  unfold getU
  rw [List.take_add_one, h, List.foldl_append]
  rfl
theorem mod_256 (u : Nat) : u * 256 % 18446744073709551616 = u % 72057594037927936 * 256 := Nat.mul_mod_mul_right 256 u 72057594037927936
theorem getU_lt (l : List UInt8) : getU l < 18446744073709551616 := by
  have key : ∀ (l : List UInt8) (u : Nat), u < 18446744073709551616 → l.foldl (fun u c => u * 256 % 18446744073709551616 + c.toNat) u < 18446744073709551616 := by
    intro l
    induction l with
    | nil => intro u h; exact h
    | cons c l ih =>
      intro u h
      refine ih _ ?_
      show u * 256 % 18446744073709551616 + c.toNat < 18446744073709551616
      have := c.toNat_lt
      have h2 := mod_256 u
      have h3 : u % 72057594037927936 < 72057594037927936 := Nat.mod_lt _ (by decide)
      omega
  exact key l 0 (by decide)
theorem or_256 (u : Nat) (x : UInt8) (hu : u < 18446744073709551616) : bits .or .u64 (IntKind.u64.wrap ((u : Int) * 256)) (IntKind.u64.wrap (x.toNat : Int)) = ((u * 256 % 18446744073709551616 + x.toNat : Nat) : Int) := by
  have hx := x.toNat_lt
  have e1 : IntKind.u64.wrap ((u : Int) * 256) = ((u * 256 % 18446744073709551616 : Nat) : Int) := by
    simp [IntKind.wrap, IntKind.bits, IntKind.signed]
  have e2 : IntKind.u64.wrap (x.toNat : Int) = (x.toNat : Int) := by
    simp [IntKind.wrap, IntKind.bits, IntKind.signed]; omega
  have h2 := mod_256 u
  have h3 : u % 72057594037927936 < 72057594037927936 := Nat.mod_lt _ (by decide)
  rw [e1, e2, bits_or_u64_nat _ _ (by omega) (by omega), h2]
  have h4 := Nat.two_pow_add_eq_or_of_lt (i := 8) (b := x.toNat) (by omega) (u % 72057594037927936)
  rw [show (2 : Nat) ^ 8 = 256 from rfl, Nat.mul_comm] at h4
  rw [h4]
theorem and_62 (u : Nat) (hu : u < 18446744073709551616) : wrap64 (bits .and .u64 (u : Int) 4611686018427387903) = ((u % 4611686018427387904 : Nat) : Int) := by
  have e := bits_and_u64_nat u 4611686018427387903 hu (by decide)
  rw [show ((4611686018427387903 : Nat) : Int) = 4611686018427387903 from rfl] at e
  rw [e, show (4611686018427387903 : Nat) = 2 ^ 62 - 1 from rfl, Nat.and_two_pow_sub_one_eq_mod, show (2 : Nat) ^ 62 = 4611686018427387904 from rfl]
  have h3 : u % 4611686018427387904 < 4611686018427387904 := Nat.mod_lt _ (by decide)
  generalize u % 4611686018427387904 = v at *
  unfold wrap64
  omega
set_option maxHeartbeats 1600000 in
set_option maxRecDepth 100000 in
theorem get_calls (l : List UInt8) (A : Option Addr) (n c : Nat) (w : World) (B : Nat) (hn : n = l.length) (hl : l.length ≤ 1048576) (hr : Kd.u8.Row 5 B w A l) :
    Calls Try.prog 66 #[.slice A n c] w fun e w' => e = .returned (.int .i64 ((getU l % 4611686018427387904 : Nat) : Int)) ∧ Below w.heap.size w w' := by
  subst hn
  go_enter Try.func66, Try.ntmps66
  go_wp2_with fail
  go_loopw [3, 8] (fun uv kv w' => ∃ k : Nat, k ≤ l.length ∧ kv = .int .i64 k ∧ uv = .int .u64 ((getU (l.take k) : Nat) : Int) ∧ Below w.heap.size w w') (fun _ kv _ => l.length - (intOf kv).toNat)
  case atStart => exact ⟨0, by omega, rfl, rfl, Below.refl _ _⟩
  case round =>
    obtain ⟨k, h1, rfl, rfl, bel⟩ := hrel
    by_cases h : k < l.length
    · obtain ⟨x, hx⟩ : ∃ x, l[k]? = some x := ⟨_, List.getElem?_eq_getElem h⟩
      obtain ⟨ad, rfl, e0⟩ := u8_at (Kd.row_below bel hr) hx
      have hs := get_step hx
      have hu := getU_lt (l.take k)
      have hkI : (k : Int) < (l.length : Int) := by omega
      generalize getU (l.take k) = u at *
      have HS := Lib.hid hs
      clear hs hx
      have ho := or_256 u x hu
      have HO := Lib.hid ho
      clear ho
      go_wp2_with fail
      go_roundw
      case rel => exact ⟨k + 1, by omega, by go_num, by rw [HO.out, HS.out], bel⟩
      case measure => simp [intOf]; omega
    · have hk : k = l.length := by omega
      subst hk
      rw [List.take_of_length_le (Nat.le_refl _)]
      have hu := getU_lt l
      obtain ⟨u, hu2⟩ : ∃ u, getU l = u := ⟨_, rfl⟩
      rw [hu2] at hu ⊢
      have HU := Lib.hid hu2
      clear hu2
      have hnI : ¬ ((l.length : Int) < (l.length : Int)) := by omega
      have ha := and_62 u hu
      have HA := Lib.hid ha
      clear ha
      go_wp2_with fail
      go_ret
      exact ⟨by rw [HU.out]; first | rw [← HA.out]; rfl | (rw [← Int.natCast_emod_ofNat]; rfl) | (have := HA.out; rw [show ((u : Int) % 4611686018427387904) = ((u % 4611686018427387904 : Nat) : Int) by omega, ← this]; rfl), bel⟩
end Go.Proofs.Ytflfpfaebndefab
