/- Package mootplain: Ints. No claim of its own; no condition. -/
import Derived.Deep.DeepCutAuto
import Derived.Deep.QuietTactic
import Derived.BigQuiet
import Derived.LoopN
import Derived.IntWalk
import Derived.WalkKit
import Derived.Lib.Hide
import Derived.Test.YtflfpfaebndefabSmall
namespace Go.Proofs.Ytflfpfaebndefab
open Go.ChangeShapes Go.WideShapes Go.ChangeAt Go.RowKit
set_option linter.unusedVariables false
set_option linter.unusedSimpArgs false

theorem int_at {B e : Nat} {w : World} {A : Option Addr} {xs : List Int} (h : Kd.Row Kd.int e B w A xs) {i : Nat} {x : Int} (hx : xs[i]? = some x) : ∃ ad, A = some ad ∧ w.cell? (ad.add i) = some (.int .i64 x) ∧ IntOk x := by
  obtain ⟨ad, cs, rfl, _, hK, hc⟩ := Kd.row_at h hx
  obtain ⟨rfl, hi⟩ := hK
  refine ⟨ad, rfl, ?_, hi⟩
  have := hc 0 _ rfl
  simpa [Kd.int] using this
theorem take_step {α : Type} {a b : List α} {k : Nat} {x : α} (ha : a[k]? = some x) (hb : b[k]? = some x) (h : a.take k = b.take k) : a.take (k + 1) = b.take (k + 1) := by
  rw [List.take_add_one, List.take_add_one, ha, hb, h]
theorem ne_of_at {α : Type} {a b : List α} {k : Nat} {x y : α} (ha : a[k]? = some x) (hb : b[k]? = some y) (h : x ≠ y) : a ≠ b := by
  rintro rfl
  rw [ha] at hb
  exact h (Option.some.inj hb)
set_option maxRecDepth 100000 in
theorem ints_calls (a b : List Int) (A A' : Option Addr) (n c n' c' : Nat) (w : World) (B B' : Nat) (ha : n = a.length) (hb : n' = b.length) (hl : a.length ≤ 1048576) (hra : Kd.int.Row 3 B w A a) (hrb : Kd.int.Row 3 B' w A' b) :
    Calls Try.prog 24 #[.slice A n c, .slice A' n' c'] w fun e w' => e = .returned (.bool (decide (a = b))) ∧ Below w.heap.size w w' := by
  subst ha hb
  by_cases hlen : a.length = b.length
  · have hlI : (a.length : Int) = (b.length : Int) := by omega
    go_enter Try.func24, Try.ntmps24
    go_wp2_with fail
    go_loopw [5] (fun kv w' => ∃ k : Nat, k ≤ a.length ∧ kv = .int .i64 k ∧ a.take k = b.take k ∧ Below w.heap.size w w') (fun kv _ => a.length - (intOf kv).toNat)
    case atStart => exact ⟨0, by omega, rfl, by simp, Below.refl _ _⟩
    case round =>
      obtain ⟨k, h1, rfl, h2, bel⟩ := hrel
      by_cases h : k < a.length
      · obtain ⟨x, hx⟩ : ∃ x, a[k]? = some x := ⟨_, List.getElem?_eq_getElem h⟩
        obtain ⟨y, hy⟩ : ∃ y, b[k]? = some y := ⟨_, List.getElem?_eq_getElem (by omega)⟩
        obtain ⟨ad, rfl, e1, _⟩ := int_at (Kd.row_below bel hra) hx
        obtain ⟨ad', rfl, e2, _⟩ := int_at (Kd.row_below bel hrb) hy
        have hi1 : (k : Int) < (a.length : Int) := by omega
        have hi2 : (k : Int) < (b.length : Int) := by omega
        by_cases hxy : x = y
        · have H2 := Lib.hid (take_step hx (hxy ▸ hy) h2)
          subst hxy
          clear h2 hx hy
          go_wp2_with fail
          go_quiet (fail)
          go_wp2_with fail
          go_roundw
          case rel => exact ⟨k + 1, by omega, by go_num, H2.out, bl_drewN bel _⟩
          case measure => simp [intOf]; omega
        · have hd : decide (a = b) = false := by simp [ne_of_at hx hy hxy]
          have HD := Lib.hid hd
          clear h2 hx hy hd
          go_wp2_with fail
          go_quiet (fail)
          go_wp2_with fail
          go_ret
          exact ⟨by rw [HD.out]; rfl, bl_drewN bel _⟩
      · have hk : k = a.length := by omega
        subst hk
        have hd : decide (a = b) = true := by
          rw [List.take_of_length_le (Nat.le_refl _), List.take_of_length_le (by omega)] at h2
          simp [h2]
        have HD := Lib.hid hd
        clear h2 hd
        go_wp2_with fail
        go_ret
        exact ⟨by rw [HD.out]; rfl, bel⟩
  · have hd : decide (a = b) = false := by
      simp; rintro rfl; exact hlen rfl
    have HD := Lib.hid hd
    have hlI : ¬ (a.length : Int) = (b.length : Int) := by omega
    clear hd
    go_enter Try.func24, Try.ntmps24
    go_wp2_with fail
    go_ret
    exact ⟨by rw [HD.out]; rfl, Below.refl _ _⟩
end Go.Proofs.Ytflfpfaebndefab
