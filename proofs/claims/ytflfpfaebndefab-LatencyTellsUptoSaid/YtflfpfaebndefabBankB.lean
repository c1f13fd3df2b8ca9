/- Package bank: Genesis, Total; package mootref14: SameAccounts. No claim of its own; no condition. -/
import Derived.Test.YtflfpfaebndefabApplyB
import Derived.Test.YtflfpfaebndefabWordsB
namespace Go.Proofs.Ytflfpfaebndefab
open Go.ChangeShapes Go.WideShapes Go.ChangeAt Go.RowKit
set_option linter.unusedVariables false
set_option linter.unusedSimpArgs false

set_option maxRecDepth 100000 in
theorem same_calls (a b : List Account) (A A' : Option Addr) (n c n' c' : Nat) (w : World) (B B' : Nat) (ha : n = a.length) (hb : n' = b.length) (hl : a.length ≤ 1048576) (hra : kAccount.Row 69 B w A a) (hrb : kAccount.Row 69 B' w A' b) :
    Calls Try.prog 14 #[.slice A n c, .slice A' n' c'] w fun e w' => e = .returned (.bool (decide (a = b))) ∧ Below w.heap.size w w' := by
  subst ha hb
  by_cases hlen : a.length = b.length
  · have hlI : (a.length : Int) = (b.length : Int) := by omega
    go_enter Try.func14, Try.ntmps14
    go_wp2_with fail
    go_loopw [5] (fun kv w' => ∃ k : Nat, k ≤ a.length ∧ kv = .int .i64 k ∧ a.take k = b.take k ∧ Below w.heap.size w w') (fun kv _ => a.length - (intOf kv).toNat)
    case atStart => exact ⟨0, by omega, rfl, by simp, Below.refl _ _⟩
    case round =>
      obtain ⟨k, h1, rfl, h2, bel⟩ := hrel
      by_cases h : k < a.length
      · obtain ⟨x, hx⟩ : ∃ x, a[k]? = some x := ⟨_, List.getElem?_eq_getElem h⟩
        obtain ⟨y, hy⟩ : ∃ y, b[k]? = some y := ⟨_, List.getElem?_eq_getElem (by omega)⟩
        obtain ⟨ad, rfl, e1, e2, _⟩ := kAccount_at (Kd.row_below bel hra) hx
        obtain ⟨ad', rfl, e3, e4, _⟩ := kAccount_at (Kd.row_below bel hrb) hy
        have hi1 : (k : Int) < (a.length : Int) := by omega
        have hi2 : (k : Int) < (b.length : Int) := by omega
        have he : ∀ w', (binOp .neq 69 (.agg #[.int .i64 x.balance, .int .i64 x.nonce]) (.agg #[.int .i64 y.balance, .int .i64 y.nonce])).run Try.prog w' = .ok (.bool (!decide (x = y))) w' := fun w' => neqAccount x y w'
        by_cases hxy : x = y
        · have H2 := Lib.hid (take_step hx (hxy ▸ hy) h2)
          have hd : decide (x = y) = true := by simp [hxy]
          rw [hd] at he
          clear h2 hx hy hxy hd
          go_wp2_with fail
          go_quiet (fail)
          go_wp2_with fail
          go_roundw
          case rel => exact ⟨k + 1, by omega, by go_num, H2.out, bl_drewN bel _⟩
          case measure => simp [intOf]; omega
        · have hd : decide (a = b) = false := by simp [ne_of_at hx hy hxy]
          have hd2 : decide (x = y) = false := by simp [hxy]
          rw [hd2] at he
          have HD := Lib.hid hd
          clear h2 hx hy hd hd2
          go_wp2_with fail
          go_quiet (fail)
          go_wp2_with fail
          go_ret
          exact ⟨by rw [HD.out]; rfl, bl_drewN bel _⟩
      · have hk : k = a.length := by omega
        subst hk
        have hd : decide (a = b) = true := by
          rw [List.take_of_length_le (Nat.le_refl _), List.take_of_length_le (by omega)] at h2
          simp [h2]
        have HD := Lib.hid hd
        clear h2 hd
        go_wp2_with fail
        go_ret
        exact ⟨by rw [HD.out]; rfl, bel⟩
  · have hd : decide (a = b) = false := by
      simp; rintro rfl; exact hlen rfl
    have HD := Lib.hid hd
    have hlI : ¬ (a.length : Int) = (b.length : Int) := by omega
    clear hd
    go_enter Try.func14, Try.ntmps14
    go_wp2_with fail
    go_ret
    exact ⟨by rw [HD.out]; rfl, Below.refl _ _⟩
def totalF (l : List Account) : Int := (l.map (·.balance)).sum
def Small (l : List Account) : Prop := ∀ a ∈ l, 0 ≤ a.balance ∧ a.balance ≤ 1000
theorem total_bd : ∀ {l : List Account}, Small l → 0 ≤ totalF l ∧ totalF l ≤ 1000 * l.length
  | [], _ => by simp [totalF]
  | a :: l, h => by
    have h1 := h a (by simp)
    have h2 := total_bd (l := l) fun x hx => h x (by simp [hx])
    simp only [totalF, List.map_cons, List.sum_cons, List.length_cons] at *
    omega
theorem total_step {l : List Account} {k : Nat} {a : Account} (h : l[k]? = some a) : totalF (l.take (k + 1)) = totalF (l.take k) + a.balance := by
  rw [List.take_add_one, h]
  simp [totalF]
set_option maxRecDepth 100000 in
theorem total_calls (l : List Account) (A : Option Addr) (n c : Nat) (w : World) (B : Nat) (hn : n = l.length) (hl : l.length ≤ 1048576) (hr : kAccount.Row 69 B w A l) (hs : Small l) :
    Calls Try.prog 40 #[.slice A n c] w fun e w' => e = .returned (.int .i64 (totalF l)) ∧ Below w.heap.size w w' := by
  subst hn
  go_enter Try.func40, Try.ntmps40
  go_wp2_with fail
  go_loopw [3, 8] (fun nv kv w' => ∃ k : Nat, k ≤ l.length ∧ kv = .int .i64 k ∧ nv = .int .i64 (totalF (l.take k)) ∧ Below w.heap.size w w') (fun _ kv _ => l.length - (intOf kv).toNat)
  case atStart => exact ⟨0, by omega, rfl, by simp [totalF], Below.refl _ _⟩
  case round =>
    obtain ⟨k, h1, rfl, rfl, bel⟩ := hrel
    by_cases h : k < l.length
    · obtain ⟨x, hx⟩ : ∃ x, l[k]? = some x := ⟨_, List.getElem?_eq_getElem h⟩
      obtain ⟨ad, rfl, e1, e2, _⟩ := kAccount_at (Kd.row_below bel hr) hx
      have hst := total_step hx
      have hb1 := total_bd (l := l.take k) fun y hy => hs y (List.mem_of_mem_take hy)
      have hb2 := hs x (List.mem_of_getElem? hx)
      have hlt : (l.take k).length ≤ 1048576 := by simp; omega
      have HS := Lib.hid hst
      clear hst hx
      go_wp2_with fail
      go_roundw
      case rel => exact ⟨k + 1, by omega, by go_num, by rw [HS.out], bl_alloc bel _⟩
      case measure => simp [intOf]; omega
    · have hk : k = l.length := by omega
      subst hk
      go_wp2_with fail
      go_ret
      exact ⟨by simp, bel⟩
theorem mul64_14 (w : World) : Calls Try.prog 73 #[.int .u64 1, .int .u64 4] w fun e w' => e = .returned (.tuple #[.int .u64 0, .int .u64 4]) ∧ w = w' := by
  go_enter Try.func73, Try.ntmps73
  go_wp2
  refine bodyPost_ret (v := .tuple #[.int .u64 0, .int .u64 4]) (by simp [results, Try.results73, go_sem]; decide +kernel) rfl ⟨rfl, rfl⟩
theorem mul_14 (w : World) : Calls Try.prog 69 #[.int .u64 1, .int .u64 4] w fun e w' => e = .returned (.tuple #[.int .u64 0, .int .u64 4]) ∧ w = w' := by
  go_enter Try.func69, Try.ntmps69
  go_wp2_with (go_at_call 73; refine (mul64_14 _).mono ?_; rintro e w' ⟨rfl, rfl⟩)
  refine bodyPost_ret (v := .tuple #[.int .u64 0, .int .u64 4]) (by simp [results, Try.results69, go_sem]) rfl ⟨rfl, rfl⟩
end Go.Proofs.Ytflfpfaebndefab
