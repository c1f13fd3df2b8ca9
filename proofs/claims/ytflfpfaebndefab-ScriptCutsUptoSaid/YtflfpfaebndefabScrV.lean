/- Package mootlaw26: the walks of ScriptBack and ScriptCuts. No claim of its own; no condition. -/
import Derived.Test.YtflfpfaebndefabRdC
import Derived.Test.YtflfpfaebndefabScrP
import Derived.Laws.IdiomStrings
import Derived.Laws.BytesArg
namespace Go.Proofs.Ytflfpfaebndefab
open Go.ChangeShapes Go.WideShapes Go.ChangeAt Go.RowKit Go.Shelf
set_option linter.unusedVariables false
set_option linter.unusedSimpArgs false
theorem conv_row {B : Nat} {w : World} {A : Option Addr} {l : List UInt8} (c n : Nat) (hn : n = l.length) (h : Kd.u8.Row 5 B w A l) : (convert 58 9 (.slice A n c)).run Try.prog w = .ok (.string ⟨l.toArray⟩) w := by
  subst hn
  cases A with
  | none =>
    have hl : l = [] := by
      cases l with
      | nil => rfl
      | cons x l => obtain ⟨ad, h1, _⟩ := h (by simp); cases h1
    subst hl
    exact run_convert_bytes_nil w 58 5 Try.underlying58 Try.underlying5 _ _ 9 Try.underlying9
  | some a =>
    refine run_convert_bytes_back w 58 9 5 a c l Try.underlying58 Try.underlying5 Try.underlying9 fun j hj => ?_
    obtain ⟨ad, h1, h2⟩ := u8_at h (List.getElem?_eq_getElem hj)
    cases h1
    exact h2
set_option maxHeartbeats 3200000 in
set_option maxRecDepth 100000 in
theorem same_calls (l : List Step) (A A2 : Option Addr) (n n2 c c2 : Nat) (w : World) (B B2 : Nat) (hn : n = l.length) (hn2 : n2 = l.length) (hl : l.length ≤ 1048576) (hr : kStep.Row 66 B w A l) (hr2 : kStep.Row 66 B2 w A2 l) :
    Calls Try.prog 30 #[.slice A n c, .slice A2 n2 c2] w fun e w' => e = .returned (.bool true) ∧ Below w.heap.size w w' := by
  subst hn
  subst hn2
  go_enter Try.func30, Try.ntmps30
  go_wp2_with fail
  go_loopw [5] (fun kv w' => ∃ k : Nat, k ≤ l.length ∧ kv = .int .i64 k ∧ Below w.heap.size w w') (fun kv _ => l.length - (intOf kv).toNat)
  case atStart => exact ⟨0, by omega, rfl, Below.refl _ _⟩
  case round =>
    obtain ⟨k, h1, rfl, bel⟩ := hrel
    by_cases h : k < l.length
    · obtain ⟨x, hx⟩ : ∃ x, l[k]? = some x := ⟨_, List.getElem?_eq_getElem h⟩
      obtain ⟨ad, rfl, A5, c5, e0, e1, e2, e3, e4, e5, ik, ia, ib, ic, idd, hl5, hm5, hr5⟩ := kStep_at (Kd.row_below bel hr) hx
      obtain ⟨ad2, rfl, A6, c6, f0, f1, f2, f3, f4, f5, _, _, _, _, _, hl6, hm6, hr6⟩ := kStep_at (Kd.row_below bel hr2) hx
      have hkI : (k : Int) < (l.length : Int) := by omega
      have hk0 : (0 : Int) ≤ (k : Int) := by omega
      have v5 := conv_row c5 x.data.length rfl hr5
      have v6 := conv_row c6 x.data.length rfl hr6
      have u5 : ∀ nq, (convert 58 9 (.slice A5 x.data.length c5)).run Try.prog (wr.drewN nq) = .ok (.string ⟨x.data.toArray⟩) (wr.drewN nq) := fun nq => conv_row c5 x.data.length rfl hr5
      have u6 : ∀ nq, (convert 58 9 (.slice A6 x.data.length c6)).run Try.prog (wr.drewN nq) = .ok (.string ⟨x.data.toArray⟩) (wr.drewN nq) := fun nq => conv_row c6 x.data.length rfl hr6
      clear hr5 hr6 hx ik ia ib ic idd
      go_upto_region 6 with fail
      go_quiet (fail)
      go_wp2_with fail
      go_roundw
      case rel => exact ⟨k + 1, by omega, by go_num, bl_drewN bel nq⟩
      case measure => simp [intOf]; omega
    · have hk : k = l.length := by omega
      subst hk
      have hnI : ¬ ((l.length : Int) < (l.length : Int)) := by omega
      go_wp2_with fail
      go_ret
      exact ⟨rfl, bel⟩
end Go.Proofs.Ytflfpfaebndefab
