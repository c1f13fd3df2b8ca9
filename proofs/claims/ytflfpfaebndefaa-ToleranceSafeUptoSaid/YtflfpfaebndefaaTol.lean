/- Package tolerance: the iterator 'pairs'. No claim of its own; no condition. -/
import Derived.RangeFuncNested
import Derived.RangeFuncBound
import Derived.RangeFuncCalls
import Derived.RangeFuncLeaves
import Derived.Shelf.Abstract
import Derived.Shelf.RegionOpen
import Derived.WalkKit
import Derived.OwnWalkIn
import Derived.TacticsInMore
import Derived.LoopNIn
import Derived.LoopIn
import Derived.Test.YtflfpfaebndefaaRuleB
namespace Go.Proofs.Ytflfpfaebndefaa
open Go.RowKit Go.Shelf
set_option linter.unusedVariables false
set_option linter.unusedSimpArgs false
attribute [local go_sem] Oper.semAt_some

/-- The numbers that go with one quorum, and those of all quorums below. -/
def rowL (m i j : Nat) : List (Nat × Nat) := (List.range j).map fun t => (i + 1, i + 1 + t)
def pairsL (m : Nat) : Nat → List (Nat × Nat)
  | 0 => []
  | i + 1 => pairsL m i ++ rowL m i (m - i)
theorem rowL_succ (m i j : Nat) : rowL m i (j + 1) = rowL m i j ++ [(i + 1, i + 1 + j)] := by simp [rowL, List.range_succ]
theorem rowL_pre (m i : Nat) {j k : Nat} (h : j ≤ k) : rowL m i j <+: rowL m i k := by
  induction k with
  | zero => have : j = 0 := by omega
            subst this; exact List.prefix_rfl
  | succ k ih =>
    by_cases e : j = k + 1
    · subst e; exact List.prefix_rfl
    · rw [rowL_succ]; exact (ih (by omega)).trans (List.prefix_append _ _)
theorem pairsL_pre (m : Nat) {i k : Nat} (h : i ≤ k) : pairsL m i <+: pairsL m k := by
  induction k with
  | zero => have : i = 0 := by omega
            subst this; exact List.prefix_rfl
  | succ k ih =>
    by_cases e : i = k + 1
    · subst e; exact List.prefix_rfl
    · rw [pairsL]; exact (ih (by omega)).trans (List.prefix_append _ _)
theorem mid_pre (m : Nat) {i j : Nat} (hi : i < m) (hj : j ≤ m - i) : pairsL m i ++ rowL m i j <+: pairsL m m := by
  refine List.IsPrefix.trans ?_ (pairsL_pre m (i := i + 1) (k := m) (by omega))
  rw [pairsL]
  exact (List.prefix_append_right_inj _).2 (rowL_pre m i hj)

set_option maxRecDepth 100000 in
set_option maxHeartbeats 2000000 in
theorem pairs1_in (F : Fence) (n : Nat) (h48 : F.fn 48) (hro : F.round = none) (hn : 1 ≤ n) (l Bm n₀ m : Nat) (hm : m ≤ 7) (hb : Bm < n₀) (J Jx : List (Nat × Nat) → World → Prop)
    (hY : ∀ pre x W, J pre W → pre.length < (pairsL m m).length + 1 → YieldAt F (n - 1) Try.prog l #[.int .i64 (x.1 : Int), .int .i64 (x.2 : Int)] W fun e W' =>
      (e = .returned (.bool true) ∧ J (pre ++ [x]) W' ∧ Below n₀ W W') ∨ (e = .returned (.bool false) ∧ Jx (pre ++ [x]) W'))
    (W : World) (hBm : W.cell? ⟨Bm, 0, none⟩ = some (.int .i64 (m : Int))) (h0 : J [] W) :
    CallsIn F n Try.prog 48 #[.func (.yield l) #[] #[], .pointer (some ⟨Bm, 0, none⟩)] W fun e W' => (∃ v, e = .returned v) ∧
      ((∃ ys, ys = pairsL m m ∧ J ys W') ∨ (∃ pre, pre <+: pairsL m m ∧ Jx pre W')) := by
  refine callsIn_of_wp Try.func48 rfl h48 ?_ hro
  simp only [Try.ntmps48, List.size_toArray, List.length_cons, List.length_nil, Nat.reduceAdd, Nat.reduceSub, Array.replicate_succ, Array.replicate_zero, List.push_toArray, List.append_toArray, List.nil_append, List.cons_append]
  gi_wp2
  gi_loopw [3] (fun q wr => ∃ i : Nat, i ≤ m ∧ q = .int .i64 ((i : Int) + 1) ∧ J (pairsL m i) wr ∧ Below n₀ W wr)
    (fun q _ => m + 1 - (intOf q).toNat)
  case atStart => exact ⟨0, Nat.zero_le _, by go_num, h0, Below.refl _ _⟩
  case round =>
    obtain ⟨i, hi, rfl, hJs, hnx⟩ := hrel
    have hcx : wr.cell? ⟨Bm, 0, none⟩ = some (.int .i64 (m : Int)) := (hnx.cell (p := ⟨Bm, 0, none⟩) hb).trans hBm
    by_cases hlt : i < m
    · have hle : (i : Int) + 1 ≤ m := by omega
      gi_wp2
      obtain ⟨wo, hwo⟩ : ∃ wo : World, wo = wr := ⟨_, rfl⟩
      subst hwo
      gi_loopw [4] (fun q wi => ∃ j : Nat, j ≤ m - i ∧ q = .int .i64 ((i : Int) + 1 + j) ∧ J (pairsL m i ++ rowL m i j) wi ∧ Below n₀ W wi)
        (fun q _ => m + 1 - (intOf q).toNat)
      case atStart => exact ⟨0, Nat.zero_le _, by go_num, by simpa [rowL] using hJs, hnx⟩
      case round =>
        obtain ⟨j, hj, rfl, hJi, hni⟩ := hrel
        have hci := (hni.cell (p := ⟨Bm, 0, none⟩) hb).trans hBm
        by_cases hlj : j < m - i
        · obtain ⟨fn, tmps, assign, body, hy, hR⟩ := hY _ (i + 1, i + 1 + j) _ hJi (by have := (mid_pre m hlt hj).length_le; omega)
          dsimp only at hy
          have en1 : ((i + 1 : Nat) : Int) = (i : Int) + 1 := by omega
          have en2 : ((i + 1 + j : Nat) : Int) = (i : Int) + 1 + j := by omega
          rw [en1, en2] at hy
          clear en1 en2
          have hlt2 : (i : Int) + 1 + j ≤ m := by omega
          gi_wp2
          refine hR.mono ?_
          rintro e W3 (⟨rfl, hJ3, hk3⟩ | ⟨rfl, hJx3⟩)
          · gi_wp2
            go_roundw
            case rel => exact ⟨j + 1, by omega, by go_num, by rw [rowL_succ, ← List.append_assoc]; exact hJ3, hni.trans hk3⟩
            case measure => simp [intOf]; omega
          · gi_wp2
            refine bodyPost_ret (results_none rfl _ _ _) rfl ?_
            refine ⟨⟨_, rfl⟩, .inr ⟨_, ?_, hJx3⟩⟩
            have := mid_pre m hlt (j := j + 1) (by omega)
            rwa [rowL_succ, ← List.append_assoc] at this
        · have hlj2 : j = m - i := by omega
          subst hlj2
          have hge : ¬ (i : Int) + 1 + (m - i : Nat) ≤ m := by omega
          gi_wp2
          go_roundw
          case rel => exact ⟨i + 1, by omega, by go_num, hJi, hni⟩
          case measure => simp [intOf]; omega
    · have hi2 : i = m := by omega
      subst hi2
      gi_wp2
      go_end0
      exact ⟨⟨_, rfl⟩, .inl ⟨_, rfl, hJs⟩⟩

theorem pairs_stops (F : Fence) (n : Nat) (h48 : F.fn 48) (hro : F.round = none) (hn : 1 ≤ n) (Bm n₀ m : Nat) (hm : m ≤ 7) (w : World) (hBm : Bm < n₀) (hn₀ : n₀ ≤ w.heap.size)
    (hc : w.cell? ⟨Bm, 0, none⟩ = some (.int .i64 (m : Int))) :
    SeqStopsK F n Try.prog 48 #[.pointer (some ⟨Bm, 0, none⟩)] (fun x : Nat × Nat => #[Value.int .i64 (x.1 : Int), Value.int .i64 (x.2 : Int)]) (Below n₀) (fun ys => ys = pairsL m m) (fun pre => pre <+: pairsL m m) ((pairsL m m).length + 1) w := fun l J Jx W hW _ _ hY h0 =>
  pairs1_in F n h48 hro hn l Bm n₀ m hm hBm J Jx hY W ((hW.cell (p := ⟨Bm, 0, none⟩) (show Bm < _ by omega)).trans hc) h0

theorem pairs_in (F : Fence) (n : Nat) (h41 : F.fn 41) (hro : F.round = none) (m : Int) (w : World) :
    CallsIn F n Try.prog 41 #[.int .i64 m] w fun e w' => e = .returned (.func (.func 48) #[] #[.pointer (some ⟨w.heap.size, 0, none⟩)]) ∧ w' = w.alloc (.cells #[.int .i64 m] 3) := by
  refine callsIn_of_wp Try.func41 rfl h41 ?_ hro
  simp only [Try.ntmps41, List.size_toArray, List.length_cons, List.length_nil, Nat.reduceAdd, Nat.reduceSub, Array.replicate_succ, Array.replicate_zero, List.push_toArray, List.append_toArray, List.nil_append, List.cons_append]
  gi_wp2
  go_ret
  exact ⟨rfl, rfl⟩
end Go.Proofs.Ytflfpfaebndefaa
