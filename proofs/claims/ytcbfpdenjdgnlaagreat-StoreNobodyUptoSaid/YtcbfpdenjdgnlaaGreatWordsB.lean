/- Small laws: bounds, max and min of two and of three. No claim of its own; no condition. -/
import Derived.WalkKit
import Derived.ProofKit
import Derived.OpenShut
import Derived.LoopTactic
import Derived.LoopN
import Derived.Lib.Hide
import Derived.Deep.DeepCutAuto
import Derived.Deep.CutBlock
import Derived.Deep.RegionHeld3
import Derived.Deep.QuietTactic
import Derived.BigQuiet
import Derived.IntWalk
import Derived.OwnWalk
import Derived.Laws.Cover1
import Derived.Test.YtcbfpdenjdgnlaaGreatTypes
import Derived.Test.YtcbfpdenjdgnlaaGreatWords
namespace Go.Proofs.YtcbfpdenjdgnlaaGreat
open Go.ChangeShapes Go.WideShapes Go.ChangeAt Go.RowKit
set_option linter.unusedVariables false
theorem ret_int {k : IntKind} {a b : Int} (h : a = b) : Ending.returned (.int k a) = .returned (.int k b) := by rw [h]
theorem int_bd {a : Int} (h : (Lit.int .i64 a).wf = true) : -9223372036854775808 ≤ a ∧ a ≤ 9223372036854775807 := by
  simpa [Lit.wf, IntKind.min, IntKind.max, IntKind.signed, IntKind.bits] using h
theorem run_max2 {P : Program} {w : World} (ts : Array TypeId) (t : TypeId) (k k' : IntKind) (x y : Int) : (Builtin.max_ ts t #[.int k x, .int k' y]).run P w = .ok (.int k (max x y)) w := by
  rw [run_max_int2]
  congr 2
  split <;> omega
theorem run_min2 {P : Program} {w : World} (ts : Array TypeId) (t : TypeId) (k k' : IntKind) (x y : Int) : (Builtin.min_ ts t #[.int k x, .int k' y]).run P w = .ok (.int k (min x y)) w := by
  simp [Builtin.min_, Builtin.min2]
  split <;> omega
end Go.Proofs.YtcbfpdenjdgnlaaGreat
/- Words: rows that were just built. No claim of its own; no condition. -/
namespace Go.Proofs.YtcbfpdenjdgnlaaGreat
open Go.ChangeShapes Go.WideShapes Go.ChangeAt Go.RowKit
set_option linter.unusedVariables false
theorem Kd.row_fresh {α : Type} {d : Kd α} {e : TypeId} {B : Nat} {w W : World} {xs : List α} {cs : Array Value} (hW : W = w.alloc (.cells cs e)) (h : Kd.Reps d B W xs cs.toList) :
    d.Row e B W (some ⟨w.heap.size, 0, none⟩) xs := by
  intro hne
  have hb : W.heap[w.heap.size]? = some (.cells cs e) := by rw [hW]; exact alloc_new w _
  refine ⟨_, rfl, ⟨blk_lt hb, .inr ⟨_, _, _, hb, List.mem_cons_self⟩⟩, fun i x hi => ?_⟩
  obtain ⟨c, h1, h2⟩ := h.get hi
  refine ⟨c, h1, fun j u hu => ?_⟩
  have h3 := h2 j u hu
  have h4 : (⟨w.heap.size, 0, none⟩ : Addr).add (i * d.sz + j) = ⟨w.heap.size, i * d.sz + j, none⟩ := by
    unfold Addr.add
    split
    · rename_i h0; rw [h0]
    · simp
  rw [h4]
  show World.cell? W _ = _
  simp only [World.cell?, hb]
  simpa using h3
theorem Kd.row_fresh1 {α : Type} {d : Kd α} {e : TypeId} {B : Nat} {w : World} {x : α} {cs : Array Value} (h : d.K B (w.alloc (.cells cs e)) x cs.toList) :
    d.Row e B (w.alloc (.cells cs e)) (some ⟨w.heap.size, 0, none⟩) [x] := Kd.row_fresh rfl (Kd.Reps.one h)
end Go.Proofs.YtcbfpdenjdgnlaaGreat
