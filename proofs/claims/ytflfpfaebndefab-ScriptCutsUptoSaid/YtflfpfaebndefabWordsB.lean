/- Words: rows that were just built. No claim of its own; no condition. -/
import Derived.Test.YtflfpfaebndefabWords
namespace Go.Proofs.Ytflfpfaebndefab
open Go.ChangeShapes Go.WideShapes Go.ChangeAt Go.RowKit
set_option linter.unusedVariables false
theorem Kd.row_fresh {α : Type} {d : Kd α} {e : TypeId} {B : Nat} {w W : World} {xs : List α} {cs : Array Value} (hW : W = w.alloc (.cells cs e)) (h : Kd.Reps d B W xs cs.toList) :
    d.Row e B W (some ⟨w.heap.size, 0, none⟩) xs := by
  intro hne
  have hb : W.heap[w.heap.size]? = some (.cells cs e) := by rw [hW]; exact alloc_new w _
  refine ⟨_, rfl, ⟨blk_lt hb, .inr ⟨_, _, _, hb, List.mem_cons_self⟩⟩, fun i x hi => ?_⟩
  obtain ⟨c, h1, h2⟩ := h.get hi
  refine ⟨c, h1, fun j u hu => ?_⟩
  have h3 := h2 j u hu
  have h4 : (⟨w.heap.size, 0, none⟩ : Addr).add (i * d.sz + j) = ⟨w.heap.size, i * d.sz + j, none⟩ := by
    unfold Addr.add
    split
    · rename_i h0; rw [h0]
    · simp
  rw [h4]
  show World.cell? W _ = _
  simp only [World.cell?, hb]
  simpa using h3
theorem Kd.row_fresh1 {α : Type} {d : Kd α} {e : TypeId} {B : Nat} {w : World} {x : α} {cs : Array Value} (h : d.K B (w.alloc (.cells cs e)) x cs.toList) :
    d.Row e B (w.alloc (.cells cs e)) (some ⟨w.heap.size, 0, none⟩) [x] := Kd.row_fresh rfl (Kd.Reps.one h)
end Go.Proofs.Ytflfpfaebndefab
