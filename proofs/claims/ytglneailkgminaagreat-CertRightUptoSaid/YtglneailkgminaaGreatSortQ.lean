/- A row of structs, sorted: the row of the call's own ahead of slices.SortFunc and behind it. No claim of its own; no condition. -/
import Derived.Shelf.SlSortCmp.WholeK
import Derived.Test.YtglneailkgminaaGreatFlat
namespace Go.Proofs.YtglneailkgminaaGreat
open Go.RowKit Go.Sort
set_option linter.unusedVariables false
section
variable {α : Type} [Inhabited α] {enc : α → List Value} {k : Nat}
theorem flat_run (hk : ∀ x, (enc x).length = k) (h0 : 0 < k) : ∀ (l : List α) (t : Nat), t < l.length * k → (l.flatMap enc)[t]? = some ((enc l.toArray[t / k]!)[t % k]!)
  | [], t, h => by simp at h
  | x :: l, t, h => by
    rw [List.flatMap_cons]
    by_cases ht : t < k
    · rw [List.getElem?_append_left (by rw [hk]; exact ht), Nat.div_eq_of_lt ht, Nat.mod_eq_of_lt ht]
      have : (x :: l).toArray[0]! = x := by simp
      rw [this, List.getElem?_eq_getElem (by rw [hk]; exact ht), List.getElem!_eq_getElem?_getD, List.getElem?_eq_getElem (by rw [hk]; exact ht)]
      rfl
    · rw [List.getElem?_append_right (by rw [hk]; omega), hk, flat_run hk h0 l (t - k) (by rw [List.length_cons, Nat.add_mul, Nat.one_mul] at h; omega)]
      obtain ⟨u, rfl⟩ : ∃ u, t = u + k := ⟨t - k, by omega⟩
      rw [Nat.add_sub_cancel, Nat.add_div_right _ h0, Nat.add_mod_right]
      simp
omit [Inhabited α] in
theorem flat_len (hk : ∀ x, (enc x).length = k) : ∀ (l : List α), (l.flatMap enc).length = l.length * k
  | [] => by simp
  | x :: l => by rw [List.flatMap_cons, List.length_append, hk, flat_len hk l, List.length_cons, Nat.add_mul, Nat.one_mul, Nat.add_comm]
theorem holds_of_block (hk : ∀ x, (enc x).length = k) (h0 : 0 < k) {w : World} {G : Nat} {l : List α} {Z : List Value} {e : TypeId} (hb : w.heap[G]? = some (.cells (l.flatMap enc ++ Z).toArray e (0, 0))) : HoldsK enc k w G 0 l.toArray := by
  intro j hj
  rw [size_flatK, List.size_toArray] at hj
  have hf := flat_run hk h0 l j hj
  refine ⟨?_, frozen_of_row w G _ _ e hb⟩
  rw [Nat.zero_add]
  refine block_cell hb ?_
  rw [List.getElem?_toArray, List.getElem?_append_left (by rw [flat_len hk]; exact hj), hf]
  rw [get_flatK _ _ _ _ (by rw [List.size_toArray]; exact hj)]
  rfl
theorem block_of_sort (hk : ∀ x, (enc x).length = k) (h0 : 0 < k) {w : World} {G n : Nat} {l : List α} {d : Array α} {os : Array Obj} {Z : List Value} {e : TypeId} (hb : w.heap[G]? = some (.cells (l.flatMap enc ++ Z).toArray e (0, 0))) (hd : d.size = l.length) :
    (Go.Proofs.sortWorldK enc k w G 0 n d os).heap[G]? = some (.cells (d.toList.flatMap enc ++ Z).toArray e (0, 0)) := by
  have hlt := blk_lt hb
  unfold Go.Proofs.sortWorldK grow putRowK putRow mapBlock «Sort».ahead
  simp only
  rw [Array.getElem?_append_left (by simp; exact hlt), Array.getElem?_modify, if_pos rfl, hb]
  simp only [Option.map_some, onCells]
  congr 2
  refine Array.ext (by simp [putCells, flat_len hk, hd]) fun t h1 h2 => ?_
  simp only [putCells, Array.getElem_mapIdx, size_flatK, Nat.zero_add, Nat.zero_le, true_and, Nat.sub_zero, id]
  have hl1 : (l.flatMap enc).length = d.size * k := by rw [flat_len hk, hd]
  have hl2 : (d.toList.flatMap enc).length = d.size * k := by rw [flat_len hk, Array.length_toList]
  by_cases ht : t < d.size * k
  · rw [if_pos ht, get_flatK _ _ _ _ ht, List.getElem_toArray, List.getElem_append_left (by rw [hl2]; exact ht)]
    have hf := flat_run hk h0 d.toList t (by rw [Array.length_toList]; exact ht)
    rw [List.getElem?_eq_getElem (by rw [hl2]; exact ht)] at hf
    injection hf with hf
    rw [hf]
  · rw [if_neg ht, List.getElem_toArray, List.getElem_toArray, List.getElem_append_right (by rw [hl1]; omega), List.getElem_append_right (by rw [hl2]; omega)]
    simp only [hl1, hl2]
theorem grown_of_sort {w : World} {G n : Nat} {d : Array α} {os : Array Obj} : w.grownBy (Go.Proofs.sortWorldK enc k w G 0 n d os) (some G) := by
  unfold Go.Proofs.sortWorldK grow putRowK putRow mapBlock «Sort».ahead
  refine ⟨rfl, rfl, rfl, by simp, fun b hb hne => ?_⟩
  simp only
  rw [Array.getElem?_append_left (by simp; exact hb), Array.getElem?_modify, if_neg (fun e => hne (by rw [e]))]
end
theorem perm_of_permIn {α : Type} [Inhabited α] {l : List α} {d : Array α} (h : PermIn 0 l.toArray.size l.toArray d) : d.toList.Perm l := by
  obtain ⟨h1, _, h2⟩ := h
  rw [show d.extract 0 l.toArray.size = d by rw [← h1]; simp, show l.toArray.extract 0 l.toArray.size = l.toArray by simp] at h2
  simpa using h2
theorem pairs_of_sorted {α : Type} [Inhabited α] {lt : α → α → Bool} {d : Array α} (h : SortedIn lt 0 d.size d) : d.toList.Pairwise (fun a b => lt b a = false) := by
  rw [List.pairwise_iff_getElem]
  intro i j hi hj hij
  have := h i j (Nat.zero_le _) hij (by simpa using hj)
  rwa [getElem!_pos d i (by simpa using hi), getElem!_pos d j (by simpa using hj)] at this
end Go.Proofs.YtglneailkgminaaGreat
