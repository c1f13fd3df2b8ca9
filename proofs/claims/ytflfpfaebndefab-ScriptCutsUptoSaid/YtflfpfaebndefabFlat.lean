/- Words: kinds whose cells say all (flat kinds); rows of the call's own, as blocks. No claim of its own; no condition. -/
import Derived.Test.YtflfpfaebndefabWordsB
import Derived.Test.YtflfpfaebndefabCopy
namespace Go.Proofs.Ytflfpfaebndefab
open Go.ChangeShapes Go.WideShapes Go.ChangeAt Go.RowKit
set_option linter.unusedVariables false
namespace Kd
variable {α β : Type}
/-- What the cells are says all: no memory behind them. -/
def Flat (d : Kd α) : Prop := ∀ (B B' : Nat) (w w' : World) (x : α) (cs : List Value), d.K B w x cs → d.K B' w' x cs
theorem flat_int : Flat Kd.int := fun _ _ _ _ _ _ h => h
theorem flat_u8 : Flat Kd.u8 := fun _ _ _ _ _ _ h => h
theorem flat_bool : Flat Kd.bool := fun _ _ _ _ _ _ h => h
theorem flat_str : Flat Kd.str := fun _ _ _ _ _ _ h => h
theorem flat_pair {a : Kd α} {b : Kd β} (ha : a.Flat) (hb : b.Flat) : (a.pair b).Flat := by
  rintro B B' w w' x cs ⟨c0, c1, rfl, h0, h1⟩
  exact ⟨c0, c1, rfl, ha _ _ _ _ _ _ h0, hb _ _ _ _ _ _ h1⟩
theorem flat_iso {a : Kd α} {f : β → α} (ha : a.Flat) : (a.iso f).Flat := fun _ _ _ _ _ _ h => ha _ _ _ _ _ _ h
theorem Reps.flat {d : Kd α} (hf : d.Flat) {B B' : Nat} {w w' : World} {xs : List α} {cs : List Value} (h : Reps d B w xs cs) : Reps d B' w' xs cs := by
  induction h with
  | nil => exact .nil
  | cons hc _ ih => exact .cons (hf _ _ _ _ _ _ hc) ih
theorem row_flat {d : Kd α} (hf : d.Flat) {e : TypeId} {B B' : Nat} {w : World} {A : Option Addr} {xs : List α} (h : d.Row e B w A xs) (hB : w.heap.size ≤ B') : d.Row e B' w A xs := by
  intro hne
  obtain ⟨ad, rfl, hb, hx⟩ := h hne
  refine ⟨ad, rfl, ⟨hb.1, .inl (by have := hb.1; omega)⟩, fun i x hi => ?_⟩
  obtain ⟨cs, hK, hc⟩ := hx i x hi
  exact ⟨cs, hf _ _ _ _ _ _ hK, hc⟩
theorem own_flat {d : Kd α} (hf : d.Flat) {e : TypeId} {B B' base base' : Nat} {w : World} {v : Value} {xs : List α} (h : d.Own e B w base v xs) (hb : base' ≤ base) : d.Own e B' w base' v xs := by
  obtain ⟨cs, ho, hr⟩ := h
  refine ⟨cs, ⟨ho.1, ?_⟩, hr.flat hf⟩
  rcases ho.2 with h | ⟨g, cap, cur, h1, h2, h3⟩
  · exact .inl h
  · exact .inr ⟨g, cap, cur, h1, Nat.le_trans hb h2, h3⟩
/-- A row of the call's own that is not empty, as its block. -/
theorem own_form {d : Kd α} {e : TypeId} {B base : Nat} {w : World} {v : Value} {xs : List α} (h : d.Own e B w base v xs) (hne : xs ≠ []) :
    ∃ g c cs Z, v = .slice (some ⟨g, 0, none⟩) xs.length c ∧ base ≤ g ∧ w.heap[g]? = some (.cells (cs ++ Z).toArray e (0, 0)) ∧ Reps d B w xs cs ∧ xs.length ≤ c ∧ c ≤ maxLen ∧ (cs ++ Z).length = c * d.sz := by
  obtain ⟨cs, ho, hr⟩ := h
  rcases ho.2 with ⟨_, h⟩ | ⟨g, cap, cur, h1, h2, h3, h4, h5, h6, h7⟩
  · exact absurd (List.eq_nil_of_length_eq_zero h) hne
  · have e1 : cs ++ cur.toList.drop (xs.length * d.sz) = cur.toList := by rw [← h7]; exact List.take_append_drop _ _
    exact ⟨g, cap, cs, cur.toList.drop (xs.length * d.sz), h1, h2, by rw [e1]; exact h3, hr, h4, h5, by rw [e1]; simpa using h6⟩
theorem own_of_form {d : Kd α} {e : TypeId} {B base g n c : Nat} {w : World} {xs : List α} {cs Z : List Value} (hb : w.heap[g]? = some (.cells (cs ++ Z).toArray e (0, 0))) (hr : Reps d B w xs cs) (hg : base ≤ g) (hn : n = xs.length) (hc : n ≤ c) (hm : c ≤ maxLen)
    (hz : (cs ++ Z).length = c * d.sz) : d.Own e B w base (.slice (some ⟨g, 0, none⟩) n c) xs := by
  subst hn
  refine ⟨cs, ⟨hr.len, .inr ⟨g, c, (cs ++ Z).toArray, rfl, hg, hb, hc, hm, by simpa using hz, ?_⟩⟩, hr⟩
  rw [← hr.len]
  simp
/-- 'make([]T, 0)' and '[]T{}': a row of nothing in a block of its own. -/
theorem own_empty {d : Kd α} {e : TypeId} {B base : Nat} {w : World} (hb : base ≤ w.heap.size) : d.Own e B (w.alloc (.cells #[] e)) base (.slice (some ⟨w.heap.size, 0, none⟩) 0 0) [] :=
  ⟨[], World.ownsRow_made w #[] 0 hb (by simp [maxLen]) (by simp), .nil⟩
end Kd
theorem set_blockZ {w : World} {G : Nat} {cs Z : List Value} {e : TypeId} (h : w.heap[G]? = some (.cells (cs ++ Z).toArray e (0, 0))) (j : Nat) (hj : j < cs.length) (u : Value) : (w.setCell ⟨G, j, none⟩ u).heap[G]? = some (.cells (cs.set j u ++ Z).toArray e (0, 0)) := by
  rw [heap_setCell_same w G j (cs ++ Z).toArray e u h]
  simp [List.set_append_left _ _ hj]
end Go.Proofs.Ytflfpfaebndefab
