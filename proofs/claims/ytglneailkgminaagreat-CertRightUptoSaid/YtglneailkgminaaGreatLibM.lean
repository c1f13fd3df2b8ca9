/- Library functions at this program's structs: slices.Clone, IndexFunc, DeleteFunc. No claim of its own; no condition. -/
import Derived.Test.YtglneailkgminaaGreatMarkP
import Derived.Test.YtglneailkgminaaGreatTypes
import Derived.Test.YtglneailkgminaaGreatFlat
import Derived.Lib.SliceRun
import Derived.Shelf.Abstract
import Derived.Deep.MidRow
import Derived.WalkSpells
namespace Go.Proofs.YtglneailkgminaaGreat
open Go.ChangeShapes Go.WideShapes Go.ChangeAt Go.RowKit
set_option linter.unusedVariables false
set_option linter.unusedSimpArgs false
set_option linter.unnecessarySimpa false
theorem info_kMark : (Tryz.prog.info? 24).map (fun i => (i.zero, i.size, i.bytes)) = some (some (.agg #[.int .i64 0, .int .i64 0, .string ⟨#[]⟩]), 3, 32) := by kernel_rfl
theorem flat_kMark : kMark.Flat := Kd.flat_iso (Kd.flat_pair Kd.flat_int (Kd.flat_pair Kd.flat_int Kd.flat_str))
theorem size_kMark : (Tryz.prog.info? 24).map (·.size) = some 3 := by kernel_rfl
def encMark (x : Mark) : List Value := [.int .i64 x.view, .int .i64 x.height, .string x.block]
theorem zeroCells_mem {z : Array Value} {n : Nat} {v : Value} (h : v ∈ (Builtin.zeroCells z n).toList) (hz : 0 < z.size) : v ∈ z.toList := by
  simp only [Builtin.zeroCells, Array.toList_map, List.mem_map] at h
  obtain ⟨i, _, rfl⟩ := h
  have hlt : i % z.size < z.size := Nat.mod_lt _ hz
  rw [getElem!_pos z _ hlt]
  exact Array.getElem_mem_toList hlt
theorem run_clear_row {P : Program} (w : World) (t e ty : TypeId) (z : Value) (ht : P.underlying t = some (.slice e)) (hv : ∀ w, (zeroValue e).run P w = .ok z w) (h1 : ∀ v ∈ z.cells.toList, v.oneCell' = true) (g o n c : Nat) (e' : TypeId) (cur : Array Value)
    (hg : w.heap[g]? = some (.cells cur e' (0, 0))) (hn : 0 < n) (hz : 0 < z.cells.size) (hfit : o + n * z.cells.size ≤ cur.size) :
    (Builtin.clear_ #[t] ty #[.slice (some ⟨g, o, none⟩) n c]).run P w = .ok (.tuple #[]) (w.setRow g (cur.toList.take o ++ (Builtin.zeroCells z.cells n).toList ++ cur.toList.drop (o + (Builtin.zeroCells z.cells n).toList.length)).toArray) := by
  have hl : (Builtin.zeroCells z.cells n).toList.length = n * z.cells.size := by simp [size_zeroCells]
  have hst := run_storeCells_at P g o e' (Builtin.zeroCells z.cells n).toList 0 cur w hg (by rw [hl]; simpa using hfit) (fun v hv' => h1 v (zeroCells_mem hv' hz))
  simp only [Nat.add_zero] at hst
  obtain ⟨m, rfl⟩ : ∃ m, n = m + 1 := ⟨n - 1, by omega⟩
  simp [Builtin.clear_, run_underlying ht, hv, hst]
theorem set_blkL {w : World} {G : Nat} {cs : List Value} {e : TypeId} (h : w.heap[G]? = some (.cells cs.toArray e (0, 0))) (j : Nat) (u : Value) : (w.setCell ⟨G, j, none⟩ u).heap[G]? = some (.cells (cs.set j u).toArray e (0, 0)) := by
  rw [heap_setCell_same w G j cs.toArray e u h]
  simp
theorem cell_run {w : World} {G : Nat} {F M R : List Value} {e : TypeId} (hb : w.heap[G]? = some (.cells (F ++ M ++ R).toArray e (0, 0))) {k o : Nat} {u : Value} (hF : F.length = k) (ho : M[o]? = some u) : w.cell? ⟨G, k + o, none⟩ = some u := block_cell hb (by
  have hlt : o < M.length := (List.getElem?_eq_some_iff.1 ho).1
  rw [List.getElem?_toArray, List.getElem?_append_left (by rw [List.length_append]; omega), List.getElem?_append_right (by omega), ← hF, Nat.add_sub_cancel_left]
  exact ho)
theorem cell_offM {w : World} {G o : Nat} {v : Value} (h : w.cell? ⟨G, o, none⟩ = some v) (o' : Nat) (u : Value) (hne : o ≠ o') : (w.setCell ⟨G, o', none⟩ u).cell? ⟨G, o, none⟩ = some v := by
  rw [World.cell?_setCell_other _ _ _ _ (by intro e; injection e with _ e; exact hne e.symm)]
  exact h
theorem gr_below {a w w1 : World} {row : Option Nat} (h : a.grownBy w row) (k : Below w.heap.size w w1) : a.grownBy w1 row :=
  ⟨k.os.trans h.os, k.tape.trans h.tape, k.output.trans h.output, Nat.le_trans h.size k.size, fun i hi hne => (k.block i (Nat.lt_of_lt_of_le hi h.size)).trans (h.block i hi hne)⟩
theorem gr_set {a w : World} {G : Nat} (h : a.grownBy w (some G)) (j : Nat) (u : Value) : a.grownBy (w.setCell ⟨G, j, none⟩ u) (some G) :=
  ⟨h.os, h.tape, h.output, by rw [show (w.setCell ⟨G, j, none⟩ u).heap.size = w.heap.size by simp [World.setCell]]; exact h.size, fun i hi hne => (Below.heap_setCell w ⟨G, j, none⟩ u i (fun e => hne (by rw [e]))).trans (h.block i hi hne)⟩
theorem gr_setRow {a w : World} {G : Nat} (h : a.grownBy w (some G)) (xs : Array Value) : a.grownBy (w.setRow G xs) (some G) :=
  ⟨h.os, h.tape, h.output, by rw [show (w.setRow G xs).heap.size = w.heap.size by simp [World.setRow]]; exact h.size, fun i hi hne => (setRow_other w G i xs (fun e => hne (by rw [e]))).trans (h.block i hi hne)⟩
/-- What a test leaves of the first k. -/
theorem keep_step {α : Type} {p : α → Bool} {l : List α} {k : Nat} {x : α} (h : l[k]? = some x) : (l.take (k + 1)).filter (fun y => !p y) = (l.take k).filter (fun y => !p y) ++ (if p x then [] else [x]) := by
  rw [List.take_add_one, h, List.filter_append]
  cases hp : p x <;> simp [hp]
theorem keep_le {α : Type} (p : α → Bool) (l : List α) (k : Nat) : ((l.take k).filter (fun y => !p y)).length ≤ k := Nat.le_trans (List.length_filter_le _ _) (by rw [List.length_take]; omega)
theorem drop_at {α : Type} {l : List α} {k : Nat} {x : α} (h : l[k]? = some x) : l.drop k = x :: l.drop (k + 1) := by
  obtain ⟨h2, h3⟩ := List.getElem?_eq_some_iff.1 h
  rw [List.drop_eq_getElem_cons h2, h3]
theorem encs_lenMark : ∀ l : List Mark, (l.flatMap encMark).length = l.length * 3
  | [] => rfl
  | x :: l => by rw [List.flatMap_cons, List.length_append, encs_lenMark l, List.length_cons]; simp [encMark]; omega
theorem reps_encMark {B : Nat} {w : World} {l : List Mark} {cs : List Value} (h : Kd.Reps kMark B w l cs) : cs = l.flatMap encMark := by
  induction h with
  | nil => rfl
  | cons hc _ ih => rw [ih, List.flatMap_cons, (kMark_open hc).1]; rfl
theorem reps_mkMark {B : Nat} {w : World} : ∀ {l : List Mark}, (∀ x ∈ l, kMark.K B w x (encMark x)) → Kd.Reps kMark B w l (l.flatMap encMark)
  | [], _ => .nil
  | x :: l, h => .cons (h x (by simp)) (reps_mkMark fun y hy => h y (by simp [hy]))
theorem reps_allMark {B : Nat} {w : World} {l : List Mark} {cs : List Value} (h : Kd.Reps kMark B w l cs) : ∀ x ∈ l, kMark.K B w x (encMark x) := by
  induction h with
  | nil => intro x hx; cases hx
  | cons hc _ ih =>
    intro x hx
    rcases List.mem_cons.1 hx with rfl | hx
    · have e := (kMark_open hc).1
      rw [show encMark x = _ from e.symm]
      exact hc
    · exact ih x hx
theorem set_runMark (F R : List Value) (m0 m1 m2 u0 u1 u2 : Value) : ((((F ++ m0 :: m1 :: m2 :: R).set (F.length) u0).set (F.length + 1) u1).set (F.length + 2) u2) = F ++ u0 :: u1 :: u2 :: R := by
  induction F with
  | nil => rfl
  | cons y F ih => simpa [Nat.add_right_comm] using ih
def DelAtMark (w : World) (G k : Nat) (x : Mark) : Prop := w.cell? ⟨G, k, none⟩ = some (.int .i64 x.view) ∧ w.cell? ⟨G, k + 1, none⟩ = some (.int .i64 x.height) ∧ w.cell? ⟨G, k + 2, none⟩ = some (.string x.block)
theorem zeroVMark : ∀ w, (zeroValue 24).run Tryz.prog w = .ok (.agg #[.int .i64 0, .int .i64 0, .string ⟨#[]⟩]) w := fun w => by kernel_rfl
theorem DelInvMark_at {w : World} {G : Nat} {F M R : List Value} {x : Mark} (hb : w.heap[G]? = some (.cells (F ++ M ++ (encMark x ++ R)).toArray 24 (0, 0))) {j : Nat} (hj : (F ++ M).length = j * 3) : w.cell? ⟨G, j * 3, none⟩ = some (.int .i64 x.view) ∧ w.cell? ⟨G, j * 3 + 1, none⟩ = some (.int .i64 x.height) ∧ w.cell? ⟨G, j * 3 + 2, none⟩ = some (.string x.block) := by
  have key : ∀ (o : Nat) (u : Value), (encMark x)[o]? = some u → w.cell? ⟨G, j * 3 + o, none⟩ = some u := fun o u ho => block_cell hb (by
    have hlt : o < (encMark x).length := (List.getElem?_eq_some_iff.1 ho).1
    rw [List.getElem?_toArray, List.getElem?_append_right (by omega), ← hj, Nat.add_sub_cancel_left, List.getElem?_append_left hlt]
    exact ho)
  exact ⟨key 0 _ rfl, key 1 _ rfl, key 2 _ rfl⟩
theorem delAtMark {w : World} {G k : Nat} {F M R : List Value} {x : Mark} (hb : w.heap[G]? = some (.cells (F ++ M ++ (encMark x ++ R)).toArray 24 (0, 0))) (hj : (F ++ M).length = k) : DelAtMark w G k x := by
  have key : ∀ (o : Nat) (u : Value), (encMark x)[o]? = some u → w.cell? ⟨G, k + o, none⟩ = some u := fun o u ho => block_cell hb (by
    have hlt : o < (encMark x).length := (List.getElem?_eq_some_iff.1 ho).1
    rw [List.getElem?_toArray, List.getElem?_append_right (by omega), ← hj, Nat.add_sub_cancel_left, List.getElem?_append_left hlt]
    exact ho)
  exact ⟨key 0 _ rfl, key 1 _ rfl, key 2 _ rfl⟩
theorem atBlockMark {w : World} {G k : Nat} {l : List Mark} {Z : List Value} {x : Mark} (hb : w.heap[G]? = some (.cells (l.flatMap encMark ++ Z).toArray 24 (0, 0))) (hx : l[k]? = some x) : DelAtMark w G (k * 3) x := by
  have hspl : l.flatMap encMark = (l.take k).flatMap encMark ++ encMark x ++ (l.drop (k + 1)).flatMap encMark := by
    conv => lhs; rw [← List.take_append_drop k l, drop_at hx]
    rw [List.flatMap_append, List.flatMap_cons, List.append_assoc]
  rw [hspl] at hb
  have hlt : k < l.length := (List.getElem?_eq_some_iff.1 hx).1
  exact delAtMark (F := (l.take k).flatMap encMark) (M := []) (R := (l.drop (k + 1)).flatMap encMark ++ Z) (by simpa only [List.append_nil, List.append_assoc] using hb) (by rw [List.append_nil, encs_lenMark, List.length_take, Nat.min_eq_left (by omega)])
end Go.Proofs.YtglneailkgminaaGreat
