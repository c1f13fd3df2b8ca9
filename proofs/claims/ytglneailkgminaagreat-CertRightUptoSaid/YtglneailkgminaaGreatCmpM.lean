/- cmp.Compare, cmp.Or, and the order of marks. No claim of its own; no condition. -/
import Derived.Test.YtglneailkgminaaGreatMarkP
import Derived.Deep.RegionHeld3
import Derived.Test.YtglneailkgminaaGreatFlat
namespace Go.Proofs.YtglneailkgminaaGreat
open Go.ChangeShapes Go.WideShapes Go.ChangeAt Go.RowKit Go.Sort
set_option linter.unusedVariables false
set_option linter.unusedSimpArgs false
theorem compare_calls (x y : Int) (w : World) : Calls Tryz.prog 17 #[.int .i64 x, .int .i64 y] w fun e w' => e = .returned (.int .i64 (Lib.compareInt x y)) ∧ w' = w := by
  go_enter Tryz.func17, Tryz.ntmps17
  go_wp2
  all_goals (go_ret; refine ⟨?_, rfl⟩; unfold Lib.compareInt; (repeat' split) <;> first | rfl | (exfalso; omega))
/-- cmp.Or at ints. -/
def orF : List Int → Int
  | [] => 0
  | x :: l => if x ≠ 0 then x else orF l
theorem or_hit {l : List Int} {k : Nat} {x : Int} (hk : l[k]? = some x) (h : ∀ y ∈ l.take k, y = 0) (hx : x ≠ 0) : orF l = x := by
  induction l generalizing k with
  | nil => simp at hk
  | cons y l ih =>
    cases k with
    | zero => simp at hk; subst hk; simp [orF, hx]
    | succ k =>
      have hy : y = 0 := h y (by simp)
      simp only [orF, hy, ne_eq, not_true_eq_false, if_false]
      exact ih (by simpa using hk) (fun z hz => h z (by simp [hz]))
theorem or_none {l : List Int} (h : ∀ y ∈ l, y = 0) : orF l = 0 := by
  induction l with
  | nil => rfl
  | cons y l ih =>
    have hy : y = 0 := h y (by simp)
    simp only [orF, hy, ne_eq, not_true_eq_false, if_false]
    exact ih fun z hz => h z (by simp [hz])
theorem zeros_step {l : List Int} {k : Nat} {x : Int} (hk : l[k]? = some x) (h : ∀ y ∈ l.take k, y = 0) (hx : x = 0) : ∀ y ∈ l.take (k + 1), y = 0 := by
  intro y hy
  rw [List.take_add_one, hk] at hy
  rcases List.mem_append.1 hy with hy | hy
  · exact h y hy
  · obtain rfl : y = x := by simpa using hy
    exact hx
/-- Blocks were laid, and orders drawn, and no more. -/
def Gd (W w' : World) : Prop := ∃ q os, w' = grow (W.drewN q) os
theorem gd_refl (W : World) : Gd W W := ⟨0, #[], by simp [grow, World.drewN]⟩
theorem gd_alloc {W w : World} (h : Gd W w) (o : Obj) : Gd W (w.alloc o) := by
  obtain ⟨q, os, rfl⟩ := h
  exact ⟨q, os ++ #[o], by rw [alloc_eq_grow, grow_grow]⟩
theorem gd_drew {W w : World} (h : Gd W w) : Gd W w.drew := by
  obtain ⟨q, os, rfl⟩ := h
  exact ⟨q + 1, os, rfl⟩
theorem gd_trans {A B C : World} (h : Gd A B) (k : Gd B C) : Gd A C := by
  obtain ⟨q, os, rfl⟩ := h
  obtain ⟨r, ot, rfl⟩ := k
  exact ⟨q + r, os ++ ot, by simp [grow, World.drewN, Nat.add_assoc]⟩
theorem gd_below {W w : World} (h : Gd W w) : Below W.heap.size W w := by
  obtain ⟨q, os, rfl⟩ := h
  exact ⟨rfl, rfl, rfl, by simp [grow, World.drewN], fun b hb => by
    simp only [grow, World.drewN]
    exact Array.getElem?_append_left hb⟩
theorem gd_cell {W : World} {p : Addr} {v : Value} (h : W.cell? p = some v) : ∀ n os, (grow (W.drewN n) os).cell? p = some v := fun n os => cell_below (gd_below ⟨n, os, rfl⟩) h
theorem or3 (x y z : Int) : orF [x, y, z] = if x ≠ 0 then x else if y ≠ 0 then y else z := by
  simp only [orF]
  by_cases hz : z = 0 <;> simp [hz]
theorem or2 (x y : Int) : orF [x, y] = if x ≠ 0 then x else y := by
  simp only [orF]
  by_cases hz : y = 0 <;> simp [hz]
theorem or3_alloc (w : World) (x y z : Int) : ∀ (k : Nat) (u : Int), [x, y, z][k]? = some u → (w.alloc (.cells #[.int .i64 x, .int .i64 y, .int .i64 z] 3)).drew.cell? ⟨w.heap.size, k, none⟩ = some (.int .i64 u) := by
  intro k u h
  refine block_cell (w := (w.alloc _).drew) (alloc_new w _) ?_
  match k, h with
  | 0, h => simp at h; subst h; rfl
  | 1, h => simp at h; subst h; rfl
  | 2, h => simp at h; subst h; rfl
  | k + 3, h => simp at h
theorem or2_alloc (w : World) (x y : Int) : ∀ (k : Nat) (u : Int), [x, y][k]? = some u → (w.alloc (.cells #[.int .i64 x, .int .i64 y] 3)).drew.cell? ⟨w.heap.size, k, none⟩ = some (.int .i64 u) := by
  intro k u h
  refine block_cell (w := (w.alloc _).drew) (alloc_new w _) ?_
  match k, h with
  | 0, h => simp at h; subst h; rfl
  | 1, h => simp at h; subst h; rfl
  | k + 2, h => simp at h
end Go.Proofs.YtglneailkgminaaGreat
