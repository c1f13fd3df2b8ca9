/- cmp.Compare, cmp.Or, and the order of marks. No claim of its own; no condition. -/
import Derived.Test.YtglneailkgminaaMarkP
import Derived.Deep.RegionHeld3
import Derived.Test.YtglneailkgminaaFlat
namespace Go.Proofs.Ytglneailkgminaa
open Go.ChangeShapes Go.WideShapes Go.ChangeAt Go.RowKit Go.Sort
set_option linter.unusedVariables false
set_option linter.unusedSimpArgs false
theorem compare_calls (x y : Int) (w : World) : Calls Try.prog 46 #[.int .i64 x, .int .i64 y] w fun e w' => e = .returned (.int .i64 (Lib.compareInt x y)) ∧ w' = w := by
  go_enter Try.func46, Try.ntmps46
  go_wp2
  all_goals (go_ret; refine ⟨?_, rfl⟩; unfold Lib.compareInt; (repeat' split) <;> first | rfl | (exfalso; omega))
theorem compareS_calls (x y : ByteArray) (w : World) : Calls Try.prog 76 #[.string x, .string y] w fun e w' => e = .returned (.int .i64 (cmpStr x y)) ∧ w' = w := by
  cases h1 : strLt x y
  · cases h2 : strLt y x
    · have e : cmpStr x y = 0 := by simp [cmpStr, h1, h2]
      have hb : (x.toList == y.toList) = true := by rw [strLt_tri h1 h2]; simp
      rw [e]
      clear e
      unfold strLt at h1 h2
      go_enter Try.func76, Try.ntmps76
      go_wp2
      go_ret
      exact ⟨rfl, rfl⟩
    · have e : cmpStr x y = 1 := by simp [cmpStr, h1, h2]
      have hb : (x.toList == y.toList) = false := by
        cases h : x.toList == y.toList with
        | false => rfl
        | true =>
          have h' : x.toList = y.toList := by simpa using h
          unfold strLt at h1 h2
          rw [h'] at h1 h2
          rw [h1] at h2
          cases h2
      rw [e]
      clear e
      unfold strLt at h1 h2
      go_enter Try.func76, Try.ntmps76
      go_wp2
      go_ret
      exact ⟨rfl, rfl⟩
  · have e : cmpStr x y = -1 := by simp [cmpStr, h1]
    rw [e]
    clear e
    unfold strLt at h1
    go_enter Try.func76, Try.ntmps76
    go_wp2
    go_ret
    exact ⟨rfl, rfl⟩
/-- cmp.Or at ints. -/
def orF : List Int → Int
  | [] => 0
  | x :: l => if x ≠ 0 then x else orF l
theorem or_hit {l : List Int} {k : Nat} {x : Int} (hk : l[k]? = some x) (h : ∀ y ∈ l.take k, y = 0) (hx : x ≠ 0) : orF l = x := by
  induction l generalizing k with
  | nil => simp at hk
  | cons y l ih =>
    cases k with
    | zero => simp at hk; subst hk; simp [orF, hx]
    | succ k =>
      have hy : y = 0 := h y (by simp)
      simp only [orF, hy, ne_eq, not_true_eq_false, if_false]
      exact ih (by simpa using hk) (fun z hz => h z (by simp [hz]))
theorem or_none {l : List Int} (h : ∀ y ∈ l, y = 0) : orF l = 0 := by
  induction l with
  | nil => rfl
  | cons y l ih =>
    have hy : y = 0 := h y (by simp)
    simp only [orF, hy, ne_eq, not_true_eq_false, if_false]
    exact ih fun z hz => h z (by simp [hz])
theorem zeros_step {l : List Int} {k : Nat} {x : Int} (hk : l[k]? = some x) (h : ∀ y ∈ l.take k, y = 0) (hx : x = 0) : ∀ y ∈ l.take (k + 1), y = 0 := by
  intro y hy
  rw [List.take_add_one, hk] at hy
  rcases List.mem_append.1 hy with hy | hy
  · exact h y hy
  · obtain rfl : y = x := by simpa using hy
    exact hx
set_option maxHeartbeats 1600000 in
theorem or_calls (l : List Int) (b n c : Nat) (w : World) (hn : n = l.length) (hl : l.length ≤ 16) (hr : ∀ (k : Nat) (x : Int), l[k]? = some x → w.cell? ⟨b, k, none⟩ = some (.int .i64 x)) :
    Calls Try.prog 45 #[.slice (some ⟨b, 0, none⟩) n c] w fun e w' => e = .returned (.int .i64 (orF l)) ∧ w' = w := by
  subst hn
  have HR := Lib.hid hr
  clear hr
  go_enter Try.func45, Try.ntmps45
  go_wp2_with fail
  go_loopw [5, 8] (fun vv kv w' => ∃ k : Nat, k ≤ l.length ∧ kv = .int .i64 k ∧ Hid (∀ y ∈ l.take k, y = 0) ∧ w' = w) (fun _ kv _ => l.length - (intOf kv).toNat)
  case atStart => exact ⟨0, by omega, rfl, Lib.hid (by simp), rfl⟩
  case round =>
    obtain ⟨k, h1, rfl, hz, rfl⟩ := hrel
    by_cases h : k < l.length
    · obtain ⟨x, hx⟩ : ∃ x, l[k]? = some x := ⟨_, List.getElem?_eq_getElem h⟩
      have hc := HR.out k x hx
      have hki : (k : Int) < (l.length : Int) := by omega
      by_cases hx0 : x = 0
      · have hs := zeros_step hx hz.out hx0
        have d : (x != 0) = false := by simp [hx0]
        have HS := Lib.hid hs
        clear hs hx hx0
        go_wp2_with fail
        go_roundw
        case rel => exact ⟨k + 1, by omega, by go_num, HS, by first | rfl | trivial⟩
        case measure => simp [intOf]; omega
      · have hs := or_hit hx hz.out hx0
        have d : (x != 0) = true := by simp [hx0]
        have HS := Lib.hid hs
        clear hs hx hx0
        go_wp2_with fail
        go_ret
        exact ⟨by rw [HS.out]; rfl, rfl⟩
    · have hk : k = l.length := by omega
      subst hk
      rw [List.take_of_length_le (Nat.le_refl _)] at hz
      have hs := or_none hz.out
      have HS := Lib.hid hs
      clear hs
      go_wp2_with fail
      go_ret
      exact ⟨by rw [HS.out]; rfl, rfl⟩
/-- Blocks were laid, and orders drawn, and no more. -/
def Gd (W w' : World) : Prop := ∃ q os, w' = grow (W.drewN q) os
theorem gd_refl (W : World) : Gd W W := ⟨0, #[], by simp [grow, World.drewN]⟩
theorem gd_alloc {W w : World} (h : Gd W w) (o : Obj) : Gd W (w.alloc o) := by
  obtain ⟨q, os, rfl⟩ := h
  exact ⟨q, os ++ #[o], by rw [alloc_eq_grow, grow_grow]⟩
theorem gd_drew {W w : World} (h : Gd W w) : Gd W w.drew := by
  obtain ⟨q, os, rfl⟩ := h
  exact ⟨q + 1, os, rfl⟩
theorem gd_trans {A B C : World} (h : Gd A B) (k : Gd B C) : Gd A C := by
  obtain ⟨q, os, rfl⟩ := h
  obtain ⟨r, ot, rfl⟩ := k
  exact ⟨q + r, os ++ ot, by simp [grow, World.drewN, Nat.add_assoc]⟩
theorem gd_below {W w : World} (h : Gd W w) : Below W.heap.size W w := by
  obtain ⟨q, os, rfl⟩ := h
  exact ⟨rfl, rfl, rfl, by simp [grow, World.drewN], fun b hb => by
    simp only [grow, World.drewN]
    exact Array.getElem?_append_left hb⟩
theorem gd_cell {W : World} {p : Addr} {v : Value} (h : W.cell? p = some v) : ∀ n os, (grow (W.drewN n) os).cell? p = some v := fun n os => cell_below (gd_below ⟨n, os, rfl⟩) h
theorem or3 (x y z : Int) : orF [x, y, z] = if x ≠ 0 then x else if y ≠ 0 then y else z := by
  simp only [orF]
  by_cases hz : z = 0 <;> simp [hz]
theorem or2 (x y : Int) : orF [x, y] = if x ≠ 0 then x else y := by
  simp only [orF]
  by_cases hz : y = 0 <;> simp [hz]
theorem or3_alloc (w : World) (x y z : Int) : ∀ (k : Nat) (u : Int), [x, y, z][k]? = some u → (w.alloc (.cells #[.int .i64 x, .int .i64 y, .int .i64 z] 3)).drew.cell? ⟨w.heap.size, k, none⟩ = some (.int .i64 u) := by
  intro k u h
  refine block_cell (w := (w.alloc _).drew) (alloc_new w _) ?_
  match k, h with
  | 0, h => simp at h; subst h; rfl
  | 1, h => simp at h; subst h; rfl
  | 2, h => simp at h; subst h; rfl
  | k + 3, h => simp at h
theorem or2_alloc (w : World) (x y : Int) : ∀ (k : Nat) (u : Int), [x, y][k]? = some u → (w.alloc (.cells #[.int .i64 x, .int .i64 y] 3)).drew.cell? ⟨w.heap.size, k, none⟩ = some (.int .i64 u) := by
  intro k u h
  refine block_cell (w := (w.alloc _).drew) (alloc_new w _) ?_
  match k, h with
  | 0, h => simp at h; subst h; rfl
  | 1, h => simp at h; subst h; rfl
  | k + 2, h => simp at h
set_option maxHeartbeats 3200000 in
set_option maxRecDepth 100000 in
theorem order_calls (x y : Mark) (W : World) : Calls Try.prog 41 #[.agg #[.int .i64 x.view, .int .i64 x.height, .string x.block], .agg #[.int .i64 y.view, .int .i64 y.height, .string y.block]] W fun e w' => e = .returned (.int .i64 (ordF x y)) ∧ Gd W w' := by
  have a1 := alloc_old (alloc_new W (.cells #[.int .i64 x.view, .int .i64 x.height, .string x.block] 26)) (.cells #[.int .i64 y.view, .int .i64 y.height, .string y.block] 26)
  have a2 := alloc_new (W.alloc (.cells #[.int .i64 x.view, .int .i64 x.height, .string x.block] 26)) (.cells #[.int .i64 y.view, .int .i64 y.height, .string y.block] 26)
  have s1 : (W.alloc (.cells #[.int .i64 x.view, .int .i64 x.height, .string x.block] 26)).heap.size = W.heap.size + 1 := by simp
  have g2 : Gd W ((W.alloc (.cells #[.int .i64 x.view, .int .i64 x.height, .string x.block] 26)).alloc (.cells #[.int .i64 y.view, .int .i64 y.height, .string y.block] 26)) := gd_alloc (gd_alloc (gd_refl W) _) _
  rw [s1] at a2
  clear s1
  have ho : orF [Lib.compareInt x.view y.view, Lib.compareInt x.height y.height, cmpStr x.block y.block] = ordF x y := or3 _ _ _
  have HO := Lib.hid ho
  clear ho
  go_enter Try.func41, Try.ntmps41
  go_upto_region 1 with fail
  generalize (W.alloc (.cells #[.int .i64 x.view, .int .i64 x.height, .string x.block] 26)).alloc (.cells #[.int .i64 y.view, .int .i64 y.height, .string y.block] 26) = V at *
  have x0 : ∀ w', Gd V w' → w'.cell? ⟨W.heap.size, 0, none⟩ = some (.int .i64 x.view) := fun w' h => cell_below (gd_below h) (block_cell a1 (i := 0) rfl)
  have x1 : ∀ w', Gd V w' → w'.cell? ⟨W.heap.size, 1, none⟩ = some (.int .i64 x.height) := fun w' h => cell_below (gd_below h) (block_cell a1 (i := 1) rfl)
  have x2 : ∀ w', Gd V w' → w'.cell? ⟨W.heap.size, 2, none⟩ = some (.string x.block) := fun w' h => cell_below (gd_below h) (block_cell a1 (i := 2) rfl)
  have y0 : ∀ w', Gd V w' → w'.cell? ⟨W.heap.size + 1, 0, none⟩ = some (.int .i64 y.view) := fun w' h => cell_below (gd_below h) (block_cell a2 (i := 0) rfl)
  have y1 : ∀ w', Gd V w' → w'.cell? ⟨W.heap.size + 1, 1, none⟩ = some (.int .i64 y.height) := fun w' h => cell_below (gd_below h) (block_cell a2 (i := 1) rfl)
  have y2 : ∀ w', Gd V w' → w'.cell? ⟨W.heap.size + 1, 2, none⟩ = some (.string y.block) := fun w' h => cell_below (gd_below h) (block_cell a2 (i := 2) rfl)
  clear a1 a2
  go_region_held3 (fun w' => Gd V w') (repeat (first | exact gd_refl _ | assumption | apply gd_drew | apply gd_alloc)) ((first
    | (go_at_call 46; refine (compare_calls _ _ _).mono ?_; rintro e w' ⟨rfl, rfl⟩)
    | (go_at_call 76; refine (compareS_calls _ _ _).mono ?_; rintro e w' ⟨rfl, rfl⟩)
    | (go_at_call 45; go_loud (refine (or_calls [Lib.compareInt x.view y.view, Lib.compareInt x.height y.height, cmpStr x.block y.block] _ 3 3 _ rfl (Nat.le_of_ble_eq_true rfl) (or3_alloc _ _ _ _)).mono ?_; rw [HO.out]; rintro e w' ⟨rfl, rfl⟩))))
  all_goals
    go_wp2_with fail
    go_ret
    exact ⟨rfl, gd_trans g2 (by first | assumption | exact gd_drew (gd_alloc (gd_refl _) _))⟩
end Go.Proofs.Ytglneailkgminaa
