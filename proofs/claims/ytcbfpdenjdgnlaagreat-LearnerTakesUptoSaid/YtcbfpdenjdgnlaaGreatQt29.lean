/- cmp.Compare, cmp.Or, and the order of marks. No claim of its own; no condition. -/
import Derived.Test.YtcbfpdenjdgnlaaGreatQt28
import Derived.Deep.RegionHeld3
import Derived.Test.YtcbfpdenjdgnlaaGreatQt04
import Derived.Test.YtcbfpdenjdgnlaaGreatQt20
namespace Go.Proofs.YtcbfpdenjdgnlaaGreat
open Go.ChangeShapes Go.WideShapes Go.ChangeAt Go.RowKit Go.Sort
set_option linter.unusedVariables false
set_option linter.unusedSimpArgs false
theorem compare_calls (x y : Int) (w : World) : Calls Tryz.prog 113 #[.int .i64 x, .int .i64 y] w fun e w' => e = .returned (.int .i64 (Lib.compareInt x y)) ∧ w' = w := by
  go_enter Tryz.func113, Tryz.ntmps113
  go_wp2
  all_goals (go_ret; refine ⟨?_, rfl⟩; unfold Lib.compareInt; (repeat' split) <;> first | rfl | (exfalso; omega))
theorem compareS_calls (x y : ByteArray) (w : World) : Calls Tryz.prog 135 #[.string x, .string y] w fun e w' => e = .returned (.int .i64 (cmpStr x y)) ∧ w' = w := by
  cases h1 : strLt x y
  · cases h2 : strLt y x
    · have e : cmpStr x y = 0 := by simp [cmpStr, h1, h2]
      have hb : (x.toList == y.toList) = true := by rw [strLt_tri h1 h2]; simp
      rw [e]
      clear e
      unfold strLt at h1 h2
      go_enter Tryz.func135, Tryz.ntmps135
      go_wp2
      go_ret
      exact ⟨rfl, rfl⟩
    · have e : cmpStr x y = 1 := by simp [cmpStr, h1, h2]
      have hb : (x.toList == y.toList) = false := by
        cases h : x.toList == y.toList with
        | false => rfl
        | true =>
          have h' : x.toList = y.toList := by simpa using h
          unfold strLt at h1 h2
          rw [h'] at h1 h2
          rw [h1] at h2
          cases h2
      rw [e]
      clear e
      unfold strLt at h1 h2
      go_enter Tryz.func135, Tryz.ntmps135
      go_wp2
      go_ret
      exact ⟨rfl, rfl⟩
  · have e : cmpStr x y = -1 := by simp [cmpStr, h1]
    rw [e]
    clear e
    unfold strLt at h1
    go_enter Tryz.func135, Tryz.ntmps135
    go_wp2
    go_ret
    exact ⟨rfl, rfl⟩
/-- cmp.Or at ints. -/
def orF : List Int → Int
  | [] => 0
  | x :: l => if x ≠ 0 then x else orF l
theorem or_hit {l : List Int} {k : Nat} {x : Int} (hk : l[k]? = some x) (h : ∀ y ∈ l.take k, y = 0) (hx : x ≠ 0) : orF l = x := by
  induction l generalizing k with
  | nil => simp at hk
  | cons y l ih =>
    cases k with
    | zero => simp at hk; subst hk; simp [orF, hx]
    | succ k =>
      have hy : y = 0 := h y (by simp)
      simp only [orF, hy, ne_eq, not_true_eq_false, if_false]
      exact ih (by simpa using hk) (fun z hz => h z (by simp [hz]))
theorem or_none {l : List Int} (h : ∀ y ∈ l, y = 0) : orF l = 0 := by
  induction l with
  | nil => rfl
  | cons y l ih =>
    have hy : y = 0 := h y (by simp)
    simp only [orF, hy, ne_eq, not_true_eq_false, if_false]
    exact ih fun z hz => h z (by simp [hz])
theorem zeros_step {l : List Int} {k : Nat} {x : Int} (hk : l[k]? = some x) (h : ∀ y ∈ l.take k, y = 0) (hx : x = 0) : ∀ y ∈ l.take (k + 1), y = 0 := by
  intro y hy
  rw [List.take_add_one, hk] at hy
  rcases List.mem_append.1 hy with hy | hy
  · exact h y hy
  · obtain rfl : y = x := by simpa using hy
    exact hx
set_option maxHeartbeats 1600000 in
theorem or_calls (l : List Int) (b n c : Nat) (w : World) (hn : n = l.length) (hl : l.length ≤ 16) (hr : ∀ (k : Nat) (x : Int), l[k]? = some x → w.cell? ⟨b, k, none⟩ = some (.int .i64 x)) :
    Calls Tryz.prog 134 #[.slice (some ⟨b, 0, none⟩) n c] w fun e w' => e = .returned (.int .i64 (orF l)) ∧ w' = w := by
  subst hn
  have HR := Lib.hid hr
  clear hr
  go_enter Tryz.func134, Tryz.ntmps134
  go_wp2_with fail
  go_loopw [5, 8] (fun vv kv w' => ∃ k : Nat, k ≤ l.length ∧ kv = .int .i64 k ∧ Hid (∀ y ∈ l.take k, y = 0) ∧ w' = w) (fun _ kv _ => l.length - (intOf kv).toNat)
  case atStart => exact ⟨0, by omega, rfl, Lib.hid (by simp), rfl⟩
  case round =>
    obtain ⟨k, h1, rfl, hz, rfl⟩ := hrel
    by_cases h : k < l.length
    · obtain ⟨x, hx⟩ : ∃ x, l[k]? = some x := ⟨_, List.getElem?_eq_getElem h⟩
      have hc := HR.out k x hx
      have hki : (k : Int) < (l.length : Int) := by omega
      by_cases hx0 : x = 0
      · have hs := zeros_step hx hz.out hx0
        have d : (x != 0) = false := by simp [hx0]
        have HS := Lib.hid hs
        clear hs hx hx0
        go_wp2_with fail
        go_roundw
        case rel => exact ⟨k + 1, by omega, by go_num, HS, by first | rfl | trivial⟩
        case measure => simp [intOf]; omega
      · have hs := or_hit hx hz.out hx0
        have d : (x != 0) = true := by simp [hx0]
        have HS := Lib.hid hs
        clear hs hx hx0
        go_wp2_with fail
        go_ret
        exact ⟨by rw [HS.out]; rfl, rfl⟩
    · have hk : k = l.length := by omega
      subst hk
      rw [List.take_of_length_le (Nat.le_refl _)] at hz
      have hs := or_none hz.out
      have HS := Lib.hid hs
      clear hs
      go_wp2_with fail
      go_ret
      exact ⟨by rw [HS.out]; rfl, rfl⟩
/-- Blocks were laid, and orders drawn, and no more. -/
def Gd (W w' : World) : Prop := ∃ q os, w' = grow (W.drewN q) os
theorem gd_refl (W : World) : Gd W W := ⟨0, #[], by simp [grow, World.drewN]⟩
theorem gd_alloc {W w : World} (h : Gd W w) (o : Obj) : Gd W (w.alloc o) := by
  obtain ⟨q, os, rfl⟩ := h
  exact ⟨q, os ++ #[o], by rw [alloc_eq_grow, grow_grow]⟩
theorem gd_drew {W w : World} (h : Gd W w) : Gd W w.drew := by
  obtain ⟨q, os, rfl⟩ := h
  exact ⟨q + 1, os, rfl⟩
theorem gd_trans {A B C : World} (h : Gd A B) (k : Gd B C) : Gd A C := by
  obtain ⟨q, os, rfl⟩ := h
  obtain ⟨r, ot, rfl⟩ := k
  exact ⟨q + r, os ++ ot, by simp [grow, World.drewN, Nat.add_assoc]⟩
theorem gd_below {W w : World} (h : Gd W w) : Below W.heap.size W w := by
  obtain ⟨q, os, rfl⟩ := h
  exact ⟨rfl, rfl, rfl, by simp [grow, World.drewN], fun b hb => by
    simp only [grow, World.drewN]
    exact Array.getElem?_append_left hb⟩
theorem gd_cell {W : World} {p : Addr} {v : Value} (h : W.cell? p = some v) : ∀ n os, (grow (W.drewN n) os).cell? p = some v := fun n os => cell_below (gd_below ⟨n, os, rfl⟩) h
theorem or3 (x y z : Int) : orF [x, y, z] = if x ≠ 0 then x else if y ≠ 0 then y else z := by
  simp only [orF]
  by_cases hz : z = 0 <;> simp [hz]
theorem or2 (x y : Int) : orF [x, y] = if x ≠ 0 then x else y := by
  simp only [orF]
  by_cases hz : y = 0 <;> simp [hz]
theorem or3_alloc (w : World) (x y z : Int) : ∀ (k : Nat) (u : Int), [x, y, z][k]? = some u → (w.alloc (.cells #[.int .i64 x, .int .i64 y, .int .i64 z] 3)).drew.cell? ⟨w.heap.size, k, none⟩ = some (.int .i64 u) := by
  intro k u h
  refine block_cell (w := (w.alloc _).drew) (alloc_new w _) ?_
  match k, h with
  | 0, h => simp at h; subst h; rfl
  | 1, h => simp at h; subst h; rfl
  | 2, h => simp at h; subst h; rfl
  | k + 3, h => simp at h
theorem or2_alloc (w : World) (x y : Int) : ∀ (k : Nat) (u : Int), [x, y][k]? = some u → (w.alloc (.cells #[.int .i64 x, .int .i64 y] 3)).drew.cell? ⟨w.heap.size, k, none⟩ = some (.int .i64 u) := by
  intro k u h
  refine block_cell (w := (w.alloc _).drew) (alloc_new w _) ?_
  match k, h with
  | 0, h => simp at h; subst h; rfl
  | 1, h => simp at h; subst h; rfl
  | k + 2, h => simp at h
set_option maxHeartbeats 3200000 in
set_option maxRecDepth 100000 in
theorem order_calls (x y : Mark) (W : World) : Calls Tryz.prog 138 #[.agg #[.int .i64 x.view, .int .i64 x.height, .string x.block], .agg #[.int .i64 y.view, .int .i64 y.height, .string y.block]] W fun e w' => e = .returned (.int .i64 (ordF x y)) ∧ Gd W w' := by
  have a1 := alloc_old (alloc_new W (.cells #[.int .i64 x.view, .int .i64 x.height, .string x.block] 34)) (.cells #[.int .i64 y.view, .int .i64 y.height, .string y.block] 34)
  have a2 := alloc_new (W.alloc (.cells #[.int .i64 x.view, .int .i64 x.height, .string x.block] 34)) (.cells #[.int .i64 y.view, .int .i64 y.height, .string y.block] 34)
  have s1 : (W.alloc (.cells #[.int .i64 x.view, .int .i64 x.height, .string x.block] 34)).heap.size = W.heap.size + 1 := by simp
  have g2 : Gd W ((W.alloc (.cells #[.int .i64 x.view, .int .i64 x.height, .string x.block] 34)).alloc (.cells #[.int .i64 y.view, .int .i64 y.height, .string y.block] 34)) := gd_alloc (gd_alloc (gd_refl W) _) _
  rw [s1] at a2
  clear s1
  have ho : orF [Lib.compareInt x.view y.view, Lib.compareInt x.height y.height, cmpStr x.block y.block] = ordF x y := or3 _ _ _
  have HO := Lib.hid ho
  clear ho
  go_enter Tryz.func138, Tryz.ntmps138
  go_upto_region 1 with fail
  generalize (W.alloc (.cells #[.int .i64 x.view, .int .i64 x.height, .string x.block] 34)).alloc (.cells #[.int .i64 y.view, .int .i64 y.height, .string y.block] 34) = V at *
  have x0 : ∀ w', Gd V w' → w'.cell? ⟨W.heap.size, 0, none⟩ = some (.int .i64 x.view) := fun w' h => cell_below (gd_below h) (block_cell a1 (i := 0) rfl)
  have x1 : ∀ w', Gd V w' → w'.cell? ⟨W.heap.size, 1, none⟩ = some (.int .i64 x.height) := fun w' h => cell_below (gd_below h) (block_cell a1 (i := 1) rfl)
  have x2 : ∀ w', Gd V w' → w'.cell? ⟨W.heap.size, 2, none⟩ = some (.string x.block) := fun w' h => cell_below (gd_below h) (block_cell a1 (i := 2) rfl)
  have y0 : ∀ w', Gd V w' → w'.cell? ⟨W.heap.size + 1, 0, none⟩ = some (.int .i64 y.view) := fun w' h => cell_below (gd_below h) (block_cell a2 (i := 0) rfl)
  have y1 : ∀ w', Gd V w' → w'.cell? ⟨W.heap.size + 1, 1, none⟩ = some (.int .i64 y.height) := fun w' h => cell_below (gd_below h) (block_cell a2 (i := 1) rfl)
  have y2 : ∀ w', Gd V w' → w'.cell? ⟨W.heap.size + 1, 2, none⟩ = some (.string y.block) := fun w' h => cell_below (gd_below h) (block_cell a2 (i := 2) rfl)
  clear a1 a2
  go_region_held3 (fun w' => Gd V w') (repeat (first | exact gd_refl _ | assumption | apply gd_drew | apply gd_alloc)) ((first
    | (go_at_call 113; refine (compare_calls _ _ _).mono ?_; rintro e w' ⟨rfl, rfl⟩)
    | (go_at_call 135; refine (compareS_calls _ _ _).mono ?_; rintro e w' ⟨rfl, rfl⟩)
    | (go_at_call 134; go_loud (refine (or_calls [Lib.compareInt x.view y.view, Lib.compareInt x.height y.height, cmpStr x.block y.block] _ 3 3 _ rfl (Nat.le_of_ble_eq_true rfl) (or3_alloc _ _ _ _)).mono ?_; rw [HO.out]; rintro e w' ⟨rfl, rfl⟩))))
  all_goals
    go_wp2_with fail
    go_ret
    exact ⟨rfl, gd_trans g2 (by first | assumption | exact gd_drew (gd_alloc (gd_refl _) _))⟩
end Go.Proofs.YtcbfpdenjdgnlaaGreat
/- Package cert: First, Mark, Check of no statements, Higher. No claim of its own; no condition. -/
namespace Go.Proofs.YtcbfpdenjdgnlaaGreat
open Go.ChangeShapes Go.WideShapes Go.ChangeAt Go.RowKit Go.Sort
set_option linter.unusedVariables false
set_option linter.unusedSimpArgs false
/-- 32 octets 0. -/
def firstB : ByteArray := ⟨(Lib.repeatL [0] 32).toArray⟩
def firstM : Mark := ⟨0, 0, firstB⟩
theorem repeat_calls (w : World) : Calls Tryz.prog 245 #[.string ⟨#[0]⟩, .int .i64 32] w fun e w' => e = .returned (.string firstB) ∧ Below w.heap.size w w' := by
  have h := Any.strings_Repeat Tryz.laysRepeat Tryz.extraRepeat ⟨#[0]⟩ 32 w (by omega) (by decide)
  have e : Tryz.laysRepeat_ren.f 105 = 245 := by kernel_rfl
  rw [e] at h
  exact h
theorem first_at (fb : ByteArray) (hrc : ∀ W, Calls Tryz.prog 245 #[.string ⟨#[0]⟩, .int .i64 32] W fun e w' => e = .returned (.string fb) ∧ Below W.heap.size W w') (w : World) : Calls Tryz.prog 194 #[] w fun e w' => e = .returned (.agg #[.int .i64 0, .int .i64 0, .string fb, .slice none 0 0]) ∧ Below w.heap.size w w' := by
  have q0 := bl_alloc (Below.refl w.heap.size w) (.cells #[.int .i64 0, .int .i64 0, .string ⟨#[]⟩, .slice none 0 0] 37)
  have a0 := alloc_new w (.cells #[.int .i64 0, .int .i64 0, .string ⟨#[]⟩, .slice none 0 0] 37)
  go_enter Tryz.func194, Tryz.ntmps194
  go_upto_region 1 with fail
  generalize w.alloc (.cells #[.int .i64 0, .int .i64 0, .string ⟨#[]⟩, .slice none 0 0] 37) = W at *
  go_wp2_with (go_at_call 245; refine (hrc _).mono ?_; rintro e w5 ⟨rfl, b5⟩; have hR := block_below b5 a0; have r0 := block_cell hR (i := 0) rfl; have r1 := block_cell hR (i := 1) rfl; have r2 := block_cell hR (i := 2) rfl; have r3 := block_cell hR (i := 3) rfl; have f0 := frozen_of_row _ _ 0 _ 37 hR; have f1 := frozen_of_row _ _ 1 _ 37 hR; have f2 := frozen_of_row _ _ 2 _ 37 hR; have f3 := frozen_of_row _ _ 3 _ 37 hR)
  refine bodyPost_ret (v := .agg #[.int .i64 0, .int .i64 0, .string fb, .slice none 0 0]) (by simp [results, Tryz.results194, go_sem, r0, r1, r2, r3]) rfl ⟨rfl, ?_⟩
  have hq := bl_trans q0 b5
  have le : w.heap.size ≤ w.heap.size := Nat.le_refl _
  exact bl_set (bl_set (bl_set (bl_set hq le _) le _) le _) le _
theorem firstmark_calls (w : World) : Calls Tryz.prog 194 #[] w fun e w' => e = .returned (.agg #[.int .i64 0, .int .i64 0, .string firstB, .slice none 0 0]) ∧ Below w.heap.size w w' := first_at firstB repeat_calls w
theorem cmark_calls (m : Mark) (A : Option Addr) (n c : Nat) (w : World) :
    Calls Tryz.prog 193 #[.agg #[.int .i64 m.view, .int .i64 m.height, .string m.block, .slice A n c]] w fun e w' => e = .returned (.agg #[.int .i64 m.view, .int .i64 m.height, .string m.block]) ∧ Below w.heap.size w w' := by
  go_enter Tryz.func193, Tryz.ntmps193
  go_wp2
  refine bodyPost_ret (v := .agg #[.int .i64 m.view, .int .i64 m.height, .string m.block]) (by simp [results, Tryz.results193, go_sem]) rfl ⟨rfl, ?_⟩
  repeat (first | exact Below.refl _ _ | apply bl_alloc | apply bl_drew | (refine bl_set ?_ (by simp) _))
theorem check_none (m : Mark) (w : World) :
    Calls Tryz.prog 128 #[.agg #[.int .i64 m.view, .int .i64 m.height, .string m.block, .slice none 0 0], .slice none 0 0, .int .i64 3] w fun e w' => e = .returned (.int .i64 (if m = firstM then 0 else 41)) ∧ Below w.heap.size w w' := by
  have q0 := bl_alloc (Below.refl w.heap.size w) (.cells #[.int .i64 m.view, .int .i64 m.height, .string m.block, .slice none 0 0] 37)
  have a0 := alloc_new w (.cells #[.int .i64 m.view, .int .i64 m.height, .string m.block, .slice none 0 0] 37)
  obtain ⟨z, hz⟩ : ∃ z, z = firstM := ⟨_, rfl⟩
  have hfc : ∀ W, Calls Tryz.prog 194 #[] W fun e w' => e = .returned (.agg #[.int .i64 z.view, .int .i64 z.height, .string z.block, .slice none 0 0]) ∧ Below W.heap.size W w' := fun W => by rw [hz]; exact firstmark_calls W
  rw [← hz]
  clear hz
  by_cases h : m = z
  · have hq : ∀ W, (binOp .eql 34 (.agg #[.int .i64 m.view, .int .i64 m.height, .string m.block]) (.agg #[.int .i64 z.view, .int .i64 z.height, .string z.block])).run Tryz.prog W = .ok (.bool true) W := fun W => by rw [eqlMark, decide_eq_true h]
    rw [if_pos h]
    clear h
    go_enter Tryz.func128, Tryz.ntmps128
    go_upto_region 1 with fail
    generalize w.alloc (.cells #[.int .i64 m.view, .int .i64 m.height, .string m.block, .slice none 0 0] 37) = W at *
    have r0 := block_cell a0 (i := 0) rfl
    have r1 := block_cell a0 (i := 1) rfl
    have r2 := block_cell a0 (i := 2) rfl
    have r3 := block_cell a0 (i := 3) rfl
    go_wp2_with (first
      | (go_at_call 194; refine (hfc _).mono ?_; rintro e w2 ⟨rfl, b2⟩)
      | (go_at_call_of 193 (Value.agg #[.int .i64 m.view, .int .i64 m.height, .string m.block, .slice none 0 0]); refine (cmark_calls m _ _ _ _).mono ?_; rintro e w1 ⟨rfl, b1⟩)
      | (go_at_call_of 193 (Value.agg #[.int .i64 z.view, .int .i64 z.height, .string z.block, .slice none 0 0]); refine (cmark_calls z _ _ _ _).mono ?_; rintro e w3 ⟨rfl, b3⟩))
    go_ret
    exact ⟨rfl, bl_trans q0 (bl_trans b1 (bl_trans b2 b3))⟩
  · have hq : ∀ W, (binOp .eql 34 (.agg #[.int .i64 m.view, .int .i64 m.height, .string m.block]) (.agg #[.int .i64 z.view, .int .i64 z.height, .string z.block])).run Tryz.prog W = .ok (.bool false) W := fun W => by rw [eqlMark, decide_eq_false h]
    rw [if_neg h]
    clear h
    go_enter Tryz.func128, Tryz.ntmps128
    go_upto_region 1 with fail
    generalize w.alloc (.cells #[.int .i64 m.view, .int .i64 m.height, .string m.block, .slice none 0 0] 37) = W at *
    have r0 := block_cell a0 (i := 0) rfl
    have r1 := block_cell a0 (i := 1) rfl
    have r2 := block_cell a0 (i := 2) rfl
    have r3 := block_cell a0 (i := 3) rfl
    go_wp2_with (first
      | (go_at_call 194; refine (hfc _).mono ?_; rintro e w2 ⟨rfl, b2⟩)
      | (go_at_call_of 193 (Value.agg #[.int .i64 m.view, .int .i64 m.height, .string m.block, .slice none 0 0]); refine (cmark_calls m _ _ _ _).mono ?_; rintro e w1 ⟨rfl, b1⟩)
      | (go_at_call_of 193 (Value.agg #[.int .i64 z.view, .int .i64 z.height, .string z.block, .slice none 0 0]); refine (cmark_calls z _ _ _ _).mono ?_; rintro e w3 ⟨rfl, b3⟩; have s3 := cell_below (bl_trans b1 (bl_trans b2 b3)) r3))
    go_ret
    exact ⟨rfl, bl_trans q0 (bl_trans b1 (bl_trans b2 b3))⟩
def higherF (a b : Mark) : Bool := decide (b.view < a.view) || (decide (a.view = b.view) && decide (b.height < a.height))
theorem higher_or (a b : Mark) : decide (orF [Lib.compareInt a.view b.view, Lib.compareInt a.height b.height] > 0) = higherF a b := by
  rw [or2]
  unfold higherF Lib.compareInt
  rcases Int.lt_trichotomy a.view b.view with h | h | h
  · have : ¬ b.view < a.view := by omega
    have n : ¬ a.view = b.view := by omega
    simp [h, this, n]
  · rcases Int.lt_trichotomy a.height b.height with k | k | k
    · have : ¬ b.height < a.height := by omega
      simp [h, k, this]
    · simp [h, k]
    · have : ¬ a.height < b.height := by omega
      simp [h, k, this]
  · have : ¬ a.view < b.view := by omega
    simp [h, this]
end Go.Proofs.YtcbfpdenjdgnlaaGreat
/- Package message: sameCert, sameBlock, Same: of what is one. No claim of its own; no condition. Printed by a program of this session. -/
namespace Go.Proofs.YtcbfpdenjdgnlaaGreat
open Go.ChangeShapes Go.WideShapes Go.ChangeAt Go.RowKit
set_option linter.unusedVariables false
set_option linter.unusedSimpArgs false
theorem ccells {W : World} {g : Nat} {c : Cert} {v : Value} {t : TypeId} {f : Nat × Nat} (h : W.heap[g]? = some (.cells (ccs c v) t f)) :
    W.cell? ⟨g, 0, none⟩ = some (.int .i64 c.view) ∧ W.cell? ⟨g, 1, none⟩ = some (.int .i64 c.height) ∧ W.cell? ⟨g, 2, none⟩ = some (.string c.block) ∧ W.cell? ⟨g, 3, none⟩ = some v :=
  ⟨block_cell h rfl, block_cell h rfl, block_cell h rfl, block_cell h rfl⟩
def scA (G : Nat) (c : Cert) (A1 A2 : Option Addr) (n1 c1 n2 c2 : Nat) : Nat → Value → World → Prop
  | 0, y, _ => y = .agg #[.int .i64 c.view, .int .i64 c.height, .string c.block, .slice A1 n1 c1]
  | 1, y, _ => y = .agg #[.int .i64 c.view, .int .i64 c.height, .string c.block]
  | 2, y, _ => y = .agg #[.int .i64 c.view, .int .i64 c.height, .string c.block, .slice A2 n2 c2]
  | 3, y, _ => y = .agg #[.int .i64 c.view, .int .i64 c.height, .string c.block]
  | 4, y, _ => y = .bool true
  | 5, y, _ => y = .bool true
  | 6, y, _ => y = .pointer (some ⟨G, 3, none⟩)
  | 7, y, _ => y = .slice A1 n1 c1
  | 8, y, _ => y = .pointer (some ⟨G + 1, 3, none⟩)
  | 9, y, _ => y = .slice A2 n2 c2
  | 10, y, _ => y = .bool true
  | 11, y, _ => y = .bool true
  | 12, y, _ => y = .bool true
  | _, _, _ => True
set_option maxHeartbeats 1600000 in
set_option maxRecDepth 100000 in
theorem samecert_calls (c : Cert) (A1 A2 : Option Addr) (n1 c1 n2 c2 B1 B2 : Nat) (w : World) (hn1 : n1 = c.votes.length) (hn2 : n2 = c.votes.length) (hl : c.votes.length ≤ 2097152) (hr1 : kVote.Row 52 B1 w A1 c.votes) (hr2 : kVote.Row 52 B2 w A2 c.votes) :
    Calls Tryz.prog 218 #[.agg (ccs c (.slice A1 n1 c1)), .agg (ccs c (.slice A2 n2 c2))] w fun e w' => e = .returned (.bool true) ∧ Below w.heap.size w w' := by
  have q0 := bl_alloc (bl_alloc (Below.refl w.heap.size w) (.cells (ccs c (.slice A1 n1 c1)) 37)) (.cells (ccs c (.slice A2 n2 c2)) 37)
  have hE := fun W h1 h2 => equal_kVote c.votes c.votes A1 A2 n1 c1 n2 c2 B1 B2 W hn1 hn2 hl hl h1 h2
  rw [decide_eq_true rfl] at hE
  have HE := Lib.hid hE
  have aa := alloc2_new w (.cells (ccs c (.slice A1 n1 c1)) 37) (.cells (ccs c (.slice A2 n2 c2)) 37)
  have hq : ∀ W, (binOp .eql 34 (.agg #[.int .i64 c.view, .int .i64 c.height, .string c.block]) (.agg #[.int .i64 c.view, .int .i64 c.height, .string c.block])).run Tryz.prog W = .ok (.bool true) W := fun W => by
    have := eqlMark ⟨c.view, c.height, c.block⟩ ⟨c.view, c.height, c.block⟩ W
    rwa [decide_eq_true rfl] at this
  have HQ := Lib.hid hq
  have HR1 := Lib.hid (Kd.row_below q0 hr1)
  have HR2 := Lib.hid (Kd.row_below q0 hr2)
  unfold ccs at *
  obtain ⟨G, hG⟩ : ∃ G, w.heap.size = G := ⟨_, rfl⟩
  clear hn1 hn2 hl hr1 hr2 hE hq
  go_enter Tryz.func218, Tryz.ntmps218
  go_upto_region 1 with fail
  generalize (w.alloc (.cells #[.int .i64 c.view, .int .i64 c.height, .string c.block, .slice A1 n1 c1] 37)).alloc (.cells #[.int .i64 c.view, .int .i64 c.height, .string c.block, .slice A2 n2 c2] 37) = V at *
  rw [hG] at aa
  have HG := Lib.hid aa.1
  have HG2 := Lib.hid aa.2
  have HQ0 := Lib.hid q0
  clear aa q0
  refine wp_region_invA (by kernel_rfl) (by kernel_rfl) Rb (scA G c A1 A2 n1 c1 n2 c2) rb_refl rb_trans ⟨?_, ?_, ?_, ?_, ?_, ?_, ?_, ?_, ?_, ?_, ?_, ?_, ?_, trivial⟩ ?_
  · intro Fr u hN hO w1 hR hdep K hK
    rw [if_pos (by rfl)]
    have y2 : Fr.tmps[2]? = some (.pointer (some ⟨G, 0, none⟩)) := hO 2 _ rfl rfl
    clear hN hO hdep
    obtain ⟨z0, z1, z2, z3⟩ := ccells (block_below hR HG.out)
    go_simp
    refine hK _ _ (rb_refl _) fun w3 h3 => ?_
    exact rfl
  · intro Fr u hN hO w1 hR hdep K hK
    rw [if_pos (by rfl)]
    have x0 : Fr.tmps[5]? = some (u 0) := hN 0 _ 5 rfl rfl rfl
    rw [show u 0 = .agg #[.int .i64 c.view, .int .i64 c.height, .string c.block, .slice A1 n1 c1] from hdep 0 (by kernel_rfl) w1 (rb_refl _)] at x0
    clear hN hO hdep
    go_simp
    refine (cmark_calls ⟨c.view, c.height, c.block⟩ A1 n1 c1 w1).mono ?_
    rintro x w2 ⟨rfl, b2⟩
    refine hK _ _ b2 fun w3 h3 => ?_
    exact rfl
  · intro Fr u hN hO w1 hR hdep K hK
    rw [if_pos (by rfl)]
    have y3 : Fr.tmps[3]? = some (.pointer (some ⟨G + 1, 0, none⟩)) := hO 3 _ rfl rfl
    clear hN hO hdep
    obtain ⟨z0, z1, z2, z3⟩ := ccells (block_below hR HG2.out)
    go_simp
    refine hK _ _ (rb_refl _) fun w3 h3 => ?_
    exact rfl
  · intro Fr u hN hO w1 hR hdep K hK
    rw [if_pos (by rfl)]
    have x2 : Fr.tmps[7]? = some (u 2) := hN 2 _ 7 rfl rfl rfl
    rw [show u 2 = .agg #[.int .i64 c.view, .int .i64 c.height, .string c.block, .slice A2 n2 c2] from hdep 2 (by kernel_rfl) w1 (rb_refl _)] at x2
    clear hN hO hdep
    go_simp
    refine (cmark_calls ⟨c.view, c.height, c.block⟩ A2 n2 c2 w1).mono ?_
    rintro x w2 ⟨rfl, b2⟩
    refine hK _ _ b2 fun w3 h3 => ?_
    exact rfl
  · intro Fr u hN hO w1 hR hdep K hK
    rw [if_pos (by rfl)]
    have x1 : Fr.tmps[6]? = some (u 1) := hN 1 _ 6 rfl rfl rfl
    rw [show u 1 = .agg #[.int .i64 c.view, .int .i64 c.height, .string c.block] from hdep 1 (by kernel_rfl) w1 (rb_refl _)] at x1
    have x3 : Fr.tmps[8]? = some (u 3) := hN 3 _ 8 rfl rfl rfl
    rw [show u 3 = .agg #[.int .i64 c.view, .int .i64 c.height, .string c.block] from hdep 3 (by kernel_rfl) w1 (rb_refl _)] at x3
    clear hN hO hdep
    have hq := HQ.out
    go_simp
    refine hK _ _ (rb_refl _) fun w3 h3 => ?_
    exact rfl
  · intro Fr u hN hO w1 hR hdep K hK
    rw [if_pos (by rfl)]
    have x4 : Fr.tmps[9]? = some (u 4) := hN 4 _ 9 rfl rfl rfl
    rw [show u 4 = .bool true from hdep 4 (by kernel_rfl) w1 (rb_refl _)] at x4
    clear hN hO hdep
    go_simp
    refine hK _ _ (rb_refl _) fun w3 h3 => ?_
    exact rfl
  · intro Fr u hN hO w1 hR hdep K hK
    have gx : Fr.tmps[10]? = some (u 5) := hN 5 _ 10 rfl rfl rfl
    rw [show u 5 = .bool true from hdep 5 (by kernel_rfl) w1 (rb_refl _)] at gx
    rw [if_pos (wanted_on (s := 10) rfl (by kernel_rfl) gx)]
    have y2 : Fr.tmps[2]? = some (.pointer (some ⟨G, 0, none⟩)) := hO 2 _ rfl rfl
    clear hN hO hdep gx
    go_simp
    refine hK _ _ (rb_refl _) fun w3 h3 => ?_
    exact rfl
  · intro Fr u hN hO w1 hR hdep K hK
    have gx : Fr.tmps[10]? = some (u 5) := hN 5 _ 10 rfl rfl rfl
    rw [show u 5 = .bool true from hdep 5 (by kernel_rfl) w1 (rb_refl _)] at gx
    rw [if_pos (wanted_on (s := 10) rfl (by kernel_rfl) gx)]
    have x6 : Fr.tmps[11]? = some (u 6) := hN 6 _ 11 rfl rfl rfl
    rw [show u 6 = .pointer (some ⟨G, 3, none⟩) from hdep 6 (by kernel_rfl) w1 (rb_refl _)] at x6
    clear hN hO hdep gx
    obtain ⟨z0, z1, z2, z3⟩ := ccells (block_below hR HG.out)
    go_simp
    refine hK _ _ (rb_refl _) fun w3 h3 => ?_
    exact rfl
  · intro Fr u hN hO w1 hR hdep K hK
    have gx : Fr.tmps[10]? = some (u 5) := hN 5 _ 10 rfl rfl rfl
    rw [show u 5 = .bool true from hdep 5 (by kernel_rfl) w1 (rb_refl _)] at gx
    rw [if_pos (wanted_on (s := 10) rfl (by kernel_rfl) gx)]
    have y3 : Fr.tmps[3]? = some (.pointer (some ⟨G + 1, 0, none⟩)) := hO 3 _ rfl rfl
    clear hN hO hdep gx
    go_simp
    refine hK _ _ (rb_refl _) fun w3 h3 => ?_
    exact rfl
  · intro Fr u hN hO w1 hR hdep K hK
    have gx : Fr.tmps[10]? = some (u 5) := hN 5 _ 10 rfl rfl rfl
    rw [show u 5 = .bool true from hdep 5 (by kernel_rfl) w1 (rb_refl _)] at gx
    rw [if_pos (wanted_on (s := 10) rfl (by kernel_rfl) gx)]
    have x8 : Fr.tmps[13]? = some (u 8) := hN 8 _ 13 rfl rfl rfl
    rw [show u 8 = .pointer (some ⟨G + 1, 3, none⟩) from hdep 8 (by kernel_rfl) w1 (rb_refl _)] at x8
    clear hN hO hdep gx
    obtain ⟨z0, z1, z2, z3⟩ := ccells (block_below hR HG2.out)
    go_simp
    refine hK _ _ (rb_refl _) fun w3 h3 => ?_
    exact rfl
  · intro Fr u hN hO w1 hR hdep K hK
    have gx : Fr.tmps[10]? = some (u 5) := hN 5 _ 10 rfl rfl rfl
    rw [show u 5 = .bool true from hdep 5 (by kernel_rfl) w1 (rb_refl _)] at gx
    rw [if_pos (wanted_on (s := 10) rfl (by kernel_rfl) gx)]
    have x7 : Fr.tmps[12]? = some (u 7) := hN 7 _ 12 rfl rfl rfl
    rw [show u 7 = .slice A1 n1 c1 from hdep 7 (by kernel_rfl) w1 (rb_refl _)] at x7
    have x9 : Fr.tmps[14]? = some (u 9) := hN 9 _ 14 rfl rfl rfl
    rw [show u 9 = .slice A2 n2 c2 from hdep 9 (by kernel_rfl) w1 (rb_refl _)] at x9
    clear hN hO hdep gx
    go_simp
    refine (HE.out w1 (Kd.row_below hR HR1.out) (Kd.row_below hR HR2.out)).mono ?_
    rintro x w2 ⟨rfl, b2⟩
    refine hK _ _ b2 fun w3 h3 => ?_
    exact rfl
  · intro Fr u hN hO w1 hR hdep K hK
    rw [if_pos (by rfl)]
    have x5 : Fr.tmps[10]? = some (u 5) := hN 5 _ 10 rfl rfl rfl
    rw [show u 5 = .bool true from hdep 5 (by kernel_rfl) w1 (rb_refl _)] at x5
    have x10 : Fr.tmps[15]? = some (u 10) := hN 10 _ 15 rfl rfl rfl
    rw [show u 10 = .bool true from hdep 10 (by kernel_rfl) w1 (rb_refl _)] at x10
    clear hN hO hdep
    go_simp
    refine hK _ _ (rb_refl _) fun w3 h3 => ?_
    exact rfl
  · intro Fr u hN hO w1 hR hdep K hK
    rw [if_pos (by rfl)]
    have x11 : Fr.tmps[16]? = some (u 11) := hN 11 _ 16 rfl rfl rfl
    rw [show u 11 = .bool true from hdep 11 (by kernel_rfl) w1 (rb_refl _)] at x11
    clear hN hO hdep
    go_simp
    refine hK _ _ (rb_refl _) fun w3 h3 => ?_
    exact rfl
  · intro u w' hR hall
    have e12 : u 12 = .bool true := hall 12 (by decide)
    have bw := bl_trans HQ0.out (bl_trans (bl_drew (Below.refl _ _)) hR)
    clear hall
    simp only [frameF, Act.put, List.setIfInBounds_toArray, List.set_cons_zero, List.set_cons_succ, Nat.reduceAdd, e12]
    clear e12
    go_wp2_with fail
    go_ret
    exact ⟨rfl, bw⟩
end Go.Proofs.YtcbfpdenjdgnlaaGreat
