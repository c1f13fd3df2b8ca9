/- Package leaves: order of uses. No claim of its own; no condition. -/
import Derived.Test.YtglneailkgminaaCmpM
namespace Go.Proofs.Ytglneailkgminaa
open Go.ChangeShapes Go.WideShapes Go.ChangeAt Go.RowKit Go.Sort
set_option linter.unusedVariables false
set_option linter.unusedSimpArgs false
def Use.toM (u : Use) : Mark := ⟨u.signer, u.leaf, u.text⟩
theorem Use.toM_inj {a b : Use} (h : a.toM = b.toM) : a = b := by cases a; cases b; simp [Use.toM] at h ⊢; exact h
def ordU (a b : Use) : Int := ordF a.toM b.toM
theorem ordU_swo : SWO (ltOf ordU) where
  irrefl := fun a => ord_swo.irrefl a.toM
  trans := fun a b c h k => ord_swo.trans a.toM b.toM c.toM h k
  ntrans := fun a b c h k => ord_swo.ntrans a.toM b.toM c.toM h k
set_option maxHeartbeats 3200000 in
set_option maxRecDepth 100000 in
theorem orderU_calls (x y : Use) (W : World) : Calls Try.prog 64 #[.agg #[.int .i64 x.signer, .int .i64 x.leaf, .string x.text], .agg #[.int .i64 y.signer, .int .i64 y.leaf, .string y.text]] W fun e w' => e = .returned (.int .i64 (ordU x y)) ∧ Gd W w' := by
  have a1 := alloc_old (alloc_new W (.cells #[.int .i64 x.signer, .int .i64 x.leaf, .string x.text] 71)) (.cells #[.int .i64 y.signer, .int .i64 y.leaf, .string y.text] 71)
  have a2 := alloc_new (W.alloc (.cells #[.int .i64 x.signer, .int .i64 x.leaf, .string x.text] 71)) (.cells #[.int .i64 y.signer, .int .i64 y.leaf, .string y.text] 71)
  have s1 : (W.alloc (.cells #[.int .i64 x.signer, .int .i64 x.leaf, .string x.text] 71)).heap.size = W.heap.size + 1 := by simp
  have g2 : Gd W ((W.alloc (.cells #[.int .i64 x.signer, .int .i64 x.leaf, .string x.text] 71)).alloc (.cells #[.int .i64 y.signer, .int .i64 y.leaf, .string y.text] 71)) := gd_alloc (gd_alloc (gd_refl W) _) _
  rw [s1] at a2
  clear s1
  have ho : orF [Lib.compareInt x.signer y.signer, Lib.compareInt x.leaf y.leaf, cmpStr x.text y.text] = ordU x y := or3 _ _ _
  have HO := Lib.hid ho
  clear ho
  go_enter Try.func64, Try.ntmps64
  go_upto_region 1 with fail
  generalize (W.alloc (.cells #[.int .i64 x.signer, .int .i64 x.leaf, .string x.text] 71)).alloc (.cells #[.int .i64 y.signer, .int .i64 y.leaf, .string y.text] 71) = V at *
  have x0 : ∀ w', Gd V w' → w'.cell? ⟨W.heap.size, 0, none⟩ = some (.int .i64 x.signer) := fun w' h => cell_below (gd_below h) (block_cell a1 (i := 0) rfl)
  have x1 : ∀ w', Gd V w' → w'.cell? ⟨W.heap.size, 1, none⟩ = some (.int .i64 x.leaf) := fun w' h => cell_below (gd_below h) (block_cell a1 (i := 1) rfl)
  have x2 : ∀ w', Gd V w' → w'.cell? ⟨W.heap.size, 2, none⟩ = some (.string x.text) := fun w' h => cell_below (gd_below h) (block_cell a1 (i := 2) rfl)
  have y0 : ∀ w', Gd V w' → w'.cell? ⟨W.heap.size + 1, 0, none⟩ = some (.int .i64 y.signer) := fun w' h => cell_below (gd_below h) (block_cell a2 (i := 0) rfl)
  have y1 : ∀ w', Gd V w' → w'.cell? ⟨W.heap.size + 1, 1, none⟩ = some (.int .i64 y.leaf) := fun w' h => cell_below (gd_below h) (block_cell a2 (i := 1) rfl)
  have y2 : ∀ w', Gd V w' → w'.cell? ⟨W.heap.size + 1, 2, none⟩ = some (.string y.text) := fun w' h => cell_below (gd_below h) (block_cell a2 (i := 2) rfl)
  clear a1 a2
  go_region_held3 (fun w' => Gd V w') (repeat (first | exact gd_refl _ | assumption | apply gd_drew | apply gd_alloc)) ((first
    | (go_at_call 46; refine (compare_calls _ _ _).mono ?_; rintro e w' ⟨rfl, rfl⟩)
    | (go_at_call 76; refine (compareS_calls _ _ _).mono ?_; rintro e w' ⟨rfl, rfl⟩)
    | (go_at_call 45; go_loud (refine (or_calls [Lib.compareInt x.signer y.signer, Lib.compareInt x.leaf y.leaf, cmpStr x.text y.text] _ 3 3 _ rfl (Nat.le_of_ble_eq_true rfl) (or3_alloc _ _ _ _)).mono ?_; rw [HO.out]; rintro e w' ⟨rfl, rfl⟩))))
  all_goals
    go_wp2_with fail
    go_ret
    exact ⟨rfl, gd_trans g2 (by first | assumption | exact gd_drew (gd_alloc (gd_refl _) _))⟩
end Go.Proofs.Ytglneailkgminaa
