/- Package cert: what is about a mark, by closure. No claim of its own; no condition. -/
import Derived.Test.YtglneailkgminaaGreatCertA
import Derived.Deep.RegionHeld3
import Derived.Test.YtglneailkgminaaGreatVotC
namespace Go.Proofs.YtglneailkgminaaGreat
open Go.ChangeShapes Go.WideShapes Go.ChangeAt Go.RowKit Go.Sort
set_option linter.unusedVariables false
set_option linter.unusedSimpArgs false
def Vote.mk3 (v : Vote) : Mark := ⟨v.view, v.height, v.block⟩
theorem mk3_calls (v : Vote) (w : World) :
    Calls Tryz.prog 26 #[.agg #[.int .i64 v.kind, .int .i64 v.view, .int .i64 v.height, .string v.block, .int .i64 v.ticks, .int .i64 v.signer, .string v.sig]] w
      fun e w' => e = .returned (.agg #[.int .i64 v.view, .int .i64 v.height, .string v.block]) ∧ Below w.heap.size w w' := by
  go_enter Tryz.func26, Tryz.ntmps26
  go_wp2
  refine bodyPost_ret (v := .agg #[.int .i64 v.view, .int .i64 v.height, .string v.block]) (by simp [results, Tryz.results26, go_sem]) rfl ⟨rfl, ?_⟩
  repeat (first | exact Below.refl _ _ | apply bl_alloc | apply bl_drew | (refine bl_set ?_ (by simp) _))
/-- A vote of kind 1 about m. -/
def isW (m : Mark) (v : Vote) : Bool := (v.kind == 1) && decide (v.mk3 = m)
set_option maxHeartbeats 1600000 in
set_option maxRecDepth 100000 in
theorem isabout_calls (v : Vote) (m : Mark) (b : Nat) (W : World) (h0 : W.cell? ⟨b, 0, none⟩ = some (.int .i64 m.view)) (h1 : W.cell? ⟨b, 1, none⟩ = some (.int .i64 m.height)) (h2 : W.cell? ⟨b, 2, none⟩ = some (.string m.block)) :
    Calls Tryz.prog 25 #[.agg #[.int .i64 v.kind, .int .i64 v.view, .int .i64 v.height, .string v.block, .int .i64 v.ticks, .int .i64 v.signer, .string v.sig], .pointer (some ⟨b, 0, none⟩)] W fun e w' => e = .returned (.bool (isW m v)) ∧ Below W.heap.size W w' := by
  have q := bl_alloc (Below.refl W.heap.size W) (.cells #[.int .i64 v.kind, .int .i64 v.view, .int .i64 v.height, .string v.block, .int .i64 v.ticks, .int .i64 v.signer, .string v.sig] 29)
  have a0 := alloc_new W (.cells #[.int .i64 v.kind, .int .i64 v.view, .int .i64 v.height, .string v.block, .int .i64 v.ticks, .int .i64 v.signer, .string v.sig] 29)
  have c0 := cell_below q h0
  have c1 := cell_below q h1
  have c2 := cell_below q h2
  clear h0 h1 h2
  unfold isW
  cases d1 : v.kind == 1
  · rw [Bool.false_and]
    go_enter Tryz.func25, Tryz.ntmps25
    go_upto_region 1 with fail
    generalize W.alloc (.cells #[.int .i64 v.kind, .int .i64 v.view, .int .i64 v.height, .string v.block, .int .i64 v.ticks, .int .i64 v.signer, .string v.sig] 29) = V at *
    have r0 := block_cell a0 (i := 0) rfl
    go_quiet (fail)
    go_wp2_with fail
    go_ret
    exact ⟨rfl, bl_drewN q _⟩
  · rw [Bool.true_and]
    have hq : ∀ W, (binOp .eql 24 (.agg #[.int .i64 v.view, .int .i64 v.height, .string v.block]) (.agg #[.int .i64 m.view, .int .i64 m.height, .string m.block])).run Tryz.prog W = .ok (.bool (decide (v.mk3 = m))) W := fun W => eqlMark v.mk3 m W
    generalize decide (v.mk3 = m) = r at *
    go_enter Tryz.func25, Tryz.ntmps25
    go_upto_region 1 with fail
    generalize W.alloc (.cells #[.int .i64 v.kind, .int .i64 v.view, .int .i64 v.height, .string v.block, .int .i64 v.ticks, .int .i64 v.signer, .string v.sig] 29) = V at *
    have r0 := held_cell (block_cell a0 (i := 0) rfl)
    have r1 := held_cell (block_cell a0 (i := 1) rfl)
    have r2 := held_cell (block_cell a0 (i := 2) rfl)
    have r3 := held_cell (block_cell a0 (i := 3) rfl)
    have r4 := held_cell (block_cell a0 (i := 4) rfl)
    have r5 := held_cell (block_cell a0 (i := 5) rfl)
    have r6 := held_cell (block_cell a0 (i := 6) rfl)
    have e0 := held_cell c0
    have e1 := held_cell c1
    have e2 := held_cell c2
    clear c0 c1 c2 a0
    go_region_held3 (fun w' => Below V.heap.size V w') (repeat (first | exact Below.refl _ _ | assumption | apply bl_drew | apply bl_alloc | (refine bl_trans ?_ (by assumption)))) ((go_at_call 26; refine (mk3_calls v _).mono ?_; rintro e w2 ⟨rfl, hb⟩))
    all_goals
      go_wp2_with fail
      go_ret
      exact ⟨rfl, bl_trans q (by assumption)⟩
theorem about54_calls (m : Mark) (w : World) : Calls Tryz.prog 12 #[.agg #[.int .i64 m.view, .int .i64 m.height, .string m.block]] w fun e w' => e = .returned (.func (.func 25) #[] #[.pointer (some ⟨w.heap.size, 0, none⟩)]) ∧ w' = w.alloc (.cells #[.int .i64 m.view, .int .i64 m.height, .string m.block] 24) := by
  go_enter Tryz.func12, Tryz.ntmps12
  go_wp2
  go_ret
  exact ⟨rfl, rfl⟩
end Go.Proofs.YtglneailkgminaaGreat
/- Package cert: what Check asks. No claim of its own; no condition. -/
namespace Go.Proofs.YtglneailkgminaaGreat
open Go.ChangeShapes Go.WideShapes Go.ChangeAt Go.RowKit
set_option linter.unusedVariables false
set_option linter.unusedSimpArgs false
def markC (c : Cert) : Mark := ⟨c.view, c.height, c.block⟩
/-- The one before has no lesser signer. -/
def prevGe (l : List Vote) (i : Nat) (v : Vote) : Bool := match i with
  | 0 => false
  | k + 1 => match l[k]? with
    | some p => decide (v.signer ≤ p.signer)
    | none => false
def okAt (m : Mark) (roots : List ByteArray) (l : List Vote) (i : Nat) : Bool := match l[i]? with
  | some v => isW m v && (!prevGe l i v && validV v roots)
  | none => true
def allOk (m : Mark) (roots : List ByteArray) (l : List Vote) (k : Nat) : Bool := (List.range k).all (okAt m roots l)
theorem allOk_succ (m : Mark) (roots : List ByteArray) (l : List Vote) (k : Nat) : allOk m roots l (k + 1) = (allOk m roots l k && okAt m roots l k) := by
  unfold allOk
  rw [List.range_succ, List.all_append]
  simp
theorem allOk_le {m : Mark} {roots : List ByteArray} {l : List Vote} {k n : Nat} (h : k ≤ n) (hn : allOk m roots l n = true) : allOk m roots l k = true := by
  unfold allOk at *
  rw [List.all_eq_true] at *
  intro i hi
  exact hn i (List.mem_range.2 (Nat.lt_of_lt_of_le (List.mem_range.1 hi) h))
/-- Whether a cert is right. -/
def chkC (m : Mark) (l : List Vote) (roots : List ByteArray) (q : Int) : Int :=
  if l.length = 0 then (if m = firstM then 0 else 41) else if q < 1 ∨ (l.length : Int) ≠ q then 41 else if allOk m roots l l.length = true then 0 else 41
end Go.Proofs.YtglneailkgminaaGreat
