/- cert.Make's functions: the order of statements by signer, what is about a mark, the same signer. No claim of its own; no condition. -/
import Derived.Test.YtglneailkgminaaGreatLibV
import Derived.Test.YtglneailkgminaaGreatMarksM
namespace Go.Proofs.YtglneailkgminaaGreat
open Go.ChangeShapes Go.WideShapes Go.ChangeAt Go.RowKit Go.Sort
set_option linter.unusedVariables false
set_option linter.unusedSimpArgs false
def sgnCmp (x y : Vote) : Int := Lib.compareInt x.signer y.signer
theorem sgn_lt (x y : Vote) : ltOf sgnCmp x y = decide (x.signer < y.signer) := by
  unfold ltOf sgnCmp
  rw [decide_eq_decide]
  exact (cmp_lt _ _).1
theorem sgn_swo : SWO (ltOf sgnCmp) where
  irrefl x := by rw [sgn_lt]; simp
  trans x y z h1 h2 := by rw [sgn_lt] at *; simp at *; omega
  ntrans x y z h1 h2 := by rw [sgn_lt] at *; simp at *; omega
theorem signer_calls (x y : Vote) (W : World) : Calls Tryz.prog 16 #[.agg #[.int .i64 x.kind, .int .i64 x.view, .int .i64 x.height, .string x.block, .int .i64 x.ticks, .int .i64 x.signer, .string x.sig], .agg #[.int .i64 y.kind, .int .i64 y.view, .int .i64 y.height, .string y.block, .int .i64 y.ticks, .int .i64 y.signer, .string y.sig]] W fun e w' => e = .returned (.int .i64 (sgnCmp x y)) ∧ Gd W w' := by
  have g := gd_alloc (gd_alloc (gd_refl W) (.cells #[.int .i64 x.kind, .int .i64 x.view, .int .i64 x.height, .string x.block, .int .i64 x.ticks, .int .i64 x.signer, .string x.sig] 29)) (.cells #[.int .i64 y.kind, .int .i64 y.view, .int .i64 y.height, .string y.block, .int .i64 y.ticks, .int .i64 y.signer, .string y.sig] 29)
  go_enter Tryz.func16, Tryz.ntmps16
  go_wp2_with (go_at_call 17; refine (compare_calls _ _ _).mono ?_; rintro e w' ⟨rfl, rfl⟩)
  go_ret
  exact ⟨rfl, g⟩
/-- A vote of kind 1 about m. -/
def isF (m : Mark) (v : Vote) : Bool := (v.kind == 1) && decide (v.about = m)
set_option maxRecDepth 100000 in
/-- cert.Make$1: the same signer as the captured statement's. -/
theorem same_calls (x : Vote) (s : Int) (b : Nat) (W : World) (hc : W.cell? ⟨b, 5, none⟩ = some (.int .i64 s)) :
    Calls Tryz.prog 13 (#[.agg #[.int .i64 x.kind, .int .i64 x.view, .int .i64 x.height, .string x.block, .int .i64 x.ticks, .int .i64 x.signer, .string x.sig]] ++ #[.pointer (some ⟨b, 0, none⟩)]) W fun e w' => e = .returned (.bool (x.signer == s)) ∧ Below W.heap.size W w' := by
  have q := bl_alloc (Below.refl W.heap.size W) (.cells #[.int .i64 x.kind, .int .i64 x.view, .int .i64 x.height, .string x.block, .int .i64 x.ticks, .int .i64 x.signer, .string x.sig] 29)
  have hc2 := cell_below q hc
  have e : (#[.agg #[.int .i64 x.kind, .int .i64 x.view, .int .i64 x.height, .string x.block, .int .i64 x.ticks, .int .i64 x.signer, .string x.sig]] ++ #[.pointer (some ⟨b, 0, none⟩)] : Array Value) = #[.agg #[.int .i64 x.kind, .int .i64 x.view, .int .i64 x.height, .string x.block, .int .i64 x.ticks, .int .i64 x.signer, .string x.sig], .pointer (some ⟨b, 0, none⟩)] := rfl
  rw [e]
  go_enter Tryz.func13, Tryz.ntmps13
  go_wp2
  go_ret
  exact ⟨rfl, q⟩
set_option maxRecDepth 100000 in
theorem contains_calls (l : List Vote) (A : Option Addr) (n c : Nat) (w : World) (B g : Nat) (lb : Array Value) (p : Vote → Bool) (eg : ∀ args w, (callFunc g args).run Tryz.prog w = .ok (.enter g args) w) (hn : n = l.length) (hl : l.length ≤ 2097152) (hr : kVote.Row 29 B w A l)
    (hp : ∀ x W, Below w.heap.size w W → Calls Tryz.prog g (#[.agg #[.int .i64 x.kind, .int .i64 x.view, .int .i64 x.height, .string x.block, .int .i64 x.ticks, .int .i64 x.signer, .string x.sig]] ++ lb) W fun e W' => e = .returned (.bool (p x)) ∧ Below W.heap.size W W') :
    Calls Tryz.prog 14 #[.slice A n c, .func (.func g) #[] lb] w fun e w' => e = .returned (.bool (l.any p)) ∧ Below w.heap.size w w' := by
  subst hn
  have hi := index_kVote l A _ c w B g lb p eg rfl hl hr hp
  have hk : idxF p l = -1 ∧ l.any p = false ∨ 0 ≤ idxF p l ∧ l.any p = true := by
    cases h : l.any p
    · refine .inl ⟨?_, rfl⟩
      refine idx_none fun x hx => ?_
      cases hx2 : p x
      · rfl
      · rw [List.any_eq_true.2 ⟨x, hx, hx2⟩] at h
        cases h
    · refine .inr ⟨?_, rfl⟩
      unfold idxF
      rcases hf : l.findIdx? p with _ | i
      · rw [List.findIdx?_eq_none_iff] at hf
        obtain ⟨x, hx, hx2⟩ := List.any_eq_true.1 h
        rw [hf x hx] at hx2
        cases hx2
      · exact Int.natCast_nonneg i
  have HI := Lib.hid hi
  clear hi hp hr
  generalize idxF p l = i at *
  rcases hk with ⟨h1, h2⟩ | ⟨h1, h2⟩
  · rw [h2]
    subst h1
    go_enter Tryz.func14, Tryz.ntmps14
    go_wp2_with (go_at_call 27; refine (HI.out).mono ?_; rintro e w1 ⟨rfl, b1⟩)
    go_ret
    exact ⟨rfl, b1⟩
  · rw [h2]
    have d : decide (0 ≤ i) = true := decide_eq_true h1
    go_enter Tryz.func14, Tryz.ntmps14
    go_wp2_with (go_at_call 27; refine (HI.out).mono ?_; rintro e w1 ⟨rfl, b1⟩)
    go_ret
    exact ⟨by simp [h1], b1⟩
set_option maxHeartbeats 1600000 in
set_option maxRecDepth 100000 in
theorem isaboutV_calls (v : Vote) (m : Mark) (b : Nat) (W : World) (h0 : W.cell? ⟨b, 0, none⟩ = some (.int .i64 m.view)) (h1 : W.cell? ⟨b, 1, none⟩ = some (.int .i64 m.height)) (h2 : W.cell? ⟨b, 2, none⟩ = some (.string m.block)) :
    Calls Tryz.prog 25 #[.agg #[.int .i64 v.kind, .int .i64 v.view, .int .i64 v.height, .string v.block, .int .i64 v.ticks, .int .i64 v.signer, .string v.sig], .pointer (some ⟨b, 0, none⟩)] W fun e w' => e = .returned (.bool (isF m v)) ∧ Below W.heap.size W w' := by
  have q := bl_alloc (Below.refl W.heap.size W) (.cells #[.int .i64 v.kind, .int .i64 v.view, .int .i64 v.height, .string v.block, .int .i64 v.ticks, .int .i64 v.signer, .string v.sig] 29)
  have a0 := alloc_new W (.cells #[.int .i64 v.kind, .int .i64 v.view, .int .i64 v.height, .string v.block, .int .i64 v.ticks, .int .i64 v.signer, .string v.sig] 29)
  have c0 := cell_below q h0
  have c1 := cell_below q h1
  have c2 := cell_below q h2
  clear h0 h1 h2
  unfold isF
  cases d1 : v.kind == 1
  · rw [Bool.false_and]
    go_enter Tryz.func25, Tryz.ntmps25
    go_upto_region 1 with fail
    generalize W.alloc (.cells #[.int .i64 v.kind, .int .i64 v.view, .int .i64 v.height, .string v.block, .int .i64 v.ticks, .int .i64 v.signer, .string v.sig] 29) = V at *
    have r0 := block_cell a0 (i := 0) rfl
    go_quiet (fail)
    go_wp2_with fail
    go_ret
    exact ⟨rfl, bl_drewN q _⟩
  · rw [Bool.true_and]
    have hq : ∀ W, (binOp .eql 24 (.agg #[.int .i64 v.view, .int .i64 v.height, .string v.block]) (.agg #[.int .i64 m.view, .int .i64 m.height, .string m.block])).run Tryz.prog W = .ok (.bool (decide (v.about = m))) W := fun W => eqlMark v.about m W
    generalize decide (v.about = m) = r at *
    go_enter Tryz.func25, Tryz.ntmps25
    go_upto_region 1 with fail
    generalize W.alloc (.cells #[.int .i64 v.kind, .int .i64 v.view, .int .i64 v.height, .string v.block, .int .i64 v.ticks, .int .i64 v.signer, .string v.sig] 29) = V at *
    have r0 := held_cell (block_cell a0 (i := 0) rfl)
    have r1 := held_cell (block_cell a0 (i := 1) rfl)
    have r2 := held_cell (block_cell a0 (i := 2) rfl)
    have r3 := held_cell (block_cell a0 (i := 3) rfl)
    have r4 := held_cell (block_cell a0 (i := 4) rfl)
    have r5 := held_cell (block_cell a0 (i := 5) rfl)
    have r6 := held_cell (block_cell a0 (i := 6) rfl)
    have e0 := held_cell c0
    have e1 := held_cell c1
    have e2 := held_cell c2
    clear c0 c1 c2 a0
    go_region_held3 (fun w' => Below V.heap.size V w') (repeat (first | exact Below.refl _ _ | assumption | apply bl_drew | apply bl_alloc | (refine bl_trans ?_ (by assumption)))) ((go_at_call 26; refine (about_calls v _).mono ?_; rintro e w2 ⟨rfl, hb⟩))
    all_goals
      go_wp2_with fail
      go_ret
      exact ⟨rfl, bl_trans q (by assumption)⟩
theorem about54V_calls (m : Mark) (w : World) : Calls Tryz.prog 12 #[.agg #[.int .i64 m.view, .int .i64 m.height, .string m.block]] w fun e w' => e = .returned (.func (.func 25) #[] #[.pointer (some ⟨w.heap.size, 0, none⟩)]) ∧ w' = w.alloc (.cells #[.int .i64 m.view, .int .i64 m.height, .string m.block] 24) := by
  go_enter Tryz.func12, Tryz.ntmps12
  go_wp2
  go_ret
  exact ⟨rfl, rfl⟩
end Go.Proofs.YtglneailkgminaaGreat
