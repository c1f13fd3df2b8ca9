/- Package cert: First, Mark, Check of no statements, Higher. No claim of its own; no condition. -/
import Derived.Test.YtglneailkgminaaGreatRepL
import Derived.Test.YtglneailkgminaaGreatCmpM
import Derived.Test.YtglneailkgminaaGreatWordsB
namespace Go.Proofs.YtglneailkgminaaGreat
open Go.ChangeShapes Go.WideShapes Go.ChangeAt Go.RowKit Go.Sort
set_option linter.unusedVariables false
set_option linter.unusedSimpArgs false
/-- 32 octets 0. -/
def firstB : ByteArray := ⟨(Lib.repeatL [0] 32).toArray⟩
def firstM : Mark := ⟨0, 0, firstB⟩
theorem repeat_calls (w : World) : Calls Tryz.prog 21 #[.string ⟨#[0]⟩, .int .i64 32] w fun e w' => e = .returned (.string firstB) ∧ Below w.heap.size w w' := by
  have h := Any.strings_Repeat Tryz.laysRepeat Tryz.extraRepeat ⟨#[0]⟩ 32 w (by omega) (by decide)
  have e : Tryz.laysRepeat_ren.f 105 = 21 := by kernel_rfl
  rw [e] at h
  exact h
theorem first_at (fb : ByteArray) (hrc : ∀ W, Calls Tryz.prog 21 #[.string ⟨#[0]⟩, .int .i64 32] W fun e w' => e = .returned (.string fb) ∧ Below W.heap.size W w') (w : World) : Calls Tryz.prog 8 #[] w fun e w' => e = .returned (.agg #[.int .i64 0, .int .i64 0, .string fb, .slice none 0 0]) ∧ Below w.heap.size w w' := by
  have q0 := bl_alloc (Below.refl w.heap.size w) (.cells #[.int .i64 0, .int .i64 0, .string ⟨#[]⟩, .slice none 0 0] 31)
  have a0 := alloc_new w (.cells #[.int .i64 0, .int .i64 0, .string ⟨#[]⟩, .slice none 0 0] 31)
  go_enter Tryz.func8, Tryz.ntmps8
  go_upto_region 1 with fail
  generalize w.alloc (.cells #[.int .i64 0, .int .i64 0, .string ⟨#[]⟩, .slice none 0 0] 31) = W at *
  go_wp2_with (go_at_call 21; refine (hrc _).mono ?_; rintro e w5 ⟨rfl, b5⟩; have hR := block_below b5 a0; have r0 := block_cell hR (i := 0) rfl; have r1 := block_cell hR (i := 1) rfl; have r2 := block_cell hR (i := 2) rfl; have r3 := block_cell hR (i := 3) rfl; have f0 := frozen_of_row _ _ 0 _ 31 hR; have f1 := frozen_of_row _ _ 1 _ 31 hR; have f2 := frozen_of_row _ _ 2 _ 31 hR; have f3 := frozen_of_row _ _ 3 _ 31 hR)
  refine bodyPost_ret (v := .agg #[.int .i64 0, .int .i64 0, .string fb, .slice none 0 0]) (by simp [results, Tryz.results8, go_sem, r0, r1, r2, r3]) rfl ⟨rfl, ?_⟩
  have hq := bl_trans q0 b5
  have le : w.heap.size ≤ w.heap.size := Nat.le_refl _
  exact bl_set (bl_set (bl_set (bl_set hq le _) le _) le _) le _
theorem firstmark_calls (w : World) : Calls Tryz.prog 8 #[] w fun e w' => e = .returned (.agg #[.int .i64 0, .int .i64 0, .string firstB, .slice none 0 0]) ∧ Below w.heap.size w w' := first_at firstB repeat_calls w
theorem cmark_calls (m : Mark) (A : Option Addr) (n c : Nat) (w : World) :
    Calls Tryz.prog 19 #[.agg #[.int .i64 m.view, .int .i64 m.height, .string m.block, .slice A n c]] w fun e w' => e = .returned (.agg #[.int .i64 m.view, .int .i64 m.height, .string m.block]) ∧ Below w.heap.size w w' := by
  go_enter Tryz.func19, Tryz.ntmps19
  go_wp2
  refine bodyPost_ret (v := .agg #[.int .i64 m.view, .int .i64 m.height, .string m.block]) (by simp [results, Tryz.results19, go_sem]) rfl ⟨rfl, ?_⟩
  repeat (first | exact Below.refl _ _ | apply bl_alloc | apply bl_drew | (refine bl_set ?_ (by simp) _))
theorem check_none (m : Mark) (w : World) :
    Calls Tryz.prog 7 #[.agg #[.int .i64 m.view, .int .i64 m.height, .string m.block, .slice none 0 0], .slice none 0 0, .int .i64 3] w fun e w' => e = .returned (.int .i64 (if m = firstM then 0 else 41)) ∧ Below w.heap.size w w' := by
  have q0 := bl_alloc (Below.refl w.heap.size w) (.cells #[.int .i64 m.view, .int .i64 m.height, .string m.block, .slice none 0 0] 31)
  have a0 := alloc_new w (.cells #[.int .i64 m.view, .int .i64 m.height, .string m.block, .slice none 0 0] 31)
  obtain ⟨z, hz⟩ : ∃ z, z = firstM := ⟨_, rfl⟩
  have hfc : ∀ W, Calls Tryz.prog 8 #[] W fun e w' => e = .returned (.agg #[.int .i64 z.view, .int .i64 z.height, .string z.block, .slice none 0 0]) ∧ Below W.heap.size W w' := fun W => by rw [hz]; exact firstmark_calls W
  rw [← hz]
  clear hz
  by_cases h : m = z
  · have hq : ∀ W, (binOp .eql 24 (.agg #[.int .i64 m.view, .int .i64 m.height, .string m.block]) (.agg #[.int .i64 z.view, .int .i64 z.height, .string z.block])).run Tryz.prog W = .ok (.bool true) W := fun W => by rw [eqlMark, decide_eq_true h]
    rw [if_pos h]
    clear h
    go_enter Tryz.func7, Tryz.ntmps7
    go_upto_region 1 with fail
    generalize w.alloc (.cells #[.int .i64 m.view, .int .i64 m.height, .string m.block, .slice none 0 0] 31) = W at *
    have r0 := block_cell a0 (i := 0) rfl
    have r1 := block_cell a0 (i := 1) rfl
    have r2 := block_cell a0 (i := 2) rfl
    have r3 := block_cell a0 (i := 3) rfl
    go_wp2_with (first
      | (go_at_call 8; refine (hfc _).mono ?_; rintro e w2 ⟨rfl, b2⟩)
      | (go_at_call_of 19 (Value.agg #[.int .i64 m.view, .int .i64 m.height, .string m.block, .slice none 0 0]); refine (cmark_calls m _ _ _ _).mono ?_; rintro e w1 ⟨rfl, b1⟩)
      | (go_at_call_of 19 (Value.agg #[.int .i64 z.view, .int .i64 z.height, .string z.block, .slice none 0 0]); refine (cmark_calls z _ _ _ _).mono ?_; rintro e w3 ⟨rfl, b3⟩))
    go_ret
    exact ⟨rfl, bl_trans q0 (bl_trans b1 (bl_trans b2 b3))⟩
  · have hq : ∀ W, (binOp .eql 24 (.agg #[.int .i64 m.view, .int .i64 m.height, .string m.block]) (.agg #[.int .i64 z.view, .int .i64 z.height, .string z.block])).run Tryz.prog W = .ok (.bool false) W := fun W => by rw [eqlMark, decide_eq_false h]
    rw [if_neg h]
    clear h
    go_enter Tryz.func7, Tryz.ntmps7
    go_upto_region 1 with fail
    generalize w.alloc (.cells #[.int .i64 m.view, .int .i64 m.height, .string m.block, .slice none 0 0] 31) = W at *
    have r0 := block_cell a0 (i := 0) rfl
    have r1 := block_cell a0 (i := 1) rfl
    have r2 := block_cell a0 (i := 2) rfl
    have r3 := block_cell a0 (i := 3) rfl
    go_wp2_with (first
      | (go_at_call 8; refine (hfc _).mono ?_; rintro e w2 ⟨rfl, b2⟩)
      | (go_at_call_of 19 (Value.agg #[.int .i64 m.view, .int .i64 m.height, .string m.block, .slice none 0 0]); refine (cmark_calls m _ _ _ _).mono ?_; rintro e w1 ⟨rfl, b1⟩)
      | (go_at_call_of 19 (Value.agg #[.int .i64 z.view, .int .i64 z.height, .string z.block, .slice none 0 0]); refine (cmark_calls z _ _ _ _).mono ?_; rintro e w3 ⟨rfl, b3⟩; have s3 := cell_below (bl_trans b1 (bl_trans b2 b3)) r3))
    go_ret
    exact ⟨rfl, bl_trans q0 (bl_trans b1 (bl_trans b2 b3))⟩
theorem alive09_calls (w : World) : Calls Tryz.prog 4 #[] w fun e w' => e = .returned (.bool true) ∧ Below w.heap.size w w' := by
  obtain ⟨z, hz⟩ : ∃ z, z = firstM := ⟨_, rfl⟩
  have hfc : ∀ W, Calls Tryz.prog 8 #[] W fun e w' => e = .returned (.agg #[.int .i64 z.view, .int .i64 z.height, .string z.block, .slice none 0 0]) ∧ Below W.heap.size W w' := fun W => by rw [hz]; exact firstmark_calls W
  have h1 := fun W => check_none z W
  have h2 := fun W => check_none ⟨0, 0, ⟨#[]⟩⟩ W
  rw [← hz] at h1 h2
  simp only [if_true] at h1
  rw [if_neg (by rw [hz]; intro h; injection h with _ _ h; exact absurd (congrArg ByteArray.size h) (by decide))] at h2
  have H1 := Lib.hid h1
  have H2 := Lib.hid h2
  clear h1 h2 hz
  go_enter Tryz.func4, Tryz.ntmps4
  go_wp2_with (first
    | (go_at_call 8; refine (hfc _).mono ?_; rintro e w1 ⟨rfl, b1⟩)
    | (go_at_call_of 7 (Value.agg #[.int .i64 z.view, .int .i64 z.height, .string z.block, .slice none 0 0]); refine (H1.out _).mono ?_; rintro e w2 ⟨rfl, b2⟩)
    | (go_at_call_of 7 (Value.agg #[.int .i64 0, .int .i64 0, .string ⟨#[]⟩, .slice none 0 0]); refine (H2.out _).mono ?_; rintro e w3 ⟨rfl, b3⟩))
  go_ret
  exact ⟨rfl, bl_trans b1 (bl_trans b2 b3)⟩
def higherF (a b : Mark) : Bool := decide (b.view < a.view) || (decide (a.view = b.view) && decide (b.height < a.height))
theorem higher_or (a b : Mark) : decide (orF [Lib.compareInt a.view b.view, Lib.compareInt a.height b.height] > 0) = higherF a b := by
  rw [or2]
  unfold higherF Lib.compareInt
  rcases Int.lt_trichotomy a.view b.view with h | h | h
  · have : ¬ b.view < a.view := by omega
    have n : ¬ a.view = b.view := by omega
    simp [h, this, n]
  · rcases Int.lt_trichotomy a.height b.height with k | k | k
    · have : ¬ b.height < a.height := by omega
      simp [h, k, this]
    · simp [h, k]
    · have : ¬ a.height < b.height := by omega
      simp [h, k, this]
  · have : ¬ a.view < b.view := by omega
    simp [h, this]
end Go.Proofs.YtglneailkgminaaGreat
