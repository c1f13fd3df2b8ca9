/- Package rule: Marks; the law's helpers. No claim of its own; no condition. -/
import Derived.Test.YtglneailkgminaaGreatSortM
import Derived.Test.YtglneailkgminaaGreatWordsB
namespace Go.Proofs.YtglneailkgminaaGreat
open Go.ChangeShapes Go.WideShapes Go.ChangeAt Go.RowKit Go.Sort
set_option linter.unusedVariables false
set_option linter.unusedSimpArgs false
def Vote.about (v : Vote) : Mark := ⟨v.view, v.height, v.block⟩
theorem about_calls (v : Vote) (w : World) :
    Calls Tryz.prog 26 #[.agg #[.int .i64 v.kind, .int .i64 v.view, .int .i64 v.height, .string v.block, .int .i64 v.ticks, .int .i64 v.signer, .string v.sig]] w
      fun e w' => e = .returned (.agg #[.int .i64 v.view, .int .i64 v.height, .string v.block]) ∧ Below w.heap.size w w' := by
  go_enter Tryz.func26, Tryz.ntmps26
  go_wp2
  refine bodyPost_ret (v := .agg #[.int .i64 v.view, .int .i64 v.height, .string v.block]) (by simp [results, Tryz.results26, go_sem]) rfl ⟨rfl, ?_⟩
  repeat (first | exact Below.refl _ _ | apply bl_alloc | apply bl_drew | (refine bl_set ?_ (by simp) _))
/-- A statement of commit or held. -/
def saysB (v : Vote) : Bool := (v.kind == 2) || (v.kind == 3)
def marksIn (l : List Vote) : List Mark := (l.filter saysB).map Vote.about
theorem marks_step {l : List Vote} {k : Nat} {x : Vote} (h : l[k]? = some x) : marksIn (l.take (k + 1)) = marksIn (l.take k) ++ (if saysB x then [x.about] else []) := by
  unfold marksIn
  rw [List.take_add_one, h, List.filter_append, List.map_append]
  cases hp : saysB x <;> simp [hp]
theorem marks_le (l : List Vote) (k : Nat) : (marksIn (l.take k)).length ≤ k := by
  unfold marksIn
  rw [List.length_map]
  exact Nat.le_trans (List.length_filter_le _ _) (by rw [List.length_take]; omega)
end Go.Proofs.YtglneailkgminaaGreat
