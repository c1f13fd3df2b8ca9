/- Packages leaves, mootlaw33: Left of nothing, alive. No claim of its own; no condition. -/
import Derived.Test.YtglneailkgminaaLeaM
namespace Go.Proofs.Ytglneailkgminaa
open Go.ChangeShapes Go.WideShapes Go.ChangeAt Go.RowKit
set_option linter.unusedVariables false
set_option linter.unusedSimpArgs false
set_option maxHeartbeats 1600000 in
set_option maxRecDepth 100000 in
theorem left_nil (n : Int) (w : World) : Calls Try.prog 61 #[.slice none 0 0, .int .i64 n] w fun e w' => e = .returned (.int .i64 16) ∧ Below w.heap.size w w' := by
  have hmm := @run_makeMap Try.prog
  have hln : ∀ ty, (Builtin.len_ #[111] ty #[.map (some w.heap.size)]).run Try.prog (w.alloc (.map #[] 0)) = .ok (.int .i64 0) (w.alloc (.map #[] 0)) := fun ty => by
    simp [Builtin.len_, Try.underlying111, MapKept.run_getObj_map (alloc_new w (.map #[] 0)), go_sem]
  have q0 := bl_alloc (Below.refl w.heap.size w) (.map #[] 0)
  have a0 := alloc_new w (.map #[] 0)
  go_enter Try.func61, Try.ntmps61
  go_upto_region 2 with fail
  clear hmm
  generalize w.alloc (.map #[] 0) = V at *
  go_wp2_with fail
  refine wp_loop_rounds 1 ?_
  rw [rounds_succ]
  go_wp2_with fail
  go_ret
  exact ⟨rfl, q0⟩
theorem alive33_calls (w : World) : Calls Try.prog 34 #[] w fun e w' => e = .returned (.bool true) ∧ Below w.heap.size w w' := by
  go_enter Try.func34, Try.ntmps34
  go_wp2_with (go_at_call 61; refine (left_nil 1 _).mono ?_; rintro x w1 ⟨rfl, b1⟩)
  go_ret
  exact ⟨rfl, b1⟩
end Go.Proofs.Ytglneailkgminaa
