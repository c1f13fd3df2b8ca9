/- The law LearnerTakes returns true, and its arguments read behind the call as they read before, for every input of which the arguments together are of bulk at most 1048576 (the statement's own bound). No other condition. -/
import Derived.Test.YtcbfpdenjdgnlaaGreatQt02
import Derived.Test.YtcbfpdenjdgnlaaGreatQt03
import Derived.Test.YtcbfpdenjdgnlaaGreatQt51
namespace Go.Proofs.YtcbfpdenjdgnlaaGreat.learnerTakes
open Go.ChangeShapes Go.WideShapes Go.ChangeAt Go.RowKit
open Go.ChangeMaps (open_string shut_string)
set_option linter.unusedVariables false
set_option linter.unusedSimpArgs false
theorem own : ownKnob Tryz.prog.godebug = none := by kernel_rfl
theorem laidOut : laidOutB Tryz.prog = true := by kernel_rfl
theorem types_ok : ∀ t ∈ Tryz.f5.params.toList, Tryz.prog.readableRec t = true ∧ t < Tryz.prog.types.size := types_of (by kernel_rfl)
set_option maxRecDepth 100000 in
theorem lifted (os : Os) (started : os.Started) (H : Type) (enc : TypeId × Value → H) (F : Stop.Interp) :
    ReturnsInHanded {} Tryz.checked os 5 .any ((Rows.OpenSpec.upto Rows.learnerTakesSpec).pre6 enc Tryz.prog Tryz.f5 Rows.learnerTakesUptoRow.domain false) (((Rows.OpenSpec.upto Rows.learnerTakesSpec).at F).post enc Tryz.prog Tryz.f5 false true false false) := by
  refine returnsInHanded_of_cond (C := Tryz.checked) (s := Rows.OpenSpec.upto Rows.learnerTakesSpec) (k := Rows.uptoSmall) rfl own started (by kernel_rfl) Tryz.func5
    (OpenSpec.witness (enc := enc) (C := Tryz.checked) (s := Rows.OpenSpec.upto Rows.learnerTakesSpec) (k := Rows.uptoSmall) rfl false ⟨#[], #[.agg #[.slice none 0 0, .slice none 0 0, .int .i64 0, .int .i64 0, .int .i64 0], .agg #[.int .i64 0, .int .i64 0], .slice none 0 0], []⟩ 8 (by kernel_rfl) (by kernel_rfl) (by kernel_rfl)
      (x := ([.agg [.nil, .nil, .lit (.int .i64 0), .lit (.int .i64 0), .lit (.int .i64 0)], .agg [.lit (.int .i64 0), .lit (.int .i64 0)], .nil], [], [])) (by kernel_rfl) rfl (by kernel_rfl)) ?_
  intro W base args ds gs before hval0 hW _ hk0 _
  have hval : ∀ (j : Nat) t v, Tryz.f5.params[j]? = some t → args[j]? = some v → Value.okWide Tryz.prog W .any base t v := hval0
  have hW' := hW
  obtain ⟨p, q, hA0, hV, rfl, hfz, hnd⟩ := hW
  have hA : DataW.TrodAll enc Tryz.prog W 0 (fun _ => true) true Tryz.f5.params.toList args.toList ds p := hA0
  rw [Tryz.params5] at hA hval
  obtain ⟨v0, vs0, d0, ds0, p0, q0, hargs, rfl, rfl, h0, r0⟩ := trodAll_cons hA
  obtain ⟨v1, vs1, d1, ds1, p1, q1, rfl, rfl, rfl, h1, r1⟩ := trodAll_cons r0
  obtain ⟨v2, vs2, d2, ds2, p2, q2, rfl, rfl, rfl, h2, r2⟩ := trodAll_cons r1
  obtain ⟨rfl, rfl, rfl⟩ := trodAll_nil r2
  obtain rfl : args = #[v0, v1, v2] := by cases args; simp_all
  obtain ⟨rfl, rfl⟩ := trodVars_none hV
  have hk : Rows.uptoBulkAll ([d0, d1, d2] ++ []) ≤ 1048576 := of_decide_eq_true hk0
  simp only [List.append_nil, Rows.uptoBulkAll] at hk
  obtain ⟨x0, k0, b0⟩ := arg_of opensConfig h0 (by omega)
  obtain ⟨cs0, rfl, z0⟩ := okWide_struct Tryz.underlying24 (hval 0 24 v0 rfl rfl)
  obtain ⟨A0_0, c0_0, A0_1, c0_1, e0, w0⟩ := kConfig_open k0
  obtain ⟨l0⟩ := cs0
  obtain rfl := (show l0 = _ from e0)
  obtain ⟨x1, k1, b1⟩ := arg_of opensRule h1 (by omega)
  obtain ⟨cs1, rfl, z1⟩ := okWide_struct Tryz.underlying26 (hval 1 26 v1 rfl rfl)
  obtain ⟨e1, w1⟩ := kRule_open k1
  obtain ⟨l1⟩ := cs1
  obtain rfl := (show l1 = _ from e1)
  obtain ⟨x2, k2, b2⟩ := arg_of (opens_slice Tryz.underlying55 (by kernel_rfl) (by decide) (opens_slice Tryz.underlying60 (by kernel_rfl) (by decide) (opens_u8 Tryz.underlying5))) h2 (by omega)
  obtain ⟨A2, len2, c2, rfl⟩ := okWide_slice Tryz.underlying55 (hval 2 55 v2 rfl rfl)
  obtain ⟨rfl, hl2, hm2, r2'⟩ := slice_of k2
  have l2 := list_bulk (d := kOct) (e := 60) b2 (fun x => Nat.le_add_left 1 _)
  refine (takes_walk ⟨x0.roots, x0.clients, x0.quorum, x0.base, x0.cap, x1.kind, x1.n⟩ x2 A0_0 A0_1 A2 _ c0_0 _ c0_1 _ c2 W rfl rfl rfl (cfg_ok (by omega)) w0.2.2.1 w0.2.2.2.2.2.1 r2' (by omega)).mono fun e W' ⟨he, bel⟩ => ?_
  subst he
  exact ⟨_, rfl, law_post laidOut types_ok rfl hW' rfl rfl rfl rfl Tryz.underlying4 bel⟩
theorem proved : Rows.LearnerTakesUptoSaid :=
  OpenClaim.holds_of_cond 5 Tryz.f5 rfl rfl rfl rfl rfl rfl rfl ⟨rfl, rfl, rfl, rfl, rfl⟩ rfl rfl rfl rfl rfl (by kernel_rfl) Tryz.func5 (by kernel_rfl)
    (of_decide_eq_true (by kernel_rfl)) (by unfold Func.isWrapper; first | (rw [if_pos (by decide +kernel)]; kernel_rfl) | (rw [if_neg (by decide +kernel)]; exact ⟨rfl, rfl⟩))
    (fun os started H enc _ F => lifted os started H enc F)
end Go.Proofs.YtcbfpdenjdgnlaaGreat.learnerTakes
namespace Go.Proofs.YtcbfpdenjdgnlaaGreat
theorem learnerTakes_holds : Rows.LearnerTakesUptoSaid := learnerTakes.proved
#print axioms learnerTakes_holds
end Go.Proofs.YtcbfpdenjdgnlaaGreat
