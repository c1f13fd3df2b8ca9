/- The law CertRight returns true, and its arguments read behind the call as they read before, for every input of which the arguments together are of bulk at most 1048576 (the statement's own bound). No other condition. -/
import Derived.Test.YtglneailkgminaaGreatWords
import Derived.Test.YtglneailkgminaaGreatTypes
import Derived.Test.YtglneailkgminaaGreatCertQ
namespace Go.Proofs.YtglneailkgminaaGreat.certRight
open Go.ChangeShapes Go.WideShapes Go.ChangeAt Go.RowKit
open Go.ChangeMaps (open_string shut_string)
set_option linter.unusedVariables false
set_option linter.unusedSimpArgs false
theorem own : ownKnob Tryz.prog.godebug = none := by kernel_rfl
theorem laidOut : laidOutB Tryz.prog = true := by kernel_rfl
theorem types_ok : ∀ t ∈ Tryz.f3.params.toList, Tryz.prog.readableRec t = true ∧ t < Tryz.prog.types.size := types_of (by kernel_rfl)
set_option maxRecDepth 100000 in
theorem lifted (os : Os) (started : os.Started) (H : Type) (enc : TypeId × Value → H) (F : Stop.Interp) :
    ReturnsInHanded {} Tryz.checked os 3 .any ((Rows.OpenSpec.upto Rows.certRightSpec).pre6 enc Tryz.prog Tryz.f3 Rows.certRightUptoRow.domain false) (((Rows.OpenSpec.upto Rows.certRightSpec).at F).post enc Tryz.prog Tryz.f3 false true false false) := by
  refine returnsInHanded_of_cond (C := Tryz.checked) (s := Rows.OpenSpec.upto Rows.certRightSpec) (k := Rows.uptoSmall) rfl own started (by kernel_rfl) Tryz.func3
    (OpenSpec.witness (enc := enc) (C := Tryz.checked) (s := Rows.OpenSpec.upto Rows.certRightSpec) (k := Rows.uptoSmall) rfl false ⟨#[], #[.slice none 0 0, .agg #[.int .i64 0, .int .i64 0, .string .empty], .slice none 0 0], []⟩ 8 (by kernel_rfl) (by kernel_rfl) (by kernel_rfl)
      (x := ([.nil, .agg [.lit (.int .i64 0), .lit (.int .i64 0), .lit (.string [])], .nil], [], [])) (by kernel_rfl) rfl (by kernel_rfl)) ?_
  intro W base args ds gs before hval0 hW _ hk0 _
  have hval : ∀ (j : Nat) t v, Tryz.f3.params[j]? = some t → args[j]? = some v → Value.okWide Tryz.prog W .any base t v := hval0
  have hW' := hW
  obtain ⟨p, q, hA0, hV, rfl, hfz, hnd⟩ := hW
  have hA : DataW.TrodAll enc Tryz.prog W 0 (fun _ => true) true Tryz.f3.params.toList args.toList ds p := hA0
  rw [Tryz.params3] at hA hval
  obtain ⟨v0, vs0, d0, ds0, p0, q0, hargs, rfl, rfl, h0, r0⟩ := trodAll_cons hA
  obtain ⟨v1, vs1, d1, ds1, p1, q1, rfl, rfl, rfl, h1, r1⟩ := trodAll_cons r0
  obtain ⟨v2, vs2, d2, ds2, p2, q2, rfl, rfl, rfl, h2, r2⟩ := trodAll_cons r1
  obtain ⟨rfl, rfl, rfl⟩ := trodAll_nil r2
  obtain rfl : args = #[v0, v1, v2] := by cases args; simp_all
  obtain ⟨rfl, rfl⟩ := trodVars_none hV
  have hk : Rows.uptoBulkAll ([d0, d1, d2] ++ []) ≤ 1048576 := of_decide_eq_true hk0
  simp only [List.append_nil, Rows.uptoBulkAll] at hk
  obtain ⟨x0, k0, b0⟩ := arg_of (opens_slice Tryz.underlying22 (by kernel_rfl) (by decide) opensVote) h0 (by omega)
  obtain ⟨A0, len0, c0, rfl⟩ := okWide_slice Tryz.underlying22 (hval 0 22 v0 rfl rfl)
  obtain ⟨rfl, hl0, hm0, r0'⟩ := slice_of k0
  have l0 := list_bulk (d := kVote) (e := 29) b0 (fun x => Nat.le_add_left 1 _)
  obtain ⟨x1, k1, b1⟩ := arg_of opensMark h1 (by omega)
  obtain ⟨cs1, rfl, z1⟩ := okWide_struct Tryz.underlying24 (hval 1 24 v1 rfl rfl)
  obtain ⟨e1, w1⟩ := kMark_open k1
  obtain ⟨l1⟩ := cs1
  obtain rfl := (show l1 = _ from e1)
  obtain ⟨x2, k2, b2⟩ := arg_of (opens_slice Tryz.underlying25 (by kernel_rfl) (by decide) (opens_str Tryz.underlying9)) h2 (by omega)
  obtain ⟨A2, len2, c2, rfl⟩ := okWide_slice Tryz.underlying25 (hval 2 25 v2 rfl rfl)
  obtain ⟨rfl, hl2, hm2, r2'⟩ := slice_of k2
  have l2 := list_bulk (d := Kd.str) (e := 9) b2 (fun x => Nat.le_add_left 1 _)
  refine (certright_walk x0 x1 x2 A0 A2 c0 c2 W (by omega) (by omega) r0' r2').mono fun e W' ⟨he, bel⟩ => ?_
  subst he
  exact ⟨_, rfl, law_post laidOut types_ok rfl hW' rfl rfl rfl rfl Tryz.underlying4 bel⟩
theorem proved : Rows.CertRightUptoSaid :=
  OpenClaim.holds_of_cond 3 Tryz.f3 rfl rfl rfl rfl rfl rfl rfl ⟨rfl, rfl, rfl, rfl, rfl⟩ rfl rfl rfl rfl rfl (by kernel_rfl) Tryz.func3 (by kernel_rfl)
    (of_decide_eq_true (by kernel_rfl)) (by unfold Func.isWrapper; first | (rw [if_pos (by decide +kernel)]; kernel_rfl) | (rw [if_neg (by decide +kernel)]; exact ⟨rfl, rfl⟩))
    (fun os started H enc _ F => lifted os started H enc F)
end Go.Proofs.YtglneailkgminaaGreat.certRight
namespace Go.Proofs.YtglneailkgminaaGreat
theorem certRight_holds : Rows.CertRightUptoSaid := certRight.proved
#print axioms certRight_holds
end Go.Proofs.YtglneailkgminaaGreat
