/- The law LightBest returns true, and its arguments read behind the call as they read before, for every input of which the arguments together are of bulk at most 1048576 (the statement's own bound). No other condition. -/
import Derived.Test.YtglneailkgminaaWords
import Derived.Test.YtglneailkgminaaTypes
import Derived.Test.YtglneailkgminaaLigW
namespace Go.Proofs.Ytglneailkgminaa.lightBest
open Go.ChangeShapes Go.WideShapes Go.ChangeAt Go.RowKit
open Go.ChangeMaps (open_string shut_string)
set_option linter.unusedVariables false
set_option linter.unusedSimpArgs false
theorem own : ownKnob Try.prog.godebug = none := by kernel_rfl
theorem laidOut : laidOutB Try.prog = true := by kernel_rfl
theorem types_ok : ∀ t ∈ Try.f8.params.toList, Try.prog.readableRec t = true ∧ t < Try.prog.types.size := types_of (by kernel_rfl)
set_option maxRecDepth 100000 in
theorem lifted (os : Os) (started : os.Started) (H : Type) (enc : TypeId × Value → H) (F : Stop.Interp) :
    ReturnsInHanded {} Try.checked os 8 .any ((Rows.OpenSpec.upto Rows.lightBestSpec).pre6 enc Try.prog Try.f8 Rows.lightBestUptoRow.domain false) (((Rows.OpenSpec.upto Rows.lightBestSpec).at F).post enc Try.prog Try.f8 false true false false) := by
  refine returnsInHanded_of_cond (C := Try.checked) (s := Rows.OpenSpec.upto Rows.lightBestSpec) (k := Rows.uptoSmall) rfl own started (by kernel_rfl) Try.func8
    (OpenSpec.witness (enc := enc) (C := Try.checked) (s := Rows.OpenSpec.upto Rows.lightBestSpec) (k := Rows.uptoSmall) rfl false ⟨#[], #[.agg #[.slice none 0 0, .slice none 0 0, .int .i64 0, .int .i64 0, .int .i64 0], .slice none 0 0], []⟩ 8 (by kernel_rfl) (by kernel_rfl) (by kernel_rfl)
      (x := ([.agg [.nil, .nil, .lit (.int .i64 0), .lit (.int .i64 0), .lit (.int .i64 0)], .nil], [], [])) (by kernel_rfl) rfl (by kernel_rfl)) ?_
  intro W base args ds gs before hval0 hW _ hk0 _
  have hval : ∀ (j : Nat) t v, Try.f8.params[j]? = some t → args[j]? = some v → Value.okWide Try.prog W .any base t v := hval0
  have hW' := hW
  obtain ⟨p, q, hA0, hV, rfl, hfz, hnd⟩ := hW
  have hA : DataW.TrodAll enc Try.prog W 0 (fun _ => true) true Try.f8.params.toList args.toList ds p := hA0
  rw [Try.params8] at hA hval
  obtain ⟨v0, vs0, d0, ds0, p0, q0, hargs, rfl, rfl, h0, r0⟩ := trodAll_cons hA
  obtain ⟨v1, vs1, d1, ds1, p1, q1, rfl, rfl, rfl, h1, r1⟩ := trodAll_cons r0
  obtain ⟨rfl, rfl, rfl⟩ := trodAll_nil r1
  obtain rfl : args = #[v0, v1] := by cases args; simp_all
  obtain ⟨rfl, rfl⟩ := trodVars_none hV
  have hk : Rows.uptoBulkAll ([d0, d1] ++ []) ≤ 1048576 := of_decide_eq_true hk0
  simp only [List.append_nil, Rows.uptoBulkAll] at hk
  obtain ⟨x0, k0, b0⟩ := arg_of opensConfig h0 (by omega)
  obtain ⟨cs0, rfl, z0⟩ := okWide_struct Try.underlying57 (hval 0 57 v0 rfl rfl)
  obtain ⟨A0_0, c0_0, A0_1, c0_1, e0, w0⟩ := kConfig_open k0
  obtain ⟨l0⟩ := cs0
  obtain rfl := (show l0 = _ from e0)
  obtain ⟨x1, k1, b1⟩ := arg_of (opens_slice Try.underlying63 (by kernel_rfl) (by decide) opensCert) h1 (by omega)
  obtain ⟨A1, len1, c1, rfl⟩ := okWide_slice Try.underlying63 (hval 1 63 v1 rfl rfl)
  obtain ⟨rfl, hl1, hm1, r1'⟩ := slice_of k1
  have l1 := list_bulk (d := kCert) (e := 35) b1 (fun x => Nat.le_add_left 1 _)
  refine (lightbest_x x0 x1 A0_0 A0_1 A1 c0_0 c0_1 c1 W (by omega) (by omega) hl1 (by omega) w0.2.2.1 r1').mono fun e W' ⟨he, bel⟩ => ?_
  subst he
  exact ⟨_, rfl, law_post laidOut types_ok rfl hW' rfl rfl rfl rfl Try.underlying4 bel⟩
theorem proved : Rows.LightBestUptoSaid :=
  OpenClaim.holds_of_cond 8 Try.f8 rfl rfl rfl rfl rfl rfl rfl ⟨rfl, rfl, rfl, rfl, rfl⟩ rfl rfl rfl rfl rfl (by kernel_rfl) Try.func8 (by kernel_rfl)
    (of_decide_eq_true (by kernel_rfl)) (by unfold Func.isWrapper; first | (rw [if_pos (by decide +kernel)]; kernel_rfl) | (rw [if_neg (by decide +kernel)]; exact ⟨rfl, rfl⟩))
    (fun os started H enc _ F => lifted os started H enc F)
end Go.Proofs.Ytglneailkgminaa.lightBest
namespace Go.Proofs.Ytglneailkgminaa
theorem lightBest_holds : Rows.LightBestUptoSaid := lightBest.proved
#print axioms lightBest_holds
end Go.Proofs.Ytglneailkgminaa
