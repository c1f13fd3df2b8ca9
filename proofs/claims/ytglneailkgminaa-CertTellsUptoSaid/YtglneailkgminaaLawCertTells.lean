/- The law CertTells returns true, and its arguments read behind the call as they read before, for every input of which the arguments together are of bulk at most 1048576 (the statement's own bound). No other condition. -/
import Derived.Test.YtglneailkgminaaWords
import Derived.Test.YtglneailkgminaaTypes
import Derived.Test.YtglneailkgminaaLawR
namespace Go.Proofs.Ytglneailkgminaa.certTells
open Go.ChangeShapes Go.WideShapes Go.ChangeAt Go.RowKit
open Go.ChangeMaps (open_string shut_string)
set_option linter.unusedVariables false
set_option linter.unusedSimpArgs false
theorem own : ownKnob Try.prog.godebug = none := by kernel_rfl
theorem laidOut : laidOutB Try.prog = true := by kernel_rfl
theorem types_ok : ∀ t ∈ Try.f5.params.toList, Try.prog.readableRec t = true ∧ t < Try.prog.types.size := types_of (by kernel_rfl)
set_option maxRecDepth 100000 in
theorem lifted (os : Os) (started : os.Started) (H : Type) (enc : TypeId × Value → H) (F : Stop.Interp) :
    ReturnsInHanded {} Try.checked os 5 .any ((Rows.OpenSpec.upto Rows.certTellsSpec).pre6 enc Try.prog Try.f5 Rows.certTellsUptoRow.domain false) (((Rows.OpenSpec.upto Rows.certTellsSpec).at F).post enc Try.prog Try.f5 false true false false) := by
  refine returnsInHanded_of_cond (C := Try.checked) (s := Rows.OpenSpec.upto Rows.certTellsSpec) (k := Rows.uptoSmall) rfl own started (by kernel_rfl) Try.func5
    (OpenSpec.witness (enc := enc) (C := Try.checked) (s := Rows.OpenSpec.upto Rows.certTellsSpec) (k := Rows.uptoSmall) rfl false ⟨#[], #[.agg #[.int .i64 0, .int .i64 0, .string .empty, .slice none 0 0], .slice none 0 0, .int .i64 0, .agg #[.int .i64 0, .int .i64 0, .string .empty], .agg #[.int .i64 0, .int .i64 0, .string .empty]], []⟩ 8 (by kernel_rfl) (by kernel_rfl) (by kernel_rfl)
      (x := ([.agg [.lit (.int .i64 0), .lit (.int .i64 0), .lit (.string []), .nil], .nil, .lit (.int .i64 0), .agg [.lit (.int .i64 0), .lit (.int .i64 0), .lit (.string [])], .agg [.lit (.int .i64 0), .lit (.int .i64 0), .lit (.string [])]], [], [])) (by kernel_rfl) rfl (by kernel_rfl)) ?_
  intro W base args ds gs before hval0 hW _ hk0 _
  have hval : ∀ (j : Nat) t v, Try.f5.params[j]? = some t → args[j]? = some v → Value.okWide Try.prog W .any base t v := hval0
  have hW' := hW
  obtain ⟨p, q, hA0, hV, rfl, hfz, hnd⟩ := hW
  have hA : DataW.TrodAll enc Try.prog W 0 (fun _ => true) true Try.f5.params.toList args.toList ds p := hA0
  rw [Try.params5] at hA hval
  obtain ⟨v0, vs0, d0, ds0, p0, q0, hargs, rfl, rfl, h0, r0⟩ := trodAll_cons hA
  obtain ⟨v1, vs1, d1, ds1, p1, q1, rfl, rfl, rfl, h1, r1⟩ := trodAll_cons r0
  obtain ⟨v2, vs2, d2, ds2, p2, q2, rfl, rfl, rfl, h2, r2⟩ := trodAll_cons r1
  obtain ⟨v3, vs3, d3, ds3, p3, q3, rfl, rfl, rfl, h3, r3⟩ := trodAll_cons r2
  obtain ⟨v4, vs4, d4, ds4, p4, q4, rfl, rfl, rfl, h4, r4⟩ := trodAll_cons r3
  obtain ⟨rfl, rfl, rfl⟩ := trodAll_nil r4
  obtain rfl : args = #[v0, v1, v2, v3, v4] := by cases args; simp_all
  obtain ⟨rfl, rfl⟩ := trodVars_none hV
  have hk : Rows.uptoBulkAll ([d0, d1, d2, d3, d4] ++ []) ≤ 1048576 := of_decide_eq_true hk0
  simp only [List.append_nil, Rows.uptoBulkAll] at hk
  obtain ⟨x0, k0, b0⟩ := arg_of opensCert h0 (by omega)
  obtain ⟨cs0, rfl, z0⟩ := okWide_struct Try.underlying35 (hval 0 35 v0 rfl rfl)
  obtain ⟨A0_0, c0_0, e0, w0⟩ := kCert_open k0
  obtain ⟨l0⟩ := cs0
  obtain rfl := (show l0 = _ from e0)
  obtain ⟨x1, k1, b1⟩ := arg_of (opens_slice Try.underlying36 (by kernel_rfl) (by decide) (opens_str Try.underlying9)) h1 (by omega)
  obtain ⟨A1, len1, c1, rfl⟩ := okWide_slice Try.underlying36 (hval 1 36 v1 rfl rfl)
  obtain ⟨rfl, hl1, hm1, r1'⟩ := slice_of k1
  have l1 := list_bulk (d := Kd.str) (e := 9) b1 (fun x => Nat.le_add_left 1 _)
  obtain ⟨a2, rfl, rfl, rfl, w2⟩ := open_int Try.underlying3 (hval 2 3 v2 rfl rfl) h2
  obtain ⟨x3, k3, b3⟩ := arg_of opensMark h3 (by omega)
  obtain ⟨cs3, rfl, z3⟩ := okWide_struct Try.underlying26 (hval 3 26 v3 rfl rfl)
  obtain ⟨e3, w3⟩ := kMark_open k3
  obtain ⟨l3⟩ := cs3
  obtain rfl := (show l3 = _ from e3)
  obtain ⟨x4, k4, b4⟩ := arg_of opensMark h4 (by omega)
  obtain ⟨cs4, rfl, z4⟩ := okWide_struct Try.underlying26 (hval 4 26 v4 rfl rfl)
  obtain ⟨e4, w4⟩ := kMark_open k4
  obtain ⟨l4⟩ := cs4
  obtain rfl := (show l4 = _ from e4)
  refine (certtells_x x0 x1 a2 x3 x4 A0_0 A1 c0_0 c1 W (by omega) (by omega) w0.2.2.2.2.2 r1').mono fun e W' ⟨he, bel⟩ => ?_
  subst he
  exact ⟨_, rfl, law_post laidOut types_ok rfl hW' rfl rfl rfl rfl Try.underlying4 bel⟩
theorem proved : Rows.CertTellsUptoSaid :=
  OpenClaim.holds_of_cond 5 Try.f5 rfl rfl rfl rfl rfl rfl rfl ⟨rfl, rfl, rfl, rfl, rfl⟩ rfl rfl rfl rfl rfl (by kernel_rfl) Try.func5 (by kernel_rfl)
    (of_decide_eq_true (by kernel_rfl)) (by unfold Func.isWrapper; first | (rw [if_pos (by decide +kernel)]; kernel_rfl) | (rw [if_neg (by decide +kernel)]; exact ⟨rfl, rfl⟩))
    (fun os started H enc _ F => lifted os started H enc F)
end Go.Proofs.Ytglneailkgminaa.certTells
namespace Go.Proofs.Ytglneailkgminaa
theorem certTells_holds : Rows.CertTellsUptoSaid := certTells.proved
#print axioms certTells_holds
end Go.Proofs.Ytglneailkgminaa
