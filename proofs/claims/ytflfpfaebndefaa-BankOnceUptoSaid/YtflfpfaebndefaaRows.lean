/-
  No cell of these rows narrows 'for every input' (looked for: loops, veiled, ifaces, maps, wideKeys, modest, calm, conditions, laid).
  DERIVED. THE GIVEN ROWS OF THIS SEAT. 12 by the template 'for every input the law returns true; each argument reads behind the call as it read before'; 0 by the template 'total and deterministic' (their statements: YtflfpfaebndefaaTotals.lean).
  GIVEN WITH THE SEED: the statements are not yours to turn. If you find one false, say at which input.
  Laid BY PROGRAM, IN A SANDBOX (cutbox-rows.mjs): the forced cells as the released guide's own fill.sh prints them over the translation e7ca1d3a6df3bd7b… (all of the seat's roots in one cut). By AI agents, Wed Nov 11 2026. No macro, syntax, notation, axiom, sorry.
-/
import Derived.Test.YtflfpfaebndefaaChecked
import GoSem.Claim
import GoSem.ClaimJoined
import GoSem.ClaimMapViews
import Derived.JoinedTies
import Derived.KernelRfl
namespace Go.Proofs.Ytflfpfaebndefaa
/- THE CELL 'sum', in the pinned program and in every row, IS THE sha256 OF THE DUMP (.gsa) THAT YtflfpfaebndefaaProg.lean LOADS. Nothing in Lean hashes anything: it is a label: what it is worth is what the hold of that sum in a sandbox is worth. -/
noncomputable def Try.pinned : Pinned := { name := "ytflfpfaebndefaa", sum := "e7ca1d3a6df3bd7b0615c43be902c72c1faf0dfa780775c3adf2a60d28a1d099", checked := Try.checked }
namespace Rows
def none {H : Type} : Left H := { results := [], args := [] }

/-- 'mootlaw18.PaceRises': WHATEVER THE INPUT: true; the input reads as it did. -/
def paceRisesSpec : ChangeSpec := { name := "paceRises", fn := fun _ => fun
  | [d1, d2, d3] => { results := [.lit (.bool true)], args := [d1, d2, d3] }
  | _ => none }
def paceRisesRow : OpenClaim := { program := "ytflfpfaebndefaa", sum := "e7ca1d3a6df3bd7b0615c43be902c72c1faf0dfa780775c3adf2a60d28a1d099", func := "moot/mootlaw18.PaceRises", spec := "paceRises", unfollowed := true, recurses := true, apart := false }
def PaceRisesSaid : Prop := paceRisesRow.holds Try.pinned (OpenSpec.ofChange paceRisesSpec)

/-- ITS FALSE NEIGHBOUR: 'it returns false'. Refute it at one input. -/
def paceRisesWrong : ChangeSpec := { name := "paceRises", fn := fun _ => fun
  | [d1, d2, d3] => { results := [.lit (.bool false)], args := [d1, d2, d3] }
  | _ => none }
def PaceRisesWrongFalsely : Prop := paceRisesRow.holds Try.pinned (OpenSpec.ofChange paceRisesWrong)

/-- 'mootlaw18.PaceTells': WHATEVER THE INPUT: true; the input reads as it did. -/
def paceTellsSpec : ChangeSpec := { name := "paceTells", fn := fun _ => fun
  | [d1, d2, d3, d4, d5] => { results := [.lit (.bool true)], args := [d1, d2, d3, d4, d5] }
  | _ => none }
def paceTellsRow : OpenClaim := { program := "ytflfpfaebndefaa", sum := "e7ca1d3a6df3bd7b0615c43be902c72c1faf0dfa780775c3adf2a60d28a1d099", func := "moot/mootlaw18.PaceTells", spec := "paceTells", unfollowed := true, recurses := true, apart := false }
def PaceTellsSaid : Prop := paceTellsRow.holds Try.pinned (OpenSpec.ofChange paceTellsSpec)

/-- ITS FALSE NEIGHBOUR: 'it returns false'. Refute it at one input. -/
def paceTellsWrong : ChangeSpec := { name := "paceTells", fn := fun _ => fun
  | [d1, d2, d3, d4, d5] => { results := [.lit (.bool false)], args := [d1, d2, d3, d4, d5] }
  | _ => none }
def PaceTellsWrongFalsely : Prop := paceTellsRow.holds Try.pinned (OpenSpec.ofChange paceTellsWrong)

/-- 'mootlaw18.PaceDue': WHATEVER THE INPUT: true; the input reads as it did. -/
def paceDueSpec : ChangeSpec := { name := "paceDue", fn := fun _ => fun
  | [d1, d2, d3, d4] => { results := [.lit (.bool true)], args := [d1, d2, d3, d4] }
  | _ => none }
def paceDueRow : OpenClaim := { program := "ytflfpfaebndefaa", sum := "e7ca1d3a6df3bd7b0615c43be902c72c1faf0dfa780775c3adf2a60d28a1d099", func := "moot/mootlaw18.PaceDue", spec := "paceDue", unfollowed := true, recurses := true, apart := false }
def PaceDueSaid : Prop := paceDueRow.holds Try.pinned (OpenSpec.ofChange paceDueSpec)

/-- ITS FALSE NEIGHBOUR: 'it returns false'. Refute it at one input. -/
def paceDueWrong : ChangeSpec := { name := "paceDue", fn := fun _ => fun
  | [d1, d2, d3, d4] => { results := [.lit (.bool false)], args := [d1, d2, d3, d4] }
  | _ => none }
def PaceDueWrongFalsely : Prop := paceDueRow.holds Try.pinned (OpenSpec.ofChange paceDueWrong)

/-- 'mootlaw21.RuleMore': WHATEVER THE INPUT: true; the input reads as it did. -/
def ruleMoreSpec : ChangeSpec := { name := "ruleMore", fn := fun _ => fun
  | [d1, d2, d3, d4, d5] => { results := [.lit (.bool true)], args := [d1, d2, d3, d4, d5] }
  | _ => none }
def ruleMoreRow : OpenClaim := { program := "ytflfpfaebndefaa", sum := "e7ca1d3a6df3bd7b0615c43be902c72c1faf0dfa780775c3adf2a60d28a1d099", func := "moot/mootlaw21.RuleMore", spec := "ruleMore", apart := false }
def RuleMoreSaid : Prop := ruleMoreRow.holds Try.pinned (OpenSpec.ofChange ruleMoreSpec)

/-- ITS FALSE NEIGHBOUR: 'it returns false'. Refute it at one input. -/
def ruleMoreWrong : ChangeSpec := { name := "ruleMore", fn := fun _ => fun
  | [d1, d2, d3, d4, d5] => { results := [.lit (.bool false)], args := [d1, d2, d3, d4, d5] }
  | _ => none }
def RuleMoreWrongFalsely : Prop := ruleMoreRow.holds Try.pinned (OpenSpec.ofChange ruleMoreWrong)

/-- 'mootlaw37.ToleranceBest': WHATEVER THE INPUT: true; the input reads as it did. -/
def toleranceBestSpec : ChangeSpec := { name := "toleranceBest", fn := fun _ => fun
  | [d1, d2] => { results := [.lit (.bool true)], args := [d1, d2] }
  | _ => none }
def toleranceBestRow : OpenClaim := { program := "ytflfpfaebndefaa", sum := "e7ca1d3a6df3bd7b0615c43be902c72c1faf0dfa780775c3adf2a60d28a1d099", func := "moot/mootlaw37.ToleranceBest", spec := "toleranceBest", unfollowed := true, recurses := true, apart := false }
def ToleranceBestSaid : Prop := toleranceBestRow.holds Try.pinned (OpenSpec.ofChange toleranceBestSpec)

/-- ITS FALSE NEIGHBOUR: 'it returns false'. Refute it at one input. -/
def toleranceBestWrong : ChangeSpec := { name := "toleranceBest", fn := fun _ => fun
  | [d1, d2] => { results := [.lit (.bool false)], args := [d1, d2] }
  | _ => none }
def ToleranceBestWrongFalsely : Prop := toleranceBestRow.holds Try.pinned (OpenSpec.ofChange toleranceBestWrong)

/-- 'mootlaw37.ToleranceMore': WHATEVER THE INPUT: true; the input reads as it did. -/
def toleranceMoreSpec : ChangeSpec := { name := "toleranceMore", fn := fun _ => fun
  | [d1, d2, d3] => { results := [.lit (.bool true)], args := [d1, d2, d3] }
  | _ => none }
def toleranceMoreRow : OpenClaim := { program := "ytflfpfaebndefaa", sum := "e7ca1d3a6df3bd7b0615c43be902c72c1faf0dfa780775c3adf2a60d28a1d099", func := "moot/mootlaw37.ToleranceMore", spec := "toleranceMore", unfollowed := true, recurses := true, apart := false }
def ToleranceMoreSaid : Prop := toleranceMoreRow.holds Try.pinned (OpenSpec.ofChange toleranceMoreSpec)

/-- ITS FALSE NEIGHBOUR: 'it returns false'. Refute it at one input. -/
def toleranceMoreWrong : ChangeSpec := { name := "toleranceMore", fn := fun _ => fun
  | [d1, d2, d3] => { results := [.lit (.bool false)], args := [d1, d2, d3] }
  | _ => none }
def ToleranceMoreWrongFalsely : Prop := toleranceMoreRow.holds Try.pinned (OpenSpec.ofChange toleranceMoreWrong)

/-- 'mootlaw27.WatchTells': WHATEVER THE INPUT: true; the input reads as it did. -/
def watchTellsSpec : ChangeSpec := { name := "watchTells", fn := fun _ => fun
  | [d1, d2, d3, d4, d5, d6] => { results := [.lit (.bool true)], args := [d1, d2, d3, d4, d5, d6] }
  | _ => none }
def watchTellsRow : OpenClaim := { program := "ytflfpfaebndefaa", sum := "e7ca1d3a6df3bd7b0615c43be902c72c1faf0dfa780775c3adf2a60d28a1d099", func := "moot/mootlaw27.WatchTells", spec := "watchTells", apart := false }
def WatchTellsSaid : Prop := watchTellsRow.holds Try.pinned (OpenSpec.ofChange watchTellsSpec)

/-- ITS FALSE NEIGHBOUR: 'it returns false'. Refute it at one input. -/
def watchTellsWrong : ChangeSpec := { name := "watchTells", fn := fun _ => fun
  | [d1, d2, d3, d4, d5, d6] => { results := [.lit (.bool false)], args := [d1, d2, d3, d4, d5, d6] }
  | _ => none }
def WatchTellsWrongFalsely : Prop := watchTellsRow.holds Try.pinned (OpenSpec.ofChange watchTellsWrong)

/-- 'mootlaw37.ToleranceTells': WHATEVER THE INPUT: true; the input reads as it did. -/
def toleranceTellsSpec : ChangeSpec := { name := "toleranceTells", fn := fun _ => fun
  | [d1, d2, d3, d4, d5, d6] => { results := [.lit (.bool true)], args := [d1, d2, d3, d4, d5, d6] }
  | _ => none }
def toleranceTellsRow : OpenClaim := { program := "ytflfpfaebndefaa", sum := "e7ca1d3a6df3bd7b0615c43be902c72c1faf0dfa780775c3adf2a60d28a1d099", func := "moot/mootlaw37.ToleranceTells", spec := "toleranceTells", unfollowed := true, recurses := true, apart := false }
def ToleranceTellsSaid : Prop := toleranceTellsRow.holds Try.pinned (OpenSpec.ofChange toleranceTellsSpec)

/-- ITS FALSE NEIGHBOUR: 'it returns false'. Refute it at one input. -/
def toleranceTellsWrong : ChangeSpec := { name := "toleranceTells", fn := fun _ => fun
  | [d1, d2, d3, d4, d5, d6] => { results := [.lit (.bool false)], args := [d1, d2, d3, d4, d5, d6] }
  | _ => none }
def ToleranceTellsWrongFalsely : Prop := toleranceTellsRow.holds Try.pinned (OpenSpec.ofChange toleranceTellsWrong)

/-- 'mootlaw37.ToleranceSafe': WHATEVER THE INPUT: true; the input reads as it did. -/
def toleranceSafeSpec : ChangeSpec := { name := "toleranceSafe", fn := fun _ => fun
  | [d1, d2, d3, d4] => { results := [.lit (.bool true)], args := [d1, d2, d3, d4] }
  | _ => none }
def toleranceSafeRow : OpenClaim := { program := "ytflfpfaebndefaa", sum := "e7ca1d3a6df3bd7b0615c43be902c72c1faf0dfa780775c3adf2a60d28a1d099", func := "moot/mootlaw37.ToleranceSafe", spec := "toleranceSafe", unfollowed := true, recurses := true, apart := false }
def ToleranceSafeSaid : Prop := toleranceSafeRow.holds Try.pinned (OpenSpec.ofChange toleranceSafeSpec)

/-- ITS FALSE NEIGHBOUR: 'it returns false'. Refute it at one input. -/
def toleranceSafeWrong : ChangeSpec := { name := "toleranceSafe", fn := fun _ => fun
  | [d1, d2, d3, d4] => { results := [.lit (.bool false)], args := [d1, d2, d3, d4] }
  | _ => none }
def ToleranceSafeWrongFalsely : Prop := toleranceSafeRow.holds Try.pinned (OpenSpec.ofChange toleranceSafeWrong)

/-- 'mootlaw16.BankTotal': WHATEVER THE INPUT: true; the input reads as it did. -/
def bankTotalSpec : ChangeSpec := { name := "bankTotal", fn := fun _ => fun
  | [d] => { results := [.lit (.bool true)], args := [d] }
  | _ => none }
def bankTotalRow : OpenClaim := { program := "ytflfpfaebndefaa", sum := "e7ca1d3a6df3bd7b0615c43be902c72c1faf0dfa780775c3adf2a60d28a1d099", func := "moot/mootlaw16.BankTotal", spec := "bankTotal", apart := false }
def BankTotalSaid : Prop := bankTotalRow.holds Try.pinned (OpenSpec.ofChange bankTotalSpec)

/-- ITS FALSE NEIGHBOUR: 'it returns false'. Refute it at one input. -/
def bankTotalWrong : ChangeSpec := { name := "bankTotal", fn := fun _ => fun
  | [d] => { results := [.lit (.bool false)], args := [d] }
  | _ => none }
def BankTotalWrongFalsely : Prop := bankTotalRow.holds Try.pinned (OpenSpec.ofChange bankTotalWrong)

/-- 'mootlaw16.BankParts': WHATEVER THE INPUT: true; the input reads as it did. -/
def bankPartsSpec : ChangeSpec := { name := "bankParts", fn := fun _ => fun
  | [d1, d2] => { results := [.lit (.bool true)], args := [d1, d2] }
  | _ => none }
def bankPartsRow : OpenClaim := { program := "ytflfpfaebndefaa", sum := "e7ca1d3a6df3bd7b0615c43be902c72c1faf0dfa780775c3adf2a60d28a1d099", func := "moot/mootlaw16.BankParts", spec := "bankParts", apart := false }
def BankPartsSaid : Prop := bankPartsRow.holds Try.pinned (OpenSpec.ofChange bankPartsSpec)

/-- ITS FALSE NEIGHBOUR: 'it returns false'. Refute it at one input. -/
def bankPartsWrong : ChangeSpec := { name := "bankParts", fn := fun _ => fun
  | [d1, d2] => { results := [.lit (.bool false)], args := [d1, d2] }
  | _ => none }
def BankPartsWrongFalsely : Prop := bankPartsRow.holds Try.pinned (OpenSpec.ofChange bankPartsWrong)

/-- 'mootlaw16.BankOnce': WHATEVER THE INPUT: true; the input reads as it did. -/
def bankOnceSpec : ChangeSpec := { name := "bankOnce", fn := fun _ => fun
  | [d1, d2] => { results := [.lit (.bool true)], args := [d1, d2] }
  | _ => none }
def bankOnceRow : OpenClaim := { program := "ytflfpfaebndefaa", sum := "e7ca1d3a6df3bd7b0615c43be902c72c1faf0dfa780775c3adf2a60d28a1d099", func := "moot/mootlaw16.BankOnce", spec := "bankOnce", apart := false }
def BankOnceSaid : Prop := bankOnceRow.holds Try.pinned (OpenSpec.ofChange bankOnceSpec)

/-- ITS FALSE NEIGHBOUR: 'it returns false'. Refute it at one input. -/
def bankOnceWrong : ChangeSpec := { name := "bankOnce", fn := fun _ => fun
  | [d1, d2] => { results := [.lit (.bool false)], args := [d1, d2] }
  | _ => none }
def BankOnceWrongFalsely : Prop := bankOnceRow.holds Try.pinned (OpenSpec.ofChange bankOnceWrong)

/- THE SECOND FORM. 'bulk': how many values and letters a reading holds, each counted each time it is reached (what is shared counts as often as it is met; a slice's spare places count too). A statement '..UptoSaid' is the law's where the arguments, and the package variables that the reading takes, are together of bulk at most 1048576: NARROWER than '..Said'. Prove '..Said' where nothing that the law and all that it calls make is longer than what came in: it says more and counts as full. Else prove '..UptoSaid'. A law counts once. -/
mutual
def uptoBulk {H : Type} : DataW H → Nat
  | .lit (.string bytes) => bytes.length + 1
  | .lit _ => 1
  | .nil => 1
  | .ptr d => uptoBulk d + 1
  | .slice elems spare => uptoBulkAll elems + uptoBulkAll spare + 1
  | .agg parts => uptoBulkAll parts + 1
  | .iface _ d => uptoBulk d + 1
  | .map entries => uptoBulkEntries entries + 1
  | .held _ => 1
def uptoBulkAll {H : Type} : List (DataW H) → Nat
  | [] => 0
  | d :: r => uptoBulk d + uptoBulkAll r
def uptoBulkEntries {H : Type} : List (Lit × DataW H) → Nat
  | [] => 0
  | x :: r => uptoBulkEntry x + uptoBulkEntries r
def uptoBulkEntry {H : Type} : Lit × DataW H → Nat
  | (.string bytes, d) => bytes.length + uptoBulk d + 1
  | (_, d) => uptoBulk d + 1
 end
def uptoSmall : (H : Type) → List (DataW H) → Bool := fun _ ds => decide (uptoBulkAll ds ≤ 1048576)
def OpenSpec.upto (s : _root_.Go.ChangeSpec) : _root_.Go.OpenSpec := { _root_.Go.OpenSpec.ofChange s with cond := some uptoSmall }

/-- 'mootlaw18.PaceRises', WHERE WHAT IT READS IS OF BULK AT MOST 1048576: true; the input reads as it did. -/
def paceRisesUptoRow : OpenClaim := { program := "ytflfpfaebndefaa", sum := "e7ca1d3a6df3bd7b0615c43be902c72c1faf0dfa780775c3adf2a60d28a1d099", func := "moot/mootlaw18.PaceRises", spec := "paceRises", unfollowed := true, recurses := true, apart := false, narrowed := true }
def PaceRisesUptoSaid : Prop := paceRisesUptoRow.holds Try.pinned (OpenSpec.upto paceRisesSpec)

/-- 'mootlaw18.PaceTells', WHERE WHAT IT READS IS OF BULK AT MOST 1048576: true; the input reads as it did. -/
def paceTellsUptoRow : OpenClaim := { program := "ytflfpfaebndefaa", sum := "e7ca1d3a6df3bd7b0615c43be902c72c1faf0dfa780775c3adf2a60d28a1d099", func := "moot/mootlaw18.PaceTells", spec := "paceTells", unfollowed := true, recurses := true, apart := false, narrowed := true }
def PaceTellsUptoSaid : Prop := paceTellsUptoRow.holds Try.pinned (OpenSpec.upto paceTellsSpec)

/-- 'mootlaw18.PaceDue', WHERE WHAT IT READS IS OF BULK AT MOST 1048576: true; the input reads as it did. -/
def paceDueUptoRow : OpenClaim := { program := "ytflfpfaebndefaa", sum := "e7ca1d3a6df3bd7b0615c43be902c72c1faf0dfa780775c3adf2a60d28a1d099", func := "moot/mootlaw18.PaceDue", spec := "paceDue", unfollowed := true, recurses := true, apart := false, narrowed := true }
def PaceDueUptoSaid : Prop := paceDueUptoRow.holds Try.pinned (OpenSpec.upto paceDueSpec)

/-- 'mootlaw21.RuleMore', WHERE WHAT IT READS IS OF BULK AT MOST 1048576: true; the input reads as it did. -/
def ruleMoreUptoRow : OpenClaim := { program := "ytflfpfaebndefaa", sum := "e7ca1d3a6df3bd7b0615c43be902c72c1faf0dfa780775c3adf2a60d28a1d099", func := "moot/mootlaw21.RuleMore", spec := "ruleMore", apart := false, narrowed := true }
def RuleMoreUptoSaid : Prop := ruleMoreUptoRow.holds Try.pinned (OpenSpec.upto ruleMoreSpec)

/-- 'mootlaw37.ToleranceBest', WHERE WHAT IT READS IS OF BULK AT MOST 1048576: true; the input reads as it did. -/
def toleranceBestUptoRow : OpenClaim := { program := "ytflfpfaebndefaa", sum := "e7ca1d3a6df3bd7b0615c43be902c72c1faf0dfa780775c3adf2a60d28a1d099", func := "moot/mootlaw37.ToleranceBest", spec := "toleranceBest", unfollowed := true, recurses := true, apart := false, narrowed := true }
def ToleranceBestUptoSaid : Prop := toleranceBestUptoRow.holds Try.pinned (OpenSpec.upto toleranceBestSpec)

/-- 'mootlaw37.ToleranceMore', WHERE WHAT IT READS IS OF BULK AT MOST 1048576: true; the input reads as it did. -/
def toleranceMoreUptoRow : OpenClaim := { program := "ytflfpfaebndefaa", sum := "e7ca1d3a6df3bd7b0615c43be902c72c1faf0dfa780775c3adf2a60d28a1d099", func := "moot/mootlaw37.ToleranceMore", spec := "toleranceMore", unfollowed := true, recurses := true, apart := false, narrowed := true }
def ToleranceMoreUptoSaid : Prop := toleranceMoreUptoRow.holds Try.pinned (OpenSpec.upto toleranceMoreSpec)

/-- 'mootlaw27.WatchTells', WHERE WHAT IT READS IS OF BULK AT MOST 1048576: true; the input reads as it did. -/
def watchTellsUptoRow : OpenClaim := { program := "ytflfpfaebndefaa", sum := "e7ca1d3a6df3bd7b0615c43be902c72c1faf0dfa780775c3adf2a60d28a1d099", func := "moot/mootlaw27.WatchTells", spec := "watchTells", apart := false, narrowed := true }
def WatchTellsUptoSaid : Prop := watchTellsUptoRow.holds Try.pinned (OpenSpec.upto watchTellsSpec)

/-- 'mootlaw37.ToleranceTells', WHERE WHAT IT READS IS OF BULK AT MOST 1048576: true; the input reads as it did. -/
def toleranceTellsUptoRow : OpenClaim := { program := "ytflfpfaebndefaa", sum := "e7ca1d3a6df3bd7b0615c43be902c72c1faf0dfa780775c3adf2a60d28a1d099", func := "moot/mootlaw37.ToleranceTells", spec := "toleranceTells", unfollowed := true, recurses := true, apart := false, narrowed := true }
def ToleranceTellsUptoSaid : Prop := toleranceTellsUptoRow.holds Try.pinned (OpenSpec.upto toleranceTellsSpec)

/-- 'mootlaw37.ToleranceSafe', WHERE WHAT IT READS IS OF BULK AT MOST 1048576: true; the input reads as it did. -/
def toleranceSafeUptoRow : OpenClaim := { program := "ytflfpfaebndefaa", sum := "e7ca1d3a6df3bd7b0615c43be902c72c1faf0dfa780775c3adf2a60d28a1d099", func := "moot/mootlaw37.ToleranceSafe", spec := "toleranceSafe", unfollowed := true, recurses := true, apart := false, narrowed := true }
def ToleranceSafeUptoSaid : Prop := toleranceSafeUptoRow.holds Try.pinned (OpenSpec.upto toleranceSafeSpec)

/-- 'mootlaw16.BankTotal', WHERE WHAT IT READS IS OF BULK AT MOST 1048576: true; the input reads as it did. -/
def bankTotalUptoRow : OpenClaim := { program := "ytflfpfaebndefaa", sum := "e7ca1d3a6df3bd7b0615c43be902c72c1faf0dfa780775c3adf2a60d28a1d099", func := "moot/mootlaw16.BankTotal", spec := "bankTotal", apart := false, narrowed := true }
def BankTotalUptoSaid : Prop := bankTotalUptoRow.holds Try.pinned (OpenSpec.upto bankTotalSpec)

/-- 'mootlaw16.BankParts', WHERE WHAT IT READS IS OF BULK AT MOST 1048576: true; the input reads as it did. -/
def bankPartsUptoRow : OpenClaim := { program := "ytflfpfaebndefaa", sum := "e7ca1d3a6df3bd7b0615c43be902c72c1faf0dfa780775c3adf2a60d28a1d099", func := "moot/mootlaw16.BankParts", spec := "bankParts", apart := false, narrowed := true }
def BankPartsUptoSaid : Prop := bankPartsUptoRow.holds Try.pinned (OpenSpec.upto bankPartsSpec)

/-- 'mootlaw16.BankOnce', WHERE WHAT IT READS IS OF BULK AT MOST 1048576: true; the input reads as it did. -/
def bankOnceUptoRow : OpenClaim := { program := "ytflfpfaebndefaa", sum := "e7ca1d3a6df3bd7b0615c43be902c72c1faf0dfa780775c3adf2a60d28a1d099", func := "moot/mootlaw16.BankOnce", spec := "bankOnce", apart := false, narrowed := true }
def BankOnceUptoSaid : Prop := bankOnceUptoRow.holds Try.pinned (OpenSpec.upto bankOnceSpec)

end Rows
end Go.Proofs.Ytflfpfaebndefaa
