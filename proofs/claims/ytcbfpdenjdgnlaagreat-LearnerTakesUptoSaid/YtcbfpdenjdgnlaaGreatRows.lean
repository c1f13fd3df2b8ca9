/-
  No cell of these rows narrows 'for every input' (looked for: loops, veiled, ifaces, maps, wideKeys, modest, calm, conditions, laid).
  DERIVED. THE GIVEN ROWS OF THIS SEAT. 8 by the template 'for every input the law returns true; each argument reads behind the call as it read before'; 0 by the template 'total and deterministic' (their statements: YtcbfpdenjdgnlaaGreatTotals.lean).
  GIVEN WITH THE SEED: the statements are not yours to turn. If you find one false, say at which input.
  Laid BY PROGRAM, IN A SANDBOX (cutbox-rows.mjs): the forced cells as the released guide's own fill.sh prints them over the translation bb6f656ac36e35a0… (all of the seat's roots in one cut). By AI agents, Wed Nov 11 2026. No macro, syntax, notation, axiom, sorry.
-/
import Derived.Test.YtcbfpdenjdgnlaaGreatChecked
import GoSem.Claim
import GoSem.ClaimJoined
import GoSem.ClaimMapViews
import Derived.JoinedTies
import Derived.KernelRfl
namespace Go.Proofs.YtcbfpdenjdgnlaaGreat
/- THE CELL 'sum', in the pinned program and in every row, IS THE sha256 OF THE DUMP (.gsa) THAT YtcbfpdenjdgnlaaGreatProg.lean LOADS. Nothing in Lean hashes anything: it is a label: what it is worth is what the hold of that sum in a sandbox is worth. -/
noncomputable def Tryz.pinned : Pinned := { name := "ytcbfpdenjdgnlaagreat", sum := "bb6f656ac36e35a0e59919e58b870b1673d6639fca00b9517627f3d453fe780e", checked := Tryz.checked }
namespace Rows
def none {H : Type} : Left H := { results := [], args := [] }

/-- 'mootlaw31.ProofTells': WHATEVER THE INPUT: true; the input reads as it did. -/
def proofTellsSpec : ChangeSpec := { name := "proofTells", fn := fun _ => fun
  | [d1, d2] => { results := [.lit (.bool true)], args := [d1, d2] }
  | _ => none }
def proofTellsRow : OpenClaim := { program := "ytcbfpdenjdgnlaagreat", sum := "bb6f656ac36e35a0e59919e58b870b1673d6639fca00b9517627f3d453fe780e", func := "moot/mootlaw31.ProofTells", spec := "proofTells", inPlace := ["internal/abi.NoEscape", "internal/bytealg.MakeNoZero"], unfollowed := true, recurses := true, plainKeys := false, apart := false }
def ProofTellsSaid : Prop := proofTellsRow.holds Tryz.pinned (OpenSpec.ofChange proofTellsSpec)

/-- ITS FALSE NEIGHBOUR: 'it returns false'. Refute it at one input. -/
def proofTellsWrong : ChangeSpec := { name := "proofTells", fn := fun _ => fun
  | [d1, d2] => { results := [.lit (.bool false)], args := [d1, d2] }
  | _ => none }
def ProofTellsWrongFalsely : Prop := proofTellsRow.holds Tryz.pinned (OpenSpec.ofChange proofTellsWrong)

/-- 'mootlaw31.ProofMakes': WHATEVER THE INPUT: true; the input reads as it did. -/
def proofMakesSpec : ChangeSpec := { name := "proofMakes", fn := fun _ => fun
  | [d1, d2, d3, d4] => { results := [.lit (.bool true)], args := [d1, d2, d3, d4] }
  | _ => none }
def proofMakesRow : OpenClaim := { program := "ytcbfpdenjdgnlaagreat", sum := "bb6f656ac36e35a0e59919e58b870b1673d6639fca00b9517627f3d453fe780e", func := "moot/mootlaw31.ProofMakes", spec := "proofMakes", inPlace := ["internal/abi.NoEscape", "internal/bytealg.MakeNoZero"], unfollowed := true, recurses := true, plainKeys := false, apart := false }
def ProofMakesSaid : Prop := proofMakesRow.holds Tryz.pinned (OpenSpec.ofChange proofMakesSpec)

/-- ITS FALSE NEIGHBOUR: 'it returns false'. Refute it at one input. -/
def proofMakesWrong : ChangeSpec := { name := "proofMakes", fn := fun _ => fun
  | [d1, d2, d3, d4] => { results := [.lit (.bool false)], args := [d1, d2, d3, d4] }
  | _ => none }
def ProofMakesWrongFalsely : Prop := proofMakesRow.holds Tryz.pinned (OpenSpec.ofChange proofMakesWrong)

/-- 'mootlaw22.LearnerTakes': WHATEVER THE INPUT: true; the input reads as it did. -/
def learnerTakesSpec : ChangeSpec := { name := "learnerTakes", fn := fun _ => fun
  | [d1, d2, d3] => { results := [.lit (.bool true)], args := [d1, d2, d3] }
  | _ => none }
def learnerTakesRow : OpenClaim := { program := "ytcbfpdenjdgnlaagreat", sum := "bb6f656ac36e35a0e59919e58b870b1673d6639fca00b9517627f3d453fe780e", func := "moot/mootlaw22.LearnerTakes", spec := "learnerTakes", inPlace := ["internal/abi.NoEscape", "internal/bytealg.MakeNoZero"], unfollowed := true, recurses := true, plainKeys := false, apart := false }
def LearnerTakesSaid : Prop := learnerTakesRow.holds Tryz.pinned (OpenSpec.ofChange learnerTakesSpec)

/-- ITS FALSE NEIGHBOUR: 'it returns false'. Refute it at one input. -/
def learnerTakesWrong : ChangeSpec := { name := "learnerTakes", fn := fun _ => fun
  | [d1, d2, d3] => { results := [.lit (.bool false)], args := [d1, d2, d3] }
  | _ => none }
def LearnerTakesWrongFalsely : Prop := learnerTakesRow.holds Tryz.pinned (OpenSpec.ofChange learnerTakesWrong)

/-- 'mootlaw22.LearnerOrder': WHATEVER THE INPUT: true; the input reads as it did. -/
def learnerOrderSpec : ChangeSpec := { name := "learnerOrder", fn := fun _ => fun
  | [d1, d2, d3, d4] => { results := [.lit (.bool true)], args := [d1, d2, d3, d4] }
  | _ => none }
def learnerOrderRow : OpenClaim := { program := "ytcbfpdenjdgnlaagreat", sum := "bb6f656ac36e35a0e59919e58b870b1673d6639fca00b9517627f3d453fe780e", func := "moot/mootlaw22.LearnerOrder", spec := "learnerOrder", inPlace := ["internal/abi.NoEscape", "internal/bytealg.MakeNoZero"], unfollowed := true, recurses := true, plainKeys := false, apart := false }
def LearnerOrderSaid : Prop := learnerOrderRow.holds Tryz.pinned (OpenSpec.ofChange learnerOrderSpec)

/-- ITS FALSE NEIGHBOUR: 'it returns false'. Refute it at one input. -/
def learnerOrderWrong : ChangeSpec := { name := "learnerOrder", fn := fun _ => fun
  | [d1, d2, d3, d4] => { results := [.lit (.bool false)], args := [d1, d2, d3, d4] }
  | _ => none }
def LearnerOrderWrongFalsely : Prop := learnerOrderRow.holds Tryz.pinned (OpenSpec.ofChange learnerOrderWrong)

/-- 'mootlaw31.ProofLearns': WHATEVER THE INPUT: true; the input reads as it did. -/
def proofLearnsSpec : ChangeSpec := { name := "proofLearns", fn := fun _ => fun
  | [d1, d2] => { results := [.lit (.bool true)], args := [d1, d2] }
  | _ => none }
def proofLearnsRow : OpenClaim := { program := "ytcbfpdenjdgnlaagreat", sum := "bb6f656ac36e35a0e59919e58b870b1673d6639fca00b9517627f3d453fe780e", func := "moot/mootlaw31.ProofLearns", spec := "proofLearns", inPlace := ["internal/abi.NoEscape", "internal/bytealg.MakeNoZero"], unfollowed := true, recurses := true, plainKeys := false, apart := false }
def ProofLearnsSaid : Prop := proofLearnsRow.holds Tryz.pinned (OpenSpec.ofChange proofLearnsSpec)

/-- ITS FALSE NEIGHBOUR: 'it returns false'. Refute it at one input. -/
def proofLearnsWrong : ChangeSpec := { name := "proofLearns", fn := fun _ => fun
  | [d1, d2] => { results := [.lit (.bool false)], args := [d1, d2] }
  | _ => none }
def ProofLearnsWrongFalsely : Prop := proofLearnsRow.holds Tryz.pinned (OpenSpec.ofChange proofLearnsWrong)

/-- 'mootlaw23.StoreFull': WHATEVER THE INPUT: true; the input reads as it did. -/
def storeFullSpec : ChangeSpec := { name := "storeFull", fn := fun _ => fun
  | [d1, d2, d3, d4] => { results := [.lit (.bool true)], args := [d1, d2, d3, d4] }
  | _ => none }
def storeFullRow : OpenClaim := { program := "ytcbfpdenjdgnlaagreat", sum := "bb6f656ac36e35a0e59919e58b870b1673d6639fca00b9517627f3d453fe780e", func := "moot/mootlaw23.StoreFull", spec := "storeFull", inPlace := ["internal/abi.NoEscape", "internal/bytealg.MakeNoZero"], unfollowed := true, recurses := true, plainKeys := false, apart := false }
def StoreFullSaid : Prop := storeFullRow.holds Tryz.pinned (OpenSpec.ofChange storeFullSpec)

/-- ITS FALSE NEIGHBOUR: 'it returns false'. Refute it at one input. -/
def storeFullWrong : ChangeSpec := { name := "storeFull", fn := fun _ => fun
  | [d1, d2, d3, d4] => { results := [.lit (.bool false)], args := [d1, d2, d3, d4] }
  | _ => none }
def StoreFullWrongFalsely : Prop := storeFullRow.holds Tryz.pinned (OpenSpec.ofChange storeFullWrong)

/-- 'mootlaw23.StoreHears': WHATEVER THE INPUT: true; the input reads as it did. -/
def storeHearsSpec : ChangeSpec := { name := "storeHears", fn := fun _ => fun
  | [d1, d2, d3] => { results := [.lit (.bool true)], args := [d1, d2, d3] }
  | _ => none }
def storeHearsRow : OpenClaim := { program := "ytcbfpdenjdgnlaagreat", sum := "bb6f656ac36e35a0e59919e58b870b1673d6639fca00b9517627f3d453fe780e", func := "moot/mootlaw23.StoreHears", spec := "storeHears", inPlace := ["internal/abi.NoEscape", "internal/bytealg.MakeNoZero"], unfollowed := true, recurses := true, plainKeys := false, apart := false }
def StoreHearsSaid : Prop := storeHearsRow.holds Tryz.pinned (OpenSpec.ofChange storeHearsSpec)

/-- ITS FALSE NEIGHBOUR: 'it returns false'. Refute it at one input. -/
def storeHearsWrong : ChangeSpec := { name := "storeHears", fn := fun _ => fun
  | [d1, d2, d3] => { results := [.lit (.bool false)], args := [d1, d2, d3] }
  | _ => none }
def StoreHearsWrongFalsely : Prop := storeHearsRow.holds Tryz.pinned (OpenSpec.ofChange storeHearsWrong)

/-- 'mootlaw23.StoreNobody': WHATEVER THE INPUT: true; the input reads as it did. -/
def storeNobodySpec : ChangeSpec := { name := "storeNobody", fn := fun _ => fun
  | [d1, d2] => { results := [.lit (.bool true)], args := [d1, d2] }
  | _ => none }
def storeNobodyRow : OpenClaim := { program := "ytcbfpdenjdgnlaagreat", sum := "bb6f656ac36e35a0e59919e58b870b1673d6639fca00b9517627f3d453fe780e", func := "moot/mootlaw23.StoreNobody", spec := "storeNobody", inPlace := ["internal/abi.NoEscape", "internal/bytealg.MakeNoZero"], unfollowed := true, recurses := true, plainKeys := false, apart := false }
def StoreNobodySaid : Prop := storeNobodyRow.holds Tryz.pinned (OpenSpec.ofChange storeNobodySpec)

/-- ITS FALSE NEIGHBOUR: 'it returns false'. Refute it at one input. -/
def storeNobodyWrong : ChangeSpec := { name := "storeNobody", fn := fun _ => fun
  | [d1, d2] => { results := [.lit (.bool false)], args := [d1, d2] }
  | _ => none }
def StoreNobodyWrongFalsely : Prop := storeNobodyRow.holds Tryz.pinned (OpenSpec.ofChange storeNobodyWrong)

/- THE SECOND FORM. 'bulk': how many values and letters a reading holds, each counted each time it is reached (what is shared counts as often as it is met; a slice's spare places count too). A statement '..UptoSaid' is the law's where the arguments, and the package variables that the reading takes, are together of bulk at most 1048576: NARROWER than '..Said'. Prove '..Said' where nothing that the law and all that it calls make is longer than what came in: it says more and counts as full. Else prove '..UptoSaid'. A law counts once. -/
mutual
def uptoBulk {H : Type} : DataW H → Nat
  | .lit (.string bytes) => bytes.length + 1
  | .lit _ => 1
  | .nil => 1
  | .ptr d => uptoBulk d + 1
  | .slice elems spare => uptoBulkAll elems + uptoBulkAll spare + 1
  | .agg parts => uptoBulkAll parts + 1
  | .iface _ d => uptoBulk d + 1
  | .map entries => uptoBulkEntries entries + 1
  | .held _ => 1
def uptoBulkAll {H : Type} : List (DataW H) → Nat
  | [] => 0
  | d :: r => uptoBulk d + uptoBulkAll r
def uptoBulkEntries {H : Type} : List (Lit × DataW H) → Nat
  | [] => 0
  | x :: r => uptoBulkEntry x + uptoBulkEntries r
def uptoBulkEntry {H : Type} : Lit × DataW H → Nat
  | (.string bytes, d) => bytes.length + uptoBulk d + 1
  | (_, d) => uptoBulk d + 1
 end
def uptoSmall : (H : Type) → List (DataW H) → Bool := fun _ ds => decide (uptoBulkAll ds ≤ 1048576)
def OpenSpec.upto (s : _root_.Go.ChangeSpec) : _root_.Go.OpenSpec := { _root_.Go.OpenSpec.ofChange s with cond := some uptoSmall }

/-- 'mootlaw31.ProofTells', WHERE WHAT IT READS IS OF BULK AT MOST 1048576: true; the input reads as it did. -/
def proofTellsUptoRow : OpenClaim := { program := "ytcbfpdenjdgnlaagreat", sum := "bb6f656ac36e35a0e59919e58b870b1673d6639fca00b9517627f3d453fe780e", func := "moot/mootlaw31.ProofTells", spec := "proofTells", inPlace := ["internal/abi.NoEscape", "internal/bytealg.MakeNoZero"], unfollowed := true, recurses := true, plainKeys := false, apart := false, narrowed := true }
def ProofTellsUptoSaid : Prop := proofTellsUptoRow.holds Tryz.pinned (OpenSpec.upto proofTellsSpec)

/-- 'mootlaw31.ProofMakes', WHERE WHAT IT READS IS OF BULK AT MOST 1048576: true; the input reads as it did. -/
def proofMakesUptoRow : OpenClaim := { program := "ytcbfpdenjdgnlaagreat", sum := "bb6f656ac36e35a0e59919e58b870b1673d6639fca00b9517627f3d453fe780e", func := "moot/mootlaw31.ProofMakes", spec := "proofMakes", inPlace := ["internal/abi.NoEscape", "internal/bytealg.MakeNoZero"], unfollowed := true, recurses := true, plainKeys := false, apart := false, narrowed := true }
def ProofMakesUptoSaid : Prop := proofMakesUptoRow.holds Tryz.pinned (OpenSpec.upto proofMakesSpec)

/-- 'mootlaw22.LearnerTakes', WHERE WHAT IT READS IS OF BULK AT MOST 1048576: true; the input reads as it did. -/
def learnerTakesUptoRow : OpenClaim := { program := "ytcbfpdenjdgnlaagreat", sum := "bb6f656ac36e35a0e59919e58b870b1673d6639fca00b9517627f3d453fe780e", func := "moot/mootlaw22.LearnerTakes", spec := "learnerTakes", inPlace := ["internal/abi.NoEscape", "internal/bytealg.MakeNoZero"], unfollowed := true, recurses := true, plainKeys := false, apart := false, narrowed := true }
def LearnerTakesUptoSaid : Prop := learnerTakesUptoRow.holds Tryz.pinned (OpenSpec.upto learnerTakesSpec)

/-- 'mootlaw22.LearnerOrder', WHERE WHAT IT READS IS OF BULK AT MOST 1048576: true; the input reads as it did. -/
def learnerOrderUptoRow : OpenClaim := { program := "ytcbfpdenjdgnlaagreat", sum := "bb6f656ac36e35a0e59919e58b870b1673d6639fca00b9517627f3d453fe780e", func := "moot/mootlaw22.LearnerOrder", spec := "learnerOrder", inPlace := ["internal/abi.NoEscape", "internal/bytealg.MakeNoZero"], unfollowed := true, recurses := true, plainKeys := false, apart := false, narrowed := true }
def LearnerOrderUptoSaid : Prop := learnerOrderUptoRow.holds Tryz.pinned (OpenSpec.upto learnerOrderSpec)

/-- 'mootlaw31.ProofLearns', WHERE WHAT IT READS IS OF BULK AT MOST 1048576: true; the input reads as it did. -/
def proofLearnsUptoRow : OpenClaim := { program := "ytcbfpdenjdgnlaagreat", sum := "bb6f656ac36e35a0e59919e58b870b1673d6639fca00b9517627f3d453fe780e", func := "moot/mootlaw31.ProofLearns", spec := "proofLearns", inPlace := ["internal/abi.NoEscape", "internal/bytealg.MakeNoZero"], unfollowed := true, recurses := true, plainKeys := false, apart := false, narrowed := true }
def ProofLearnsUptoSaid : Prop := proofLearnsUptoRow.holds Tryz.pinned (OpenSpec.upto proofLearnsSpec)

/-- 'mootlaw23.StoreFull', WHERE WHAT IT READS IS OF BULK AT MOST 1048576: true; the input reads as it did. -/
def storeFullUptoRow : OpenClaim := { program := "ytcbfpdenjdgnlaagreat", sum := "bb6f656ac36e35a0e59919e58b870b1673d6639fca00b9517627f3d453fe780e", func := "moot/mootlaw23.StoreFull", spec := "storeFull", inPlace := ["internal/abi.NoEscape", "internal/bytealg.MakeNoZero"], unfollowed := true, recurses := true, plainKeys := false, apart := false, narrowed := true }
def StoreFullUptoSaid : Prop := storeFullUptoRow.holds Tryz.pinned (OpenSpec.upto storeFullSpec)

/-- 'mootlaw23.StoreHears', WHERE WHAT IT READS IS OF BULK AT MOST 1048576: true; the input reads as it did. -/
def storeHearsUptoRow : OpenClaim := { program := "ytcbfpdenjdgnlaagreat", sum := "bb6f656ac36e35a0e59919e58b870b1673d6639fca00b9517627f3d453fe780e", func := "moot/mootlaw23.StoreHears", spec := "storeHears", inPlace := ["internal/abi.NoEscape", "internal/bytealg.MakeNoZero"], unfollowed := true, recurses := true, plainKeys := false, apart := false, narrowed := true }
def StoreHearsUptoSaid : Prop := storeHearsUptoRow.holds Tryz.pinned (OpenSpec.upto storeHearsSpec)

/-- 'mootlaw23.StoreNobody', WHERE WHAT IT READS IS OF BULK AT MOST 1048576: true; the input reads as it did. -/
def storeNobodyUptoRow : OpenClaim := { program := "ytcbfpdenjdgnlaagreat", sum := "bb6f656ac36e35a0e59919e58b870b1673d6639fca00b9517627f3d453fe780e", func := "moot/mootlaw23.StoreNobody", spec := "storeNobody", inPlace := ["internal/abi.NoEscape", "internal/bytealg.MakeNoZero"], unfollowed := true, recurses := true, plainKeys := false, apart := false, narrowed := true }
def StoreNobodyUptoSaid : Prop := storeNobodyUptoRow.holds Tryz.pinned (OpenSpec.upto storeNobodySpec)

end Rows
end Go.Proofs.YtcbfpdenjdgnlaaGreat
