/-
  No cell of these rows narrows 'for every input' (looked for: loops, veiled, ifaces, maps, wideKeys, modest, calm, conditions, laid).
  DERIVED. THE GIVEN ROWS OF THIS SEAT. 8 by the template 'for every input the law returns true; each argument reads behind the call as it read before'; 0 by the template 'total and deterministic' (their statements: YtglneailkgminaaTotals.lean).
  GIVEN WITH THE SEED: the statements are not yours to turn. If you find one false, say at which input.
  Laid BY PROGRAM, IN A SANDBOX (cutbox-rows.mjs): the forced cells as the released guide's own fill.sh prints them over the translation f2a610d43f94058d… (all of the seat's roots in one cut). By AI agents, Wed Nov 11 2026. No macro, syntax, notation, axiom, sorry.
-/
import Derived.Test.YtglneailkgminaaChecked
import GoSem.Claim
import GoSem.ClaimJoined
import GoSem.ClaimMapViews
import Derived.JoinedTies
import Derived.KernelRfl
namespace Go.Proofs.Ytglneailkgminaa
/- THE CELL 'sum', in the pinned program and in every row, IS THE sha256 OF THE DUMP (.gsa) THAT YtglneailkgminaaProg.lean LOADS. Nothing in Lean hashes anything: it is a label: what it is worth is what the hold of that sum in a sandbox is worth. -/
noncomputable def Try.pinned : Pinned := { name := "ytglneailkgminaa", sum := "f2a610d43f94058dae1b1e1288b53e5cd6355c93eed871fc2e7998edb541d77d", checked := Try.checked }
namespace Rows
def none {H : Type} : Left H := { results := [], args := [] }

/-- 'mootlaw21.RuleMarks': WHATEVER THE INPUT: true; the input reads as it did. -/
def ruleMarksSpec : ChangeSpec := { name := "ruleMarks", fn := fun _ => fun
  | [d] => { results := [.lit (.bool true)], args := [d] }
  | _ => none }
def ruleMarksRow : OpenClaim := { program := "ytglneailkgminaa", sum := "f2a610d43f94058dae1b1e1288b53e5cd6355c93eed871fc2e7998edb541d77d", func := "moot/mootlaw21.RuleMarks", spec := "ruleMarks", unfollowed := true, recurses := true, plainKeys := false, apart := false }
def RuleMarksSaid : Prop := ruleMarksRow.holds Try.pinned (OpenSpec.ofChange ruleMarksSpec)

/-- ITS FALSE NEIGHBOUR: 'it returns false'. Refute it at one input. -/
def ruleMarksWrong : ChangeSpec := { name := "ruleMarks", fn := fun _ => fun
  | [d] => { results := [.lit (.bool false)], args := [d] }
  | _ => none }
def RuleMarksWrongFalsely : Prop := ruleMarksRow.holds Try.pinned (OpenSpec.ofChange ruleMarksWrong)

/-- 'mootlaw09.CertRanks': WHATEVER THE INPUT: true; the input reads as it did. -/
def certRanksSpec : ChangeSpec := { name := "certRanks", fn := fun _ => fun
  | [d1, d2, d3] => { results := [.lit (.bool true)], args := [d1, d2, d3] }
  | _ => none }
def certRanksRow : OpenClaim := { program := "ytglneailkgminaa", sum := "f2a610d43f94058dae1b1e1288b53e5cd6355c93eed871fc2e7998edb541d77d", func := "moot/mootlaw09.CertRanks", spec := "certRanks", inPlace := ["internal/abi.NoEscape", "internal/bytealg.MakeNoZero"], unfollowed := true, recurses := true, plainKeys := false, apart := false }
def CertRanksSaid : Prop := certRanksRow.holds Try.pinned (OpenSpec.ofChange certRanksSpec)

/-- ITS FALSE NEIGHBOUR: 'it returns false'. Refute it at one input. -/
def certRanksWrong : ChangeSpec := { name := "certRanks", fn := fun _ => fun
  | [d1, d2, d3] => { results := [.lit (.bool false)], args := [d1, d2, d3] }
  | _ => none }
def CertRanksWrongFalsely : Prop := certRanksRow.holds Try.pinned (OpenSpec.ofChange certRanksWrong)

/-- 'mootlaw09.CertTells': WHATEVER THE INPUT: true; the input reads as it did. -/
def certTellsSpec : ChangeSpec := { name := "certTells", fn := fun _ => fun
  | [d1, d2, d3, d4, d5] => { results := [.lit (.bool true)], args := [d1, d2, d3, d4, d5] }
  | _ => none }
def certTellsRow : OpenClaim := { program := "ytglneailkgminaa", sum := "f2a610d43f94058dae1b1e1288b53e5cd6355c93eed871fc2e7998edb541d77d", func := "moot/mootlaw09.CertTells", spec := "certTells", inPlace := ["internal/abi.NoEscape", "internal/bytealg.MakeNoZero"], unfollowed := true, recurses := true, plainKeys := false, apart := false }
def CertTellsSaid : Prop := certTellsRow.holds Try.pinned (OpenSpec.ofChange certTellsSpec)

/-- ITS FALSE NEIGHBOUR: 'it returns false'. Refute it at one input. -/
def certTellsWrong : ChangeSpec := { name := "certTells", fn := fun _ => fun
  | [d1, d2, d3, d4, d5] => { results := [.lit (.bool false)], args := [d1, d2, d3, d4, d5] }
  | _ => none }
def CertTellsWrongFalsely : Prop := certTellsRow.holds Try.pinned (OpenSpec.ofChange certTellsWrong)

/-- 'mootlaw36.LightTells': WHATEVER THE INPUT: true; the input reads as it did. -/
def lightTellsSpec : ChangeSpec := { name := "lightTells", fn := fun _ => fun
  | [d1, d2, d3, d4] => { results := [.lit (.bool true)], args := [d1, d2, d3, d4] }
  | _ => none }
def lightTellsRow : OpenClaim := { program := "ytglneailkgminaa", sum := "f2a610d43f94058dae1b1e1288b53e5cd6355c93eed871fc2e7998edb541d77d", func := "moot/mootlaw36.LightTells", spec := "lightTells", inPlace := ["internal/abi.NoEscape", "internal/bytealg.MakeNoZero"], unfollowed := true, recurses := true, plainKeys := false, apart := false }
def LightTellsSaid : Prop := lightTellsRow.holds Try.pinned (OpenSpec.ofChange lightTellsSpec)

/-- ITS FALSE NEIGHBOUR: 'it returns false'. Refute it at one input. -/
def lightTellsWrong : ChangeSpec := { name := "lightTells", fn := fun _ => fun
  | [d1, d2, d3, d4] => { results := [.lit (.bool false)], args := [d1, d2, d3, d4] }
  | _ => none }
def LightTellsWrongFalsely : Prop := lightTellsRow.holds Try.pinned (OpenSpec.ofChange lightTellsWrong)

/-- 'mootlaw36.LightRises': WHATEVER THE INPUT: true; the input reads as it did. -/
def lightRisesSpec : ChangeSpec := { name := "lightRises", fn := fun _ => fun
  | [d1, d2] => { results := [.lit (.bool true)], args := [d1, d2] }
  | _ => none }
def lightRisesRow : OpenClaim := { program := "ytglneailkgminaa", sum := "f2a610d43f94058dae1b1e1288b53e5cd6355c93eed871fc2e7998edb541d77d", func := "moot/mootlaw36.LightRises", spec := "lightRises", inPlace := ["internal/abi.NoEscape", "internal/bytealg.MakeNoZero"], unfollowed := true, recurses := true, plainKeys := false, apart := false }
def LightRisesSaid : Prop := lightRisesRow.holds Try.pinned (OpenSpec.ofChange lightRisesSpec)

/-- ITS FALSE NEIGHBOUR: 'it returns false'. Refute it at one input. -/
def lightRisesWrong : ChangeSpec := { name := "lightRises", fn := fun _ => fun
  | [d1, d2] => { results := [.lit (.bool false)], args := [d1, d2] }
  | _ => none }
def LightRisesWrongFalsely : Prop := lightRisesRow.holds Try.pinned (OpenSpec.ofChange lightRisesWrong)

/-- 'mootlaw36.LightBest': WHATEVER THE INPUT: true; the input reads as it did. -/
def lightBestSpec : ChangeSpec := { name := "lightBest", fn := fun _ => fun
  | [d1, d2] => { results := [.lit (.bool true)], args := [d1, d2] }
  | _ => none }
def lightBestRow : OpenClaim := { program := "ytglneailkgminaa", sum := "f2a610d43f94058dae1b1e1288b53e5cd6355c93eed871fc2e7998edb541d77d", func := "moot/mootlaw36.LightBest", spec := "lightBest", inPlace := ["internal/abi.NoEscape", "internal/bytealg.MakeNoZero"], unfollowed := true, recurses := true, plainKeys := false, apart := false }
def LightBestSaid : Prop := lightBestRow.holds Try.pinned (OpenSpec.ofChange lightBestSpec)

/-- ITS FALSE NEIGHBOUR: 'it returns false'. Refute it at one input. -/
def lightBestWrong : ChangeSpec := { name := "lightBest", fn := fun _ => fun
  | [d1, d2] => { results := [.lit (.bool false)], args := [d1, d2] }
  | _ => none }
def LightBestWrongFalsely : Prop := lightBestRow.holds Try.pinned (OpenSpec.ofChange lightBestWrong)

/-- 'mootlaw33.LeavesAgain': WHATEVER THE INPUT: true; the input reads as it did. -/
def leavesAgainSpec : ChangeSpec := { name := "leavesAgain", fn := fun _ => fun
  | [d1, d2] => { results := [.lit (.bool true)], args := [d1, d2] }
  | _ => none }
def leavesAgainRow : OpenClaim := { program := "ytglneailkgminaa", sum := "f2a610d43f94058dae1b1e1288b53e5cd6355c93eed871fc2e7998edb541d77d", func := "moot/mootlaw33.LeavesAgain", spec := "leavesAgain", unfollowed := true, recurses := true, plainKeys := false, apart := false }
def LeavesAgainSaid : Prop := leavesAgainRow.holds Try.pinned (OpenSpec.ofChange leavesAgainSpec)

/-- ITS FALSE NEIGHBOUR: 'it returns false'. Refute it at one input. -/
def leavesAgainWrong : ChangeSpec := { name := "leavesAgain", fn := fun _ => fun
  | [d1, d2] => { results := [.lit (.bool false)], args := [d1, d2] }
  | _ => none }
def LeavesAgainWrongFalsely : Prop := leavesAgainRow.holds Try.pinned (OpenSpec.ofChange leavesAgainWrong)

/-- 'mootlaw09.CertMakes': WHATEVER THE INPUT: true; the input reads as it did. -/
def certMakesSpec : ChangeSpec := { name := "certMakes", fn := fun _ => fun
  | [d1, d2, d3] => { results := [.lit (.bool true)], args := [d1, d2, d3] }
  | _ => none }
def certMakesRow : OpenClaim := { program := "ytglneailkgminaa", sum := "f2a610d43f94058dae1b1e1288b53e5cd6355c93eed871fc2e7998edb541d77d", func := "moot/mootlaw09.CertMakes", spec := "certMakes", inPlace := ["internal/abi.NoEscape", "internal/bytealg.MakeNoZero"], unfollowed := true, recurses := true, plainKeys := false, apart := false }
def CertMakesSaid : Prop := certMakesRow.holds Try.pinned (OpenSpec.ofChange certMakesSpec)

/-- ITS FALSE NEIGHBOUR: 'it returns false'. Refute it at one input. -/
def certMakesWrong : ChangeSpec := { name := "certMakes", fn := fun _ => fun
  | [d1, d2, d3] => { results := [.lit (.bool false)], args := [d1, d2, d3] }
  | _ => none }
def CertMakesWrongFalsely : Prop := certMakesRow.holds Try.pinned (OpenSpec.ofChange certMakesWrong)

/- THE SECOND FORM. 'bulk': how many values and letters a reading holds, each counted each time it is reached (what is shared counts as often as it is met; a slice's spare places count too). A statement '..UptoSaid' is the law's where the arguments, and the package variables that the reading takes, are together of bulk at most 1048576: NARROWER than '..Said'. Prove '..Said' where nothing that the law and all that it calls make is longer than what came in: it says more and counts as full. Else prove '..UptoSaid'. A law counts once. -/
mutual
def uptoBulk {H : Type} : DataW H → Nat
  | .lit (.string bytes) => bytes.length + 1
  | .lit _ => 1
  | .nil => 1
  | .ptr d => uptoBulk d + 1
  | .slice elems spare => uptoBulkAll elems + uptoBulkAll spare + 1
  | .agg parts => uptoBulkAll parts + 1
  | .iface _ d => uptoBulk d + 1
  | .map entries => uptoBulkEntries entries + 1
  | .held _ => 1
def uptoBulkAll {H : Type} : List (DataW H) → Nat
  | [] => 0
  | d :: r => uptoBulk d + uptoBulkAll r
def uptoBulkEntries {H : Type} : List (Lit × DataW H) → Nat
  | [] => 0
  | x :: r => uptoBulkEntry x + uptoBulkEntries r
def uptoBulkEntry {H : Type} : Lit × DataW H → Nat
  | (.string bytes, d) => bytes.length + uptoBulk d + 1
  | (_, d) => uptoBulk d + 1
 end
def uptoSmall : (H : Type) → List (DataW H) → Bool := fun _ ds => decide (uptoBulkAll ds ≤ 1048576)
def OpenSpec.upto (s : _root_.Go.ChangeSpec) : _root_.Go.OpenSpec := { _root_.Go.OpenSpec.ofChange s with cond := some uptoSmall }

/-- 'mootlaw21.RuleMarks', WHERE WHAT IT READS IS OF BULK AT MOST 1048576: true; the input reads as it did. -/
def ruleMarksUptoRow : OpenClaim := { program := "ytglneailkgminaa", sum := "f2a610d43f94058dae1b1e1288b53e5cd6355c93eed871fc2e7998edb541d77d", func := "moot/mootlaw21.RuleMarks", spec := "ruleMarks", unfollowed := true, recurses := true, plainKeys := false, apart := false, narrowed := true }
def RuleMarksUptoSaid : Prop := ruleMarksUptoRow.holds Try.pinned (OpenSpec.upto ruleMarksSpec)

/-- 'mootlaw09.CertRanks', WHERE WHAT IT READS IS OF BULK AT MOST 1048576: true; the input reads as it did. -/
def certRanksUptoRow : OpenClaim := { program := "ytglneailkgminaa", sum := "f2a610d43f94058dae1b1e1288b53e5cd6355c93eed871fc2e7998edb541d77d", func := "moot/mootlaw09.CertRanks", spec := "certRanks", inPlace := ["internal/abi.NoEscape", "internal/bytealg.MakeNoZero"], unfollowed := true, recurses := true, plainKeys := false, apart := false, narrowed := true }
def CertRanksUptoSaid : Prop := certRanksUptoRow.holds Try.pinned (OpenSpec.upto certRanksSpec)

/-- 'mootlaw09.CertTells', WHERE WHAT IT READS IS OF BULK AT MOST 1048576: true; the input reads as it did. -/
def certTellsUptoRow : OpenClaim := { program := "ytglneailkgminaa", sum := "f2a610d43f94058dae1b1e1288b53e5cd6355c93eed871fc2e7998edb541d77d", func := "moot/mootlaw09.CertTells", spec := "certTells", inPlace := ["internal/abi.NoEscape", "internal/bytealg.MakeNoZero"], unfollowed := true, recurses := true, plainKeys := false, apart := false, narrowed := true }
def CertTellsUptoSaid : Prop := certTellsUptoRow.holds Try.pinned (OpenSpec.upto certTellsSpec)

/-- 'mootlaw36.LightTells', WHERE WHAT IT READS IS OF BULK AT MOST 1048576: true; the input reads as it did. -/
def lightTellsUptoRow : OpenClaim := { program := "ytglneailkgminaa", sum := "f2a610d43f94058dae1b1e1288b53e5cd6355c93eed871fc2e7998edb541d77d", func := "moot/mootlaw36.LightTells", spec := "lightTells", inPlace := ["internal/abi.NoEscape", "internal/bytealg.MakeNoZero"], unfollowed := true, recurses := true, plainKeys := false, apart := false, narrowed := true }
def LightTellsUptoSaid : Prop := lightTellsUptoRow.holds Try.pinned (OpenSpec.upto lightTellsSpec)

/-- 'mootlaw36.LightRises', WHERE WHAT IT READS IS OF BULK AT MOST 1048576: true; the input reads as it did. -/
def lightRisesUptoRow : OpenClaim := { program := "ytglneailkgminaa", sum := "f2a610d43f94058dae1b1e1288b53e5cd6355c93eed871fc2e7998edb541d77d", func := "moot/mootlaw36.LightRises", spec := "lightRises", inPlace := ["internal/abi.NoEscape", "internal/bytealg.MakeNoZero"], unfollowed := true, recurses := true, plainKeys := false, apart := false, narrowed := true }
def LightRisesUptoSaid : Prop := lightRisesUptoRow.holds Try.pinned (OpenSpec.upto lightRisesSpec)

/-- 'mootlaw36.LightBest', WHERE WHAT IT READS IS OF BULK AT MOST 1048576: true; the input reads as it did. -/
def lightBestUptoRow : OpenClaim := { program := "ytglneailkgminaa", sum := "f2a610d43f94058dae1b1e1288b53e5cd6355c93eed871fc2e7998edb541d77d", func := "moot/mootlaw36.LightBest", spec := "lightBest", inPlace := ["internal/abi.NoEscape", "internal/bytealg.MakeNoZero"], unfollowed := true, recurses := true, plainKeys := false, apart := false, narrowed := true }
def LightBestUptoSaid : Prop := lightBestUptoRow.holds Try.pinned (OpenSpec.upto lightBestSpec)

/-- 'mootlaw33.LeavesAgain', WHERE WHAT IT READS IS OF BULK AT MOST 1048576: true; the input reads as it did. -/
def leavesAgainUptoRow : OpenClaim := { program := "ytglneailkgminaa", sum := "f2a610d43f94058dae1b1e1288b53e5cd6355c93eed871fc2e7998edb541d77d", func := "moot/mootlaw33.LeavesAgain", spec := "leavesAgain", unfollowed := true, recurses := true, plainKeys := false, apart := false, narrowed := true }
def LeavesAgainUptoSaid : Prop := leavesAgainUptoRow.holds Try.pinned (OpenSpec.upto leavesAgainSpec)

/-- 'mootlaw09.CertMakes', WHERE WHAT IT READS IS OF BULK AT MOST 1048576: true; the input reads as it did. -/
def certMakesUptoRow : OpenClaim := { program := "ytglneailkgminaa", sum := "f2a610d43f94058dae1b1e1288b53e5cd6355c93eed871fc2e7998edb541d77d", func := "moot/mootlaw09.CertMakes", spec := "certMakes", inPlace := ["internal/abi.NoEscape", "internal/bytealg.MakeNoZero"], unfollowed := true, recurses := true, plainKeys := false, apart := false, narrowed := true }
def CertMakesUptoSaid : Prop := certMakesUptoRow.holds Try.pinned (OpenSpec.upto certMakesSpec)

end Rows
end Go.Proofs.Ytglneailkgminaa
