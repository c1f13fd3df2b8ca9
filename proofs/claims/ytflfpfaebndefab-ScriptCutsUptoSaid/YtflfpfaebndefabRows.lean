/-
  No cell of these rows narrows 'for every input' (looked for: loops, veiled, ifaces, maps, wideKeys, modest, calm, conditions, laid).
  DERIVED. THE GIVEN ROWS OF THIS SEAT. 7 by the template 'for every input the law returns true; each argument reads behind the call as it read before'; 0 by the template 'total and deterministic' (their statements: YtflfpfaebndefabTotals.lean).
  GIVEN WITH THE SEED: the statements are not yours to turn. If you find one false, say at which input.
  Laid BY PROGRAM, IN A SANDBOX (cutbox-rows.mjs): the forced cells as the released guide's own fill.sh prints them over the translation ec9d528bfc73bdee… (all of the seat's roots in one cut). By AI agents, Wed Nov 11 2026. No macro, syntax, notation, axiom, sorry.
-/
import Derived.Test.YtflfpfaebndefabChecked
import GoSem.Claim
import GoSem.ClaimJoined
import GoSem.ClaimMapViews
import Derived.JoinedTies
import Derived.KernelRfl
namespace Go.Proofs.Ytflfpfaebndefab
/- THE CELL 'sum', in the pinned program and in every row, IS THE sha256 OF THE DUMP (.gsa) THAT YtflfpfaebndefabProg.lean LOADS. Nothing in Lean hashes anything: it is a label: what it is worth is what the hold of that sum in a sandbox is worth. -/
noncomputable def Try.pinned : Pinned := { name := "ytflfpfaebndefab", sum := "ec9d528bfc73bdeeb99aaa3e079ccd419fbff411f2f54f4517a56a67d1af6374", checked := Try.checked }
namespace Rows
def none {H : Type} : Left H := { results := [], args := [] }

/-- 'mootlaw16.BankTells': WHATEVER THE INPUT: true; the input reads as it did. -/
def bankTellsSpec : ChangeSpec := { name := "bankTells", fn := fun _ => fun
  | [d1, d2, d3, d4] => { results := [.lit (.bool true)], args := [d1, d2, d3, d4] }
  | _ => none }
def bankTellsRow : OpenClaim := { program := "ytflfpfaebndefab", sum := "ec9d528bfc73bdeeb99aaa3e079ccd419fbff411f2f54f4517a56a67d1af6374", func := "moot/mootlaw16.BankTells", spec := "bankTells", apart := false }
def BankTellsSaid : Prop := bankTellsRow.holds Try.pinned (OpenSpec.ofChange bankTellsSpec)

/-- ITS FALSE NEIGHBOUR: 'it returns false'. Refute it at one input. -/
def bankTellsWrong : ChangeSpec := { name := "bankTells", fn := fun _ => fun
  | [d1, d2, d3, d4] => { results := [.lit (.bool false)], args := [d1, d2, d3, d4] }
  | _ => none }
def BankTellsWrongFalsely : Prop := bankTellsRow.holds Try.pinned (OpenSpec.ofChange bankTellsWrong)

/-- 'mootlaw41.LatencyTells': WHATEVER THE INPUT: true; the input reads as it did. -/
def latencyTellsSpec : ChangeSpec := { name := "latencyTells", fn := fun _ => fun
  | [d1, d2, d3, d4] => { results := [.lit (.bool true)], args := [d1, d2, d3, d4] }
  | _ => none }
def latencyTellsRow : OpenClaim := { program := "ytflfpfaebndefab", sum := "ec9d528bfc73bdeeb99aaa3e079ccd419fbff411f2f54f4517a56a67d1af6374", func := "moot/mootlaw41.LatencyTells", spec := "latencyTells", unfollowed := true, recurses := true, apart := false }
def LatencyTellsSaid : Prop := latencyTellsRow.holds Try.pinned (OpenSpec.ofChange latencyTellsSpec)

/-- ITS FALSE NEIGHBOUR: 'it returns false'. Refute it at one input. -/
def latencyTellsWrong : ChangeSpec := { name := "latencyTells", fn := fun _ => fun
  | [d1, d2, d3, d4] => { results := [.lit (.bool false)], args := [d1, d2, d3, d4] }
  | _ => none }
def LatencyTellsWrongFalsely : Prop := latencyTellsRow.holds Try.pinned (OpenSpec.ofChange latencyTellsWrong)

/-- 'mootlaw26.ScriptBack': WHATEVER THE INPUT: true; the input reads as it did. -/
def scriptBackSpec : ChangeSpec := { name := "scriptBack", fn := fun _ => fun
  | [d1, d2] => { results := [.lit (.bool true)], args := [d1, d2] }
  | _ => none }
def scriptBackRow : OpenClaim := { program := "ytflfpfaebndefab", sum := "ec9d528bfc73bdeeb99aaa3e079ccd419fbff411f2f54f4517a56a67d1af6374", func := "moot/mootlaw26.ScriptBack", spec := "scriptBack", unfollowed := true, recurses := true, apart := false }
def ScriptBackSaid : Prop := scriptBackRow.holds Try.pinned (OpenSpec.ofChange scriptBackSpec)

/-- ITS FALSE NEIGHBOUR: 'it returns false'. Refute it at one input. -/
def scriptBackWrong : ChangeSpec := { name := "scriptBack", fn := fun _ => fun
  | [d1, d2] => { results := [.lit (.bool false)], args := [d1, d2] }
  | _ => none }
def ScriptBackWrongFalsely : Prop := scriptBackRow.holds Try.pinned (OpenSpec.ofChange scriptBackWrong)

/-- 'mootlaw26.ScriptCuts': WHATEVER THE INPUT: true; the input reads as it did. -/
def scriptCutsSpec : ChangeSpec := { name := "scriptCuts", fn := fun _ => fun
  | [d1, d2] => { results := [.lit (.bool true)], args := [d1, d2] }
  | _ => none }
def scriptCutsRow : OpenClaim := { program := "ytflfpfaebndefab", sum := "ec9d528bfc73bdeeb99aaa3e079ccd419fbff411f2f54f4517a56a67d1af6374", func := "moot/mootlaw26.ScriptCuts", spec := "scriptCuts", unfollowed := true, recurses := true, apart := false }
def ScriptCutsSaid : Prop := scriptCutsRow.holds Try.pinned (OpenSpec.ofChange scriptCutsSpec)

/-- ITS FALSE NEIGHBOUR: 'it returns false'. Refute it at one input. -/
def scriptCutsWrong : ChangeSpec := { name := "scriptCuts", fn := fun _ => fun
  | [d1, d2] => { results := [.lit (.bool false)], args := [d1, d2] }
  | _ => none }
def ScriptCutsWrongFalsely : Prop := scriptCutsRow.holds Try.pinned (OpenSpec.ofChange scriptCutsWrong)

/-- 'mootlaw28.QueryAdds': WHATEVER THE INPUT: true; the input reads as it did. -/
def queryAddsSpec : ChangeSpec := { name := "queryAdds", fn := fun _ => fun
  | [d] => { results := [.lit (.bool true)], args := [d] }
  | _ => none }
def queryAddsRow : OpenClaim := { program := "ytflfpfaebndefab", sum := "ec9d528bfc73bdeeb99aaa3e079ccd419fbff411f2f54f4517a56a67d1af6374", func := "moot/mootlaw28.QueryAdds", spec := "queryAdds", apart := false }
def QueryAddsSaid : Prop := queryAddsRow.holds Try.pinned (OpenSpec.ofChange queryAddsSpec)

/-- ITS FALSE NEIGHBOUR: 'it returns false'. Refute it at one input. -/
def queryAddsWrong : ChangeSpec := { name := "queryAdds", fn := fun _ => fun
  | [d] => { results := [.lit (.bool false)], args := [d] }
  | _ => none }
def QueryAddsWrongFalsely : Prop := queryAddsRow.holds Try.pinned (OpenSpec.ofChange queryAddsWrong)

/-- 'mootlaw28.QueryLonger': WHATEVER THE INPUT: true; the input reads as it did. -/
def queryLongerSpec : ChangeSpec := { name := "queryLonger", fn := fun _ => fun
  | [d1, d2, d3] => { results := [.lit (.bool true)], args := [d1, d2, d3] }
  | _ => none }
def queryLongerRow : OpenClaim := { program := "ytflfpfaebndefab", sum := "ec9d528bfc73bdeeb99aaa3e079ccd419fbff411f2f54f4517a56a67d1af6374", func := "moot/mootlaw28.QueryLonger", spec := "queryLonger", apart := false }
def QueryLongerSaid : Prop := queryLongerRow.holds Try.pinned (OpenSpec.ofChange queryLongerSpec)

/-- ITS FALSE NEIGHBOUR: 'it returns false'. Refute it at one input. -/
def queryLongerWrong : ChangeSpec := { name := "queryLonger", fn := fun _ => fun
  | [d1, d2, d3] => { results := [.lit (.bool false)], args := [d1, d2, d3] }
  | _ => none }
def QueryLongerWrongFalsely : Prop := queryLongerRow.holds Try.pinned (OpenSpec.ofChange queryLongerWrong)

/-- 'mootlaw28.QueryTells': WHATEVER THE INPUT: true; the input reads as it did. -/
def queryTellsSpec : ChangeSpec := { name := "queryTells", fn := fun _ => fun
  | [d1, d2, d3] => { results := [.lit (.bool true)], args := [d1, d2, d3] }
  | _ => none }
def queryTellsRow : OpenClaim := { program := "ytflfpfaebndefab", sum := "ec9d528bfc73bdeeb99aaa3e079ccd419fbff411f2f54f4517a56a67d1af6374", func := "moot/mootlaw28.QueryTells", spec := "queryTells", apart := false }
def QueryTellsSaid : Prop := queryTellsRow.holds Try.pinned (OpenSpec.ofChange queryTellsSpec)

/-- ITS FALSE NEIGHBOUR: 'it returns false'. Refute it at one input. -/
def queryTellsWrong : ChangeSpec := { name := "queryTells", fn := fun _ => fun
  | [d1, d2, d3] => { results := [.lit (.bool false)], args := [d1, d2, d3] }
  | _ => none }
def QueryTellsWrongFalsely : Prop := queryTellsRow.holds Try.pinned (OpenSpec.ofChange queryTellsWrong)

/- THE SECOND FORM. 'bulk': how many values and letters a reading holds, each counted each time it is reached (what is shared counts as often as it is met; a slice's spare places count too). A statement '..UptoSaid' is the law's where the arguments, and the package variables that the reading takes, are together of bulk at most 1048576: NARROWER than '..Said'. Prove '..Said' where nothing that the law and all that it calls make is longer than what came in: it says more and counts as full. Else prove '..UptoSaid'. A law counts once. -/
mutual
def uptoBulk {H : Type} : DataW H → Nat
  | .lit (.string bytes) => bytes.length + 1
  | .lit _ => 1
  | .nil => 1
  | .ptr d => uptoBulk d + 1
  | .slice elems spare => uptoBulkAll elems + uptoBulkAll spare + 1
  | .agg parts => uptoBulkAll parts + 1
  | .iface _ d => uptoBulk d + 1
  | .map entries => uptoBulkEntries entries + 1
  | .held _ => 1
def uptoBulkAll {H : Type} : List (DataW H) → Nat
  | [] => 0
  | d :: r => uptoBulk d + uptoBulkAll r
def uptoBulkEntries {H : Type} : List (Lit × DataW H) → Nat
  | [] => 0
  | x :: r => uptoBulkEntry x + uptoBulkEntries r
def uptoBulkEntry {H : Type} : Lit × DataW H → Nat
  | (.string bytes, d) => bytes.length + uptoBulk d + 1
  | (_, d) => uptoBulk d + 1
 end
def uptoSmall : (H : Type) → List (DataW H) → Bool := fun _ ds => decide (uptoBulkAll ds ≤ 1048576)
def OpenSpec.upto (s : _root_.Go.ChangeSpec) : _root_.Go.OpenSpec := { _root_.Go.OpenSpec.ofChange s with cond := some uptoSmall }

/-- 'mootlaw16.BankTells', WHERE WHAT IT READS IS OF BULK AT MOST 1048576: true; the input reads as it did. -/
def bankTellsUptoRow : OpenClaim := { program := "ytflfpfaebndefab", sum := "ec9d528bfc73bdeeb99aaa3e079ccd419fbff411f2f54f4517a56a67d1af6374", func := "moot/mootlaw16.BankTells", spec := "bankTells", apart := false, narrowed := true }
def BankTellsUptoSaid : Prop := bankTellsUptoRow.holds Try.pinned (OpenSpec.upto bankTellsSpec)

/-- 'mootlaw41.LatencyTells', WHERE WHAT IT READS IS OF BULK AT MOST 1048576: true; the input reads as it did. -/
def latencyTellsUptoRow : OpenClaim := { program := "ytflfpfaebndefab", sum := "ec9d528bfc73bdeeb99aaa3e079ccd419fbff411f2f54f4517a56a67d1af6374", func := "moot/mootlaw41.LatencyTells", spec := "latencyTells", unfollowed := true, recurses := true, apart := false, narrowed := true }
def LatencyTellsUptoSaid : Prop := latencyTellsUptoRow.holds Try.pinned (OpenSpec.upto latencyTellsSpec)

/-- 'mootlaw26.ScriptBack', WHERE WHAT IT READS IS OF BULK AT MOST 1048576: true; the input reads as it did. -/
def scriptBackUptoRow : OpenClaim := { program := "ytflfpfaebndefab", sum := "ec9d528bfc73bdeeb99aaa3e079ccd419fbff411f2f54f4517a56a67d1af6374", func := "moot/mootlaw26.ScriptBack", spec := "scriptBack", unfollowed := true, recurses := true, apart := false, narrowed := true }
def ScriptBackUptoSaid : Prop := scriptBackUptoRow.holds Try.pinned (OpenSpec.upto scriptBackSpec)

/-- 'mootlaw26.ScriptCuts', WHERE WHAT IT READS IS OF BULK AT MOST 1048576: true; the input reads as it did. -/
def scriptCutsUptoRow : OpenClaim := { program := "ytflfpfaebndefab", sum := "ec9d528bfc73bdeeb99aaa3e079ccd419fbff411f2f54f4517a56a67d1af6374", func := "moot/mootlaw26.ScriptCuts", spec := "scriptCuts", unfollowed := true, recurses := true, apart := false, narrowed := true }
def ScriptCutsUptoSaid : Prop := scriptCutsUptoRow.holds Try.pinned (OpenSpec.upto scriptCutsSpec)

/-- 'mootlaw28.QueryAdds', WHERE WHAT IT READS IS OF BULK AT MOST 1048576: true; the input reads as it did. -/
def queryAddsUptoRow : OpenClaim := { program := "ytflfpfaebndefab", sum := "ec9d528bfc73bdeeb99aaa3e079ccd419fbff411f2f54f4517a56a67d1af6374", func := "moot/mootlaw28.QueryAdds", spec := "queryAdds", apart := false, narrowed := true }
def QueryAddsUptoSaid : Prop := queryAddsUptoRow.holds Try.pinned (OpenSpec.upto queryAddsSpec)

/-- 'mootlaw28.QueryLonger', WHERE WHAT IT READS IS OF BULK AT MOST 1048576: true; the input reads as it did. -/
def queryLongerUptoRow : OpenClaim := { program := "ytflfpfaebndefab", sum := "ec9d528bfc73bdeeb99aaa3e079ccd419fbff411f2f54f4517a56a67d1af6374", func := "moot/mootlaw28.QueryLonger", spec := "queryLonger", apart := false, narrowed := true }
def QueryLongerUptoSaid : Prop := queryLongerUptoRow.holds Try.pinned (OpenSpec.upto queryLongerSpec)

/-- 'mootlaw28.QueryTells', WHERE WHAT IT READS IS OF BULK AT MOST 1048576: true; the input reads as it did. -/
def queryTellsUptoRow : OpenClaim := { program := "ytflfpfaebndefab", sum := "ec9d528bfc73bdeeb99aaa3e079ccd419fbff411f2f54f4517a56a67d1af6374", func := "moot/mootlaw28.QueryTells", spec := "queryTells", apart := false, narrowed := true }
def QueryTellsUptoSaid : Prop := queryTellsUptoRow.holds Try.pinned (OpenSpec.upto queryTellsSpec)

end Rows
end Go.Proofs.Ytflfpfaebndefab
