/- Package mootlaw36: LightTells at inputs of bounded bulk. No claim of its own; no condition. -/
import Derived.Test.YtglneailkgminaaLigG
namespace Go.Proofs.Ytglneailkgminaa
open Go.ChangeShapes Go.WideShapes Go.ChangeAt Go.RowKit
set_option linter.unusedVariables false
theorem light_bulk (x : Light) (hb : kLight.bulk x ≤ 1048576) : x.head.votes.length ≤ 1048576 ∧ x.head.block.size ≤ 1048576 ∧ ∀ v ∈ x.head.votes, v.block.size ≤ 1048576 ∧ v.sig.size ≤ 1048576 := by
  have e : kLight.bulk x = kCert.bulk x.head + 1 + 1 := rfl
  exact cert_bulk x.head (by omega)
theorem config_bulk (x : Config) (hb : kConfig.bulk x ≤ 1048576) : x.roots.length ≤ 1048576 ∧ x.clients.length ≤ 1048576 := by
  have e : kConfig.bulk x = ((x.roots.map Kd.str.bulk).sum + 1) + (((x.clients.map Kd.str.bulk).sum + 1) + (1 + (1 + 1))) + 1 := rfl
  have h1 := sum_bulk Kd.str.bulk (fun y => Nat.le_add_left 1 _) x.roots
  have h2 := sum_bulk Kd.str.bulk (fun y => Nat.le_add_left 1 _) x.clients
  omega
theorem lighttells_x (x : Light) (y : Config) (z : Cert) (ns : List ByteArray) (A Ar Ac A2 An : Option Addr) (c cr cc c2 cn : Nat) (w : World) (h0 : kLight.bulk x ≤ 1048576) (h1 : kConfig.bulk y ≤ 1048576) (h2 : kCert.bulk z ≤ 1048576) (hln : ns.length ≤ 1048576)
    (hrh : kVote.Row 28 w.heap.size w A x.head.votes) (hrr : Kd.str.Row 9 w.heap.size w Ar y.roots) (hr : kVote.Row 28 w.heap.size w A2 z.votes) (hrn : Kd.str.Row 9 w.heap.size w An ns) :
    Calls Try.prog 6 #[.agg #[.int .i64 x.head.view, .int .i64 x.head.height, .string x.head.block, .slice A x.head.votes.length c, .int .i64 x.taken], .agg #[.slice Ar y.roots.length cr, .slice Ac y.clients.length cc, .int .i64 y.quorum, .int .i64 y.base, .int .i64 y.cap], .agg #[.int .i64 z.view, .int .i64 z.height, .string z.block, .slice A2 z.votes.length c2], .slice An ns.length cn] w
      fun e w' => e = .returned (.bool true) ∧ Below w.heap.size w w' :=
  lighttells_walk ⟨z.view, z.height, z.block⟩ ⟨x.head.view, x.head.height, x.head.block⟩ z.votes x.head.votes y.roots ns x.taken _ y.quorum y.base y.cap rfl A A2 Ar Ac An c c2 cr y.clients.length cc cn w.heap.size w (Nat.le_refl _) (cert_bulk z h2).1 (light_bulk x h0).1 (config_bulk y h1).1 hln hr hrh hrr hrn
end Go.Proofs.Ytglneailkgminaa
