/- Package mootlaw36: LightRises at inputs of bounded bulk. No claim of its own; no condition. -/
import Derived.Test.YtglneailkgminaaLigH
import Derived.Test.YtglneailkgminaaLigR
namespace Go.Proofs.Ytglneailkgminaa
open Go.ChangeShapes Go.WideShapes Go.ChangeAt Go.RowKit
set_option linter.unusedVariables false
theorem mem_bulk {α : Type} (b : α → Nat) : ∀ (l : List α), ∀ x ∈ l, b x ≤ (l.map b).sum
  | y :: l, x, hx => by
    rw [List.map_cons, List.sum_cons]
    rcases List.mem_cons.1 hx with rfl | h
    · omega
    · have := mem_bulk b l x h; omega
theorem certs_bulk (l : List Cert) (h : (l.map kCert.bulk).sum ≤ 1048576) : ∀ x ∈ l, x.votes.length ≤ 1048576 := fun x hx =>
  (cert_bulk x (by have := mem_bulk kCert.bulk l x hx; omega)).1
theorem lightrises_x (y : Config) (l : List Cert) (Ar Ac Al : Option Addr) (cr cc cl : Nat) (w : World) (h1 : kConfig.bulk y ≤ 1048576) (h2 : l.length ≤ 1048576) (h3 : (l.map kCert.bulk).sum ≤ 1048576)
    (hrr : Kd.str.Row 9 w.heap.size w Ar y.roots) (hr : kCert.Row 35 w.heap.size w Al l) :
    Calls Try.prog 7 #[.agg #[.slice Ar y.roots.length cr, .slice Ac y.clients.length cc, .int .i64 y.quorum, .int .i64 y.base, .int .i64 y.cap], .slice Al l.length cl] w
      fun e w' => e = .returned (.bool true) ∧ Below w.heap.size w w' :=
  lightrises_walk l y.roots y.quorum y.base y.cap Ar Ac Al cr y.clients.length cc cl w.heap.size w (Nat.le_refl _) h2 (certs_bulk l h3) (config_bulk y h1).1 hr hrr
end Go.Proofs.Ytglneailkgminaa
