/- The program's structs as Lean's, how they lie in cells, and how they come in. No claim of its own; no condition. Printed by a program of this session. -/
import Derived.Test.YtglneailkgminaaWords
namespace Go.Proofs.Ytglneailkgminaa
open Go.ChangeShapes Go.WideShapes Go.ChangeAt Go.RowKit
set_option linter.unusedVariables false
structure Mark where
  view : Int
  height : Int
  block : ByteArray
  deriving DecidableEq, Inhabited
def kMark : Kd Mark := Kd.iso (Kd.pair Kd.int (Kd.pair Kd.int Kd.str)) (fun x : Mark => (x.view, (x.height, x.block)))
theorem kMark_open {B : Nat} {w : World} {x : Mark} {cs : List Value} (h : kMark.K B w x cs) : cs = [.int .i64 x.view, .int .i64 x.height, .string x.block] ∧ IntOk x.view ∧ IntOk x.height ∧ x.block.size ≤ 140737488351232 := by
  obtain ⟨_, _, rfl, ⟨rfl, h0⟩, ⟨_, _, rfl, ⟨rfl, h1⟩, ⟨rfl, h2⟩⟩⟩ := h
  exact ⟨rfl, h0, h1, h2⟩
theorem kMark_mk {B : Nat} {w : World} (x : Mark) (h0 : IntOk x.view) (h1 : IntOk x.height) (h2 : x.block.size ≤ 140737488351232) : kMark.K B w x [.int .i64 x.view, .int .i64 x.height, .string x.block] :=
  ⟨_, _, rfl, ⟨rfl, h0⟩, ⟨_, _, rfl, ⟨rfl, h1⟩, ⟨rfl, h2⟩⟩⟩
theorem kMark_at {B e : Nat} {w : World} {A : Option Addr} {xs : List Mark} (h : Kd.Row kMark e B w A xs) {i : Nat} {x : Mark} (hx : xs[i]? = some x) : ∃ ad, A = some ad ∧ w.cell? (ad.add (i * 3)) = some (.int .i64 x.view) ∧ w.cell? ⟨(ad.add (i * 3)).block, (ad.add (i * 3)).off + 1, none⟩ = some (.int .i64 x.height) ∧ w.cell? ⟨(ad.add (i * 3)).block, (ad.add (i * 3)).off + 2, none⟩ = some (.string x.block) ∧ IntOk x.view ∧ IntOk x.height ∧ x.block.size ≤ 140737488351232 := by
  obtain ⟨ad, cs, rfl, _, hK, hc⟩ := Kd.row_at h hx
  obtain ⟨rfl, hcond⟩ := kMark_open hK
  exact ⟨ad, rfl, hc 0 _ rfl, cell_fld (hc 1 _ rfl), cell_fld (hc 2 _ rfl), hcond⟩
theorem eqlMark (x y : Mark) (w : World) : (binOp .eql 26 (.agg #[.int .i64 x.view, .int .i64 x.height, .string x.block]) (.agg #[.int .i64 y.view, .int .i64 y.height, .string y.block])).run Try.prog w = .ok (.bool (decide (x = y))) w := by
  have e : ((x.view == y.view) && ((x.height == y.height) && ((x.block.toList == y.block.toList) && true))) = decide (x = y) := by
    cases x; cases y
    simp only [bytes_beq, Mark.mk.injEq, Bool.and_true, Bool.decide_and]
    try simp only [← Int.beq_eq_decide_eq, ← Bool.beq_eq_decide_eq]
    try rfl
  rw [← e]
  exact eql_of Try.underlying26 (by kernel_rfl) (eqf_cons (by rfl) (by go_simp; rfl) (by go_simp; rfl) (by go_simp) (eqf_cons (by rfl) (by go_simp; rfl) (by go_simp; rfl) (by go_simp) (eqf_cons (by rfl) (by go_simp; rfl) (by go_simp; rfl) (by go_simp) eqf_nil)))
theorem neqMark (x y : Mark) (w : World) : (binOp .neq 26 (.agg #[.int .i64 x.view, .int .i64 x.height, .string x.block]) (.agg #[.int .i64 y.view, .int .i64 y.height, .string y.block])).run Try.prog w = .ok (.bool (!decide (x = y))) w := by
  have e : ((x.view == y.view) && ((x.height == y.height) && ((x.block.toList == y.block.toList) && true))) = decide (x = y) := by
    cases x; cases y
    simp only [bytes_beq, Mark.mk.injEq, Bool.and_true, Bool.decide_and]
    try simp only [← Int.beq_eq_decide_eq, ← Bool.beq_eq_decide_eq]
    try rfl
  rw [← e]
  exact neq_of Try.underlying26 (by kernel_rfl) (eqf_cons (by rfl) (by go_simp; rfl) (by go_simp; rfl) (by go_simp) (eqf_cons (by rfl) (by go_simp; rfl) (by go_simp; rfl) (by go_simp) (eqf_cons (by rfl) (by go_simp; rfl) (by go_simp; rfl) (by go_simp) eqf_nil)))
theorem opensMark : Opens Try.prog kMark 26 := by
  exact opens_struct (g' := fun p => ⟨p.1, p.2.1, p.2.2⟩) (fun _ => rfl) Try.underlying26 (by kernel_rfl) (opensF_cons rfl (by kernel_rfl) (opens_int Try.underlying3) (opensF_cons rfl (by kernel_rfl) (opens_int Try.underlying3) (opensF_one rfl (by kernel_rfl) (opens_str Try.underlying9))))
structure Vote where
  kind : Int
  view : Int
  height : Int
  block : ByteArray
  ticks : Int
  signer : Int
  sig : ByteArray
  deriving DecidableEq, Inhabited
def kVote : Kd Vote := Kd.iso (Kd.pair Kd.int (Kd.pair Kd.int (Kd.pair Kd.int (Kd.pair Kd.str (Kd.pair Kd.int (Kd.pair Kd.int Kd.str)))))) (fun x : Vote => (x.kind, (x.view, (x.height, (x.block, (x.ticks, (x.signer, x.sig)))))))
theorem kVote_open {B : Nat} {w : World} {x : Vote} {cs : List Value} (h : kVote.K B w x cs) : cs = [.int .i64 x.kind, .int .i64 x.view, .int .i64 x.height, .string x.block, .int .i64 x.ticks, .int .i64 x.signer, .string x.sig] ∧ IntOk x.kind ∧ IntOk x.view ∧ IntOk x.height ∧ x.block.size ≤ 140737488351232 ∧ IntOk x.ticks ∧ IntOk x.signer ∧ x.sig.size ≤ 140737488351232 := by
  obtain ⟨_, _, rfl, ⟨rfl, h0⟩, ⟨_, _, rfl, ⟨rfl, h1⟩, ⟨_, _, rfl, ⟨rfl, h2⟩, ⟨_, _, rfl, ⟨rfl, h3⟩, ⟨_, _, rfl, ⟨rfl, h4⟩, ⟨_, _, rfl, ⟨rfl, h5⟩, ⟨rfl, h6⟩⟩⟩⟩⟩⟩⟩ := h
  exact ⟨rfl, h0, h1, h2, h3, h4, h5, h6⟩
theorem kVote_mk {B : Nat} {w : World} (x : Vote) (h0 : IntOk x.kind) (h1 : IntOk x.view) (h2 : IntOk x.height) (h3 : x.block.size ≤ 140737488351232) (h4 : IntOk x.ticks) (h5 : IntOk x.signer) (h6 : x.sig.size ≤ 140737488351232) : kVote.K B w x [.int .i64 x.kind, .int .i64 x.view, .int .i64 x.height, .string x.block, .int .i64 x.ticks, .int .i64 x.signer, .string x.sig] :=
  ⟨_, _, rfl, ⟨rfl, h0⟩, ⟨_, _, rfl, ⟨rfl, h1⟩, ⟨_, _, rfl, ⟨rfl, h2⟩, ⟨_, _, rfl, ⟨rfl, h3⟩, ⟨_, _, rfl, ⟨rfl, h4⟩, ⟨_, _, rfl, ⟨rfl, h5⟩, ⟨rfl, h6⟩⟩⟩⟩⟩⟩⟩
theorem kVote_at {B e : Nat} {w : World} {A : Option Addr} {xs : List Vote} (h : Kd.Row kVote e B w A xs) {i : Nat} {x : Vote} (hx : xs[i]? = some x) : ∃ ad, A = some ad ∧ w.cell? (ad.add (i * 7)) = some (.int .i64 x.kind) ∧ w.cell? ⟨(ad.add (i * 7)).block, (ad.add (i * 7)).off + 1, none⟩ = some (.int .i64 x.view) ∧ w.cell? ⟨(ad.add (i * 7)).block, (ad.add (i * 7)).off + 2, none⟩ = some (.int .i64 x.height) ∧ w.cell? ⟨(ad.add (i * 7)).block, (ad.add (i * 7)).off + 3, none⟩ = some (.string x.block) ∧ w.cell? ⟨(ad.add (i * 7)).block, (ad.add (i * 7)).off + 4, none⟩ = some (.int .i64 x.ticks) ∧ w.cell? ⟨(ad.add (i * 7)).block, (ad.add (i * 7)).off + 5, none⟩ = some (.int .i64 x.signer) ∧ w.cell? ⟨(ad.add (i * 7)).block, (ad.add (i * 7)).off + 6, none⟩ = some (.string x.sig) ∧ IntOk x.kind ∧ IntOk x.view ∧ IntOk x.height ∧ x.block.size ≤ 140737488351232 ∧ IntOk x.ticks ∧ IntOk x.signer ∧ x.sig.size ≤ 140737488351232 := by
  obtain ⟨ad, cs, rfl, _, hK, hc⟩ := Kd.row_at h hx
  obtain ⟨rfl, hcond⟩ := kVote_open hK
  exact ⟨ad, rfl, hc 0 _ rfl, cell_fld (hc 1 _ rfl), cell_fld (hc 2 _ rfl), cell_fld (hc 3 _ rfl), cell_fld (hc 4 _ rfl), cell_fld (hc 5 _ rfl), cell_fld (hc 6 _ rfl), hcond⟩
theorem eqlVote (x y : Vote) (w : World) : (binOp .eql 28 (.agg #[.int .i64 x.kind, .int .i64 x.view, .int .i64 x.height, .string x.block, .int .i64 x.ticks, .int .i64 x.signer, .string x.sig]) (.agg #[.int .i64 y.kind, .int .i64 y.view, .int .i64 y.height, .string y.block, .int .i64 y.ticks, .int .i64 y.signer, .string y.sig])).run Try.prog w = .ok (.bool (decide (x = y))) w := by
  have e : ((x.kind == y.kind) && ((x.view == y.view) && ((x.height == y.height) && ((x.block.toList == y.block.toList) && ((x.ticks == y.ticks) && ((x.signer == y.signer) && ((x.sig.toList == y.sig.toList) && true))))))) = decide (x = y) := by
    cases x; cases y
    simp only [bytes_beq, Vote.mk.injEq, Bool.and_true, Bool.decide_and]
    try simp only [← Int.beq_eq_decide_eq, ← Bool.beq_eq_decide_eq]
    try rfl
  rw [← e]
  exact eql_of Try.underlying28 (by kernel_rfl) (eqf_cons (by rfl) (by go_simp; rfl) (by go_simp; rfl) (by go_simp) (eqf_cons (by rfl) (by go_simp; rfl) (by go_simp; rfl) (by go_simp) (eqf_cons (by rfl) (by go_simp; rfl) (by go_simp; rfl) (by go_simp) (eqf_cons (by rfl) (by go_simp; rfl) (by go_simp; rfl) (by go_simp) (eqf_cons (by rfl) (by go_simp; rfl) (by go_simp; rfl) (by go_simp) (eqf_cons (by rfl) (by go_simp; rfl) (by go_simp; rfl) (by go_simp) (eqf_cons (by rfl) (by go_simp; rfl) (by go_simp; rfl) (by go_simp) eqf_nil)))))))
theorem neqVote (x y : Vote) (w : World) : (binOp .neq 28 (.agg #[.int .i64 x.kind, .int .i64 x.view, .int .i64 x.height, .string x.block, .int .i64 x.ticks, .int .i64 x.signer, .string x.sig]) (.agg #[.int .i64 y.kind, .int .i64 y.view, .int .i64 y.height, .string y.block, .int .i64 y.ticks, .int .i64 y.signer, .string y.sig])).run Try.prog w = .ok (.bool (!decide (x = y))) w := by
  have e : ((x.kind == y.kind) && ((x.view == y.view) && ((x.height == y.height) && ((x.block.toList == y.block.toList) && ((x.ticks == y.ticks) && ((x.signer == y.signer) && ((x.sig.toList == y.sig.toList) && true))))))) = decide (x = y) := by
    cases x; cases y
    simp only [bytes_beq, Vote.mk.injEq, Bool.and_true, Bool.decide_and]
    try simp only [← Int.beq_eq_decide_eq, ← Bool.beq_eq_decide_eq]
    try rfl
  rw [← e]
  exact neq_of Try.underlying28 (by kernel_rfl) (eqf_cons (by rfl) (by go_simp; rfl) (by go_simp; rfl) (by go_simp) (eqf_cons (by rfl) (by go_simp; rfl) (by go_simp; rfl) (by go_simp) (eqf_cons (by rfl) (by go_simp; rfl) (by go_simp; rfl) (by go_simp) (eqf_cons (by rfl) (by go_simp; rfl) (by go_simp; rfl) (by go_simp) (eqf_cons (by rfl) (by go_simp; rfl) (by go_simp; rfl) (by go_simp) (eqf_cons (by rfl) (by go_simp; rfl) (by go_simp; rfl) (by go_simp) (eqf_cons (by rfl) (by go_simp; rfl) (by go_simp; rfl) (by go_simp) eqf_nil)))))))
theorem opensVote : Opens Try.prog kVote 28 := by
  exact opens_struct (g' := fun p => ⟨p.1, p.2.1, p.2.2.1, p.2.2.2.1, p.2.2.2.2.1, p.2.2.2.2.2.1, p.2.2.2.2.2.2⟩) (fun _ => rfl) Try.underlying28 (by kernel_rfl) (opensF_cons rfl (by kernel_rfl) (opens_int Try.underlying3) (opensF_cons rfl (by kernel_rfl) (opens_int Try.underlying3) (opensF_cons rfl (by kernel_rfl) (opens_int Try.underlying3) (opensF_cons rfl (by kernel_rfl) (opens_str Try.underlying9) (opensF_cons rfl (by kernel_rfl) (opens_int Try.underlying3) (opensF_cons rfl (by kernel_rfl) (opens_int Try.underlying3) (opensF_one rfl (by kernel_rfl) (opens_str Try.underlying9))))))))
structure Cert where
  view : Int
  height : Int
  block : ByteArray
  votes : List Vote
  deriving DecidableEq, Inhabited
def kCert : Kd Cert := Kd.iso (Kd.pair Kd.int (Kd.pair Kd.int (Kd.pair Kd.str (Kd.slice 28 kVote)))) (fun x : Cert => (x.view, (x.height, (x.block, x.votes))))
theorem kCert_open {B : Nat} {w : World} {x : Cert} {cs : List Value} (h : kCert.K B w x cs) : ∃ (A3 : Option Addr) (c3 : Nat), cs = [.int .i64 x.view, .int .i64 x.height, .string x.block, .slice A3 x.votes.length c3] ∧ IntOk x.view ∧ IntOk x.height ∧ x.block.size ≤ 140737488351232 ∧ x.votes.length ≤ c3 ∧ c3 ≤ maxLen ∧ Kd.Row kVote 28 B w A3 x.votes := by
  obtain ⟨_, _, rfl, ⟨rfl, h0⟩, ⟨_, _, rfl, ⟨rfl, h1⟩, ⟨_, _, rfl, ⟨rfl, h2⟩, ⟨A3, c3, rfl, hl3, hm3, hr3⟩⟩⟩⟩ := h
  exact ⟨A3, c3, rfl, h0, h1, h2, hl3, hm3, hr3⟩
theorem kCert_mk {B : Nat} {w : World} (x : Cert) (h0 : IntOk x.view) (h1 : IntOk x.height) (h2 : x.block.size ≤ 140737488351232) {A3 : Option Addr} {c3 : Nat} (hl3 : x.votes.length ≤ c3) (hm3 : c3 ≤ maxLen) (hr3 : Kd.Row kVote 28 B w A3 x.votes) : kCert.K B w x [.int .i64 x.view, .int .i64 x.height, .string x.block, .slice A3 x.votes.length c3] :=
  ⟨_, _, rfl, ⟨rfl, h0⟩, ⟨_, _, rfl, ⟨rfl, h1⟩, ⟨_, _, rfl, ⟨rfl, h2⟩, ⟨A3, c3, rfl, hl3, hm3, hr3⟩⟩⟩⟩
theorem kCert_at {B e : Nat} {w : World} {A : Option Addr} {xs : List Cert} (h : Kd.Row kCert e B w A xs) {i : Nat} {x : Cert} (hx : xs[i]? = some x) : ∃ ad, A = some ad ∧ ∃ (A3 : Option Addr) (c3 : Nat), w.cell? (ad.add (i * 4)) = some (.int .i64 x.view) ∧ w.cell? ⟨(ad.add (i * 4)).block, (ad.add (i * 4)).off + 1, none⟩ = some (.int .i64 x.height) ∧ w.cell? ⟨(ad.add (i * 4)).block, (ad.add (i * 4)).off + 2, none⟩ = some (.string x.block) ∧ w.cell? ⟨(ad.add (i * 4)).block, (ad.add (i * 4)).off + 3, none⟩ = some (.slice A3 x.votes.length c3) ∧ IntOk x.view ∧ IntOk x.height ∧ x.block.size ≤ 140737488351232 ∧ x.votes.length ≤ c3 ∧ c3 ≤ maxLen ∧ Kd.Row kVote 28 B w A3 x.votes := by
  obtain ⟨ad, cs, rfl, _, hK, hc⟩ := Kd.row_at h hx
  obtain ⟨A3, c3, rfl, hcond⟩ := kCert_open hK
  exact ⟨ad, rfl, A3, c3, hc 0 _ rfl, cell_fld (hc 1 _ rfl), cell_fld (hc 2 _ rfl), cell_fld (hc 3 _ rfl), hcond⟩
theorem opensCert : Opens Try.prog kCert 35 := by
  exact opens_struct (g' := fun p => ⟨p.1, p.2.1, p.2.2.1, p.2.2.2⟩) (fun _ => rfl) Try.underlying35 (by kernel_rfl) (opensF_cons rfl (by kernel_rfl) (opens_int Try.underlying3) (opensF_cons rfl (by kernel_rfl) (opens_int Try.underlying3) (opensF_cons rfl (by kernel_rfl) (opens_str Try.underlying9) (opensF_one rfl (by kernel_rfl) (opens_slice Try.underlying22 (by kernel_rfl) (by decide) opensVote)))))
structure Rule where
  kind : Int
  n : Int
  deriving DecidableEq, Inhabited
def kRule : Kd Rule := Kd.iso (Kd.pair Kd.int Kd.int) (fun x : Rule => (x.kind, x.n))
theorem kRule_open {B : Nat} {w : World} {x : Rule} {cs : List Value} (h : kRule.K B w x cs) : cs = [.int .i64 x.kind, .int .i64 x.n] ∧ IntOk x.kind ∧ IntOk x.n := by
  obtain ⟨_, _, rfl, ⟨rfl, h0⟩, ⟨rfl, h1⟩⟩ := h
  exact ⟨rfl, h0, h1⟩
theorem kRule_mk {B : Nat} {w : World} (x : Rule) (h0 : IntOk x.kind) (h1 : IntOk x.n) : kRule.K B w x [.int .i64 x.kind, .int .i64 x.n] :=
  ⟨_, _, rfl, ⟨rfl, h0⟩, ⟨rfl, h1⟩⟩
theorem kRule_at {B e : Nat} {w : World} {A : Option Addr} {xs : List Rule} (h : Kd.Row kRule e B w A xs) {i : Nat} {x : Rule} (hx : xs[i]? = some x) : ∃ ad, A = some ad ∧ w.cell? (ad.add (i * 2)) = some (.int .i64 x.kind) ∧ w.cell? ⟨(ad.add (i * 2)).block, (ad.add (i * 2)).off + 1, none⟩ = some (.int .i64 x.n) ∧ IntOk x.kind ∧ IntOk x.n := by
  obtain ⟨ad, cs, rfl, _, hK, hc⟩ := Kd.row_at h hx
  obtain ⟨rfl, hcond⟩ := kRule_open hK
  exact ⟨ad, rfl, hc 0 _ rfl, cell_fld (hc 1 _ rfl), hcond⟩
theorem eqlRule (x y : Rule) (w : World) : (binOp .eql 82 (.agg #[.int .i64 x.kind, .int .i64 x.n]) (.agg #[.int .i64 y.kind, .int .i64 y.n])).run Try.prog w = .ok (.bool (decide (x = y))) w := by
  have e : ((x.kind == y.kind) && ((x.n == y.n) && true)) = decide (x = y) := by
    cases x; cases y
    simp only [Rule.mk.injEq, Bool.and_true, Bool.decide_and]
    try simp only [← Int.beq_eq_decide_eq, ← Bool.beq_eq_decide_eq]
    try rfl
  rw [← e]
  exact eql_of Try.underlying82 (by kernel_rfl) (eqf_cons (by rfl) (by go_simp; rfl) (by go_simp; rfl) (by go_simp) (eqf_cons (by rfl) (by go_simp; rfl) (by go_simp; rfl) (by go_simp) eqf_nil))
theorem neqRule (x y : Rule) (w : World) : (binOp .neq 82 (.agg #[.int .i64 x.kind, .int .i64 x.n]) (.agg #[.int .i64 y.kind, .int .i64 y.n])).run Try.prog w = .ok (.bool (!decide (x = y))) w := by
  have e : ((x.kind == y.kind) && ((x.n == y.n) && true)) = decide (x = y) := by
    cases x; cases y
    simp only [Rule.mk.injEq, Bool.and_true, Bool.decide_and]
    try simp only [← Int.beq_eq_decide_eq, ← Bool.beq_eq_decide_eq]
    try rfl
  rw [← e]
  exact neq_of Try.underlying82 (by kernel_rfl) (eqf_cons (by rfl) (by go_simp; rfl) (by go_simp; rfl) (by go_simp) (eqf_cons (by rfl) (by go_simp; rfl) (by go_simp; rfl) (by go_simp) eqf_nil))
theorem opensRule : Opens Try.prog kRule 82 := by
  exact opens_struct (g' := fun p => ⟨p.1, p.2⟩) (fun _ => rfl) Try.underlying82 (by kernel_rfl) (opensF_cons rfl (by kernel_rfl) (opens_int Try.underlying3) (opensF_one rfl (by kernel_rfl) (opens_int Try.underlying3)))
structure Use where
  signer : Int
  leaf : Int
  text : ByteArray
  deriving DecidableEq, Inhabited
def kUse : Kd Use := Kd.iso (Kd.pair Kd.int (Kd.pair Kd.int Kd.str)) (fun x : Use => (x.signer, (x.leaf, x.text)))
theorem kUse_open {B : Nat} {w : World} {x : Use} {cs : List Value} (h : kUse.K B w x cs) : cs = [.int .i64 x.signer, .int .i64 x.leaf, .string x.text] ∧ IntOk x.signer ∧ IntOk x.leaf ∧ x.text.size ≤ 140737488351232 := by
  obtain ⟨_, _, rfl, ⟨rfl, h0⟩, ⟨_, _, rfl, ⟨rfl, h1⟩, ⟨rfl, h2⟩⟩⟩ := h
  exact ⟨rfl, h0, h1, h2⟩
theorem kUse_mk {B : Nat} {w : World} (x : Use) (h0 : IntOk x.signer) (h1 : IntOk x.leaf) (h2 : x.text.size ≤ 140737488351232) : kUse.K B w x [.int .i64 x.signer, .int .i64 x.leaf, .string x.text] :=
  ⟨_, _, rfl, ⟨rfl, h0⟩, ⟨_, _, rfl, ⟨rfl, h1⟩, ⟨rfl, h2⟩⟩⟩
theorem kUse_at {B e : Nat} {w : World} {A : Option Addr} {xs : List Use} (h : Kd.Row kUse e B w A xs) {i : Nat} {x : Use} (hx : xs[i]? = some x) : ∃ ad, A = some ad ∧ w.cell? (ad.add (i * 3)) = some (.int .i64 x.signer) ∧ w.cell? ⟨(ad.add (i * 3)).block, (ad.add (i * 3)).off + 1, none⟩ = some (.int .i64 x.leaf) ∧ w.cell? ⟨(ad.add (i * 3)).block, (ad.add (i * 3)).off + 2, none⟩ = some (.string x.text) ∧ IntOk x.signer ∧ IntOk x.leaf ∧ x.text.size ≤ 140737488351232 := by
  obtain ⟨ad, cs, rfl, _, hK, hc⟩ := Kd.row_at h hx
  obtain ⟨rfl, hcond⟩ := kUse_open hK
  exact ⟨ad, rfl, hc 0 _ rfl, cell_fld (hc 1 _ rfl), cell_fld (hc 2 _ rfl), hcond⟩
theorem eqlUse (x y : Use) (w : World) : (binOp .eql 71 (.agg #[.int .i64 x.signer, .int .i64 x.leaf, .string x.text]) (.agg #[.int .i64 y.signer, .int .i64 y.leaf, .string y.text])).run Try.prog w = .ok (.bool (decide (x = y))) w := by
  have e : ((x.signer == y.signer) && ((x.leaf == y.leaf) && ((x.text.toList == y.text.toList) && true))) = decide (x = y) := by
    cases x; cases y
    simp only [bytes_beq, Use.mk.injEq, Bool.and_true, Bool.decide_and]
    try simp only [← Int.beq_eq_decide_eq, ← Bool.beq_eq_decide_eq]
    try rfl
  rw [← e]
  exact eql_of Try.underlying71 (by kernel_rfl) (eqf_cons (by rfl) (by go_simp; rfl) (by go_simp; rfl) (by go_simp) (eqf_cons (by rfl) (by go_simp; rfl) (by go_simp; rfl) (by go_simp) (eqf_cons (by rfl) (by go_simp; rfl) (by go_simp; rfl) (by go_simp) eqf_nil)))
theorem neqUse (x y : Use) (w : World) : (binOp .neq 71 (.agg #[.int .i64 x.signer, .int .i64 x.leaf, .string x.text]) (.agg #[.int .i64 y.signer, .int .i64 y.leaf, .string y.text])).run Try.prog w = .ok (.bool (!decide (x = y))) w := by
  have e : ((x.signer == y.signer) && ((x.leaf == y.leaf) && ((x.text.toList == y.text.toList) && true))) = decide (x = y) := by
    cases x; cases y
    simp only [bytes_beq, Use.mk.injEq, Bool.and_true, Bool.decide_and]
    try simp only [← Int.beq_eq_decide_eq, ← Bool.beq_eq_decide_eq]
    try rfl
  rw [← e]
  exact neq_of Try.underlying71 (by kernel_rfl) (eqf_cons (by rfl) (by go_simp; rfl) (by go_simp; rfl) (by go_simp) (eqf_cons (by rfl) (by go_simp; rfl) (by go_simp; rfl) (by go_simp) (eqf_cons (by rfl) (by go_simp; rfl) (by go_simp; rfl) (by go_simp) eqf_nil)))
theorem opensUse : Opens Try.prog kUse 71 := by
  exact opens_struct (g' := fun p => ⟨p.1, p.2.1, p.2.2⟩) (fun _ => rfl) Try.underlying71 (by kernel_rfl) (opensF_cons rfl (by kernel_rfl) (opens_int Try.underlying3) (opensF_cons rfl (by kernel_rfl) (opens_int Try.underlying3) (opensF_one rfl (by kernel_rfl) (opens_str Try.underlying9))))
structure Config where
  roots : List ByteArray
  clients : List ByteArray
  quorum : Int
  base : Int
  cap : Int
  deriving DecidableEq, Inhabited
def kConfig : Kd Config := Kd.iso (Kd.pair (Kd.slice 9 Kd.str) (Kd.pair (Kd.slice 9 Kd.str) (Kd.pair Kd.int (Kd.pair Kd.int Kd.int)))) (fun x : Config => (x.roots, (x.clients, (x.quorum, (x.base, x.cap)))))
theorem kConfig_open {B : Nat} {w : World} {x : Config} {cs : List Value} (h : kConfig.K B w x cs) : ∃ (A0 : Option Addr) (c0 : Nat), ∃ (A1 : Option Addr) (c1 : Nat), cs = [.slice A0 x.roots.length c0, .slice A1 x.clients.length c1, .int .i64 x.quorum, .int .i64 x.base, .int .i64 x.cap] ∧ x.roots.length ≤ c0 ∧ c0 ≤ maxLen ∧ Kd.Row Kd.str 9 B w A0 x.roots ∧ x.clients.length ≤ c1 ∧ c1 ≤ maxLen ∧ Kd.Row Kd.str 9 B w A1 x.clients ∧ IntOk x.quorum ∧ IntOk x.base ∧ IntOk x.cap := by
  obtain ⟨_, _, rfl, ⟨A0, c0, rfl, hl0, hm0, hr0⟩, ⟨_, _, rfl, ⟨A1, c1, rfl, hl1, hm1, hr1⟩, ⟨_, _, rfl, ⟨rfl, h2⟩, ⟨_, _, rfl, ⟨rfl, h3⟩, ⟨rfl, h4⟩⟩⟩⟩⟩ := h
  exact ⟨A0, c0, A1, c1, rfl, hl0, hm0, hr0, hl1, hm1, hr1, h2, h3, h4⟩
theorem kConfig_mk {B : Nat} {w : World} (x : Config) {A0 : Option Addr} {c0 : Nat} (hl0 : x.roots.length ≤ c0) (hm0 : c0 ≤ maxLen) (hr0 : Kd.Row Kd.str 9 B w A0 x.roots) {A1 : Option Addr} {c1 : Nat} (hl1 : x.clients.length ≤ c1) (hm1 : c1 ≤ maxLen) (hr1 : Kd.Row Kd.str 9 B w A1 x.clients) (h2 : IntOk x.quorum) (h3 : IntOk x.base) (h4 : IntOk x.cap) : kConfig.K B w x [.slice A0 x.roots.length c0, .slice A1 x.clients.length c1, .int .i64 x.quorum, .int .i64 x.base, .int .i64 x.cap] :=
  ⟨_, _, rfl, ⟨A0, c0, rfl, hl0, hm0, hr0⟩, ⟨_, _, rfl, ⟨A1, c1, rfl, hl1, hm1, hr1⟩, ⟨_, _, rfl, ⟨rfl, h2⟩, ⟨_, _, rfl, ⟨rfl, h3⟩, ⟨rfl, h4⟩⟩⟩⟩⟩
theorem kConfig_at {B e : Nat} {w : World} {A : Option Addr} {xs : List Config} (h : Kd.Row kConfig e B w A xs) {i : Nat} {x : Config} (hx : xs[i]? = some x) : ∃ ad, A = some ad ∧ ∃ (A0 : Option Addr) (c0 : Nat), ∃ (A1 : Option Addr) (c1 : Nat), w.cell? (ad.add (i * 5)) = some (.slice A0 x.roots.length c0) ∧ w.cell? ⟨(ad.add (i * 5)).block, (ad.add (i * 5)).off + 1, none⟩ = some (.slice A1 x.clients.length c1) ∧ w.cell? ⟨(ad.add (i * 5)).block, (ad.add (i * 5)).off + 2, none⟩ = some (.int .i64 x.quorum) ∧ w.cell? ⟨(ad.add (i * 5)).block, (ad.add (i * 5)).off + 3, none⟩ = some (.int .i64 x.base) ∧ w.cell? ⟨(ad.add (i * 5)).block, (ad.add (i * 5)).off + 4, none⟩ = some (.int .i64 x.cap) ∧ x.roots.length ≤ c0 ∧ c0 ≤ maxLen ∧ Kd.Row Kd.str 9 B w A0 x.roots ∧ x.clients.length ≤ c1 ∧ c1 ≤ maxLen ∧ Kd.Row Kd.str 9 B w A1 x.clients ∧ IntOk x.quorum ∧ IntOk x.base ∧ IntOk x.cap := by
  obtain ⟨ad, cs, rfl, _, hK, hc⟩ := Kd.row_at h hx
  obtain ⟨A0, c0, A1, c1, rfl, hcond⟩ := kConfig_open hK
  exact ⟨ad, rfl, A0, c0, A1, c1, hc 0 _ rfl, cell_fld (hc 1 _ rfl), cell_fld (hc 2 _ rfl), cell_fld (hc 3 _ rfl), cell_fld (hc 4 _ rfl), hcond⟩
theorem opensConfig : Opens Try.prog kConfig 57 := by
  exact opens_struct (g' := fun p => ⟨p.1, p.2.1, p.2.2.1, p.2.2.2.1, p.2.2.2.2⟩) (fun _ => rfl) Try.underlying57 (by kernel_rfl) (opensF_cons rfl (by kernel_rfl) (opens_slice Try.underlying36 (by kernel_rfl) (by decide) (opens_str Try.underlying9)) (opensF_cons rfl (by kernel_rfl) (opens_slice Try.underlying36 (by kernel_rfl) (by decide) (opens_str Try.underlying9)) (opensF_cons rfl (by kernel_rfl) (opens_int Try.underlying3) (opensF_cons rfl (by kernel_rfl) (opens_int Try.underlying3) (opensF_one rfl (by kernel_rfl) (opens_int Try.underlying3))))))
structure Light where
  head : Cert
  taken : Int
  deriving DecidableEq, Inhabited
def kLight : Kd Light := Kd.iso (Kd.pair kCert Kd.int) (fun x : Light => (x.head, x.taken))
theorem kLight_open {B : Nat} {w : World} {x : Light} {cs : List Value} (h : kLight.K B w x cs) : ∃ (A3 : Option Addr) (c3 : Nat), cs = [.int .i64 x.head.view, .int .i64 x.head.height, .string x.head.block, .slice A3 x.head.votes.length c3, .int .i64 x.taken] ∧ IntOk x.head.view ∧ IntOk x.head.height ∧ x.head.block.size ≤ 140737488351232 ∧ x.head.votes.length ≤ c3 ∧ c3 ≤ maxLen ∧ Kd.Row kVote 28 B w A3 x.head.votes ∧ IntOk x.taken := by
  obtain ⟨_, _, rfl, ⟨_, _, rfl, ⟨rfl, h0⟩, ⟨_, _, rfl, ⟨rfl, h1⟩, ⟨_, _, rfl, ⟨rfl, h2⟩, ⟨A3, c3, rfl, hl3, hm3, hr3⟩⟩⟩⟩, ⟨rfl, h4⟩⟩ := h
  exact ⟨A3, c3, rfl, h0, h1, h2, hl3, hm3, hr3, h4⟩
theorem kLight_mk {B : Nat} {w : World} (x : Light) (h0 : IntOk x.head.view) (h1 : IntOk x.head.height) (h2 : x.head.block.size ≤ 140737488351232) {A3 : Option Addr} {c3 : Nat} (hl3 : x.head.votes.length ≤ c3) (hm3 : c3 ≤ maxLen) (hr3 : Kd.Row kVote 28 B w A3 x.head.votes) (h4 : IntOk x.taken) : kLight.K B w x [.int .i64 x.head.view, .int .i64 x.head.height, .string x.head.block, .slice A3 x.head.votes.length c3, .int .i64 x.taken] :=
  ⟨_, _, rfl, ⟨_, _, rfl, ⟨rfl, h0⟩, ⟨_, _, rfl, ⟨rfl, h1⟩, ⟨_, _, rfl, ⟨rfl, h2⟩, ⟨A3, c3, rfl, hl3, hm3, hr3⟩⟩⟩⟩, ⟨rfl, h4⟩⟩
theorem kLight_at {B e : Nat} {w : World} {A : Option Addr} {xs : List Light} (h : Kd.Row kLight e B w A xs) {i : Nat} {x : Light} (hx : xs[i]? = some x) : ∃ ad, A = some ad ∧ ∃ (A3 : Option Addr) (c3 : Nat), w.cell? (ad.add (i * 5)) = some (.int .i64 x.head.view) ∧ w.cell? ⟨(ad.add (i * 5)).block, (ad.add (i * 5)).off + 1, none⟩ = some (.int .i64 x.head.height) ∧ w.cell? ⟨(ad.add (i * 5)).block, (ad.add (i * 5)).off + 2, none⟩ = some (.string x.head.block) ∧ w.cell? ⟨(ad.add (i * 5)).block, (ad.add (i * 5)).off + 3, none⟩ = some (.slice A3 x.head.votes.length c3) ∧ w.cell? ⟨(ad.add (i * 5)).block, (ad.add (i * 5)).off + 4, none⟩ = some (.int .i64 x.taken) ∧ IntOk x.head.view ∧ IntOk x.head.height ∧ x.head.block.size ≤ 140737488351232 ∧ x.head.votes.length ≤ c3 ∧ c3 ≤ maxLen ∧ Kd.Row kVote 28 B w A3 x.head.votes ∧ IntOk x.taken := by
  obtain ⟨ad, cs, rfl, _, hK, hc⟩ := Kd.row_at h hx
  obtain ⟨A3, c3, rfl, hcond⟩ := kLight_open hK
  exact ⟨ad, rfl, A3, c3, hc 0 _ rfl, cell_fld (hc 1 _ rfl), cell_fld (hc 2 _ rfl), cell_fld (hc 3 _ rfl), cell_fld (hc 4 _ rfl), hcond⟩
theorem opensLight : Opens Try.prog kLight 55 := by
  exact opens_struct (g' := fun p => ⟨p.1, p.2⟩) (fun _ => rfl) Try.underlying55 (by kernel_rfl) (opensF_cons rfl (by kernel_rfl) opensCert (opensF_one rfl (by kernel_rfl) (opens_int Try.underlying3)))
end Go.Proofs.Ytglneailkgminaa

