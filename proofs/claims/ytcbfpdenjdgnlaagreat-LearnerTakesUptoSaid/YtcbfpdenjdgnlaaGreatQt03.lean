/- The program's structs as Lean's, how they lie in cells, and how they come in. No claim of its own; no condition. Printed by a program of this session. -/
import Derived.Test.YtcbfpdenjdgnlaaGreatQt02
namespace Go.Proofs.YtcbfpdenjdgnlaaGreat
open Go.ChangeShapes Go.WideShapes Go.ChangeAt Go.RowKit
set_option linter.unusedVariables false
structure Mark where
  view : Int
  height : Int
  block : ByteArray
  deriving DecidableEq, Inhabited
def kMark : Kd Mark := Kd.iso (Kd.pair Kd.int (Kd.pair Kd.int Kd.str)) (fun x : Mark => (x.view, (x.height, x.block)))
theorem kMark_open {B : Nat} {w : World} {x : Mark} {cs : List Value} (h : kMark.K B w x cs) : cs = [.int .i64 x.view, .int .i64 x.height, .string x.block] ∧ IntOk x.view ∧ IntOk x.height ∧ x.block.size ≤ 140737488351232 := by
  obtain ⟨_, _, rfl, ⟨rfl, h0⟩, ⟨_, _, rfl, ⟨rfl, h1⟩, ⟨rfl, h2⟩⟩⟩ := h
  exact ⟨rfl, h0, h1, h2⟩
theorem kMark_mk {B : Nat} {w : World} (x : Mark) (h0 : IntOk x.view) (h1 : IntOk x.height) (h2 : x.block.size ≤ 140737488351232) : kMark.K B w x [.int .i64 x.view, .int .i64 x.height, .string x.block] :=
  ⟨_, _, rfl, ⟨rfl, h0⟩, ⟨_, _, rfl, ⟨rfl, h1⟩, ⟨rfl, h2⟩⟩⟩
theorem kMark_at {B e : Nat} {w : World} {A : Option Addr} {xs : List Mark} (h : Kd.Row kMark e B w A xs) {i : Nat} {x : Mark} (hx : xs[i]? = some x) : ∃ ad, A = some ad ∧ w.cell? (ad.add (i * 3)) = some (.int .i64 x.view) ∧ w.cell? ⟨(ad.add (i * 3)).block, (ad.add (i * 3)).off + 1, none⟩ = some (.int .i64 x.height) ∧ w.cell? ⟨(ad.add (i * 3)).block, (ad.add (i * 3)).off + 2, none⟩ = some (.string x.block) ∧ IntOk x.view ∧ IntOk x.height ∧ x.block.size ≤ 140737488351232 := by
  obtain ⟨ad, cs, rfl, _, hK, hc⟩ := Kd.row_at h hx
  obtain ⟨rfl, hcond⟩ := kMark_open hK
  exact ⟨ad, rfl, hc 0 _ rfl, cell_fld (hc 1 _ rfl), cell_fld (hc 2 _ rfl), hcond⟩
theorem eqlMark (x y : Mark) (w : World) : (binOp .eql 34 (.agg #[.int .i64 x.view, .int .i64 x.height, .string x.block]) (.agg #[.int .i64 y.view, .int .i64 y.height, .string y.block])).run Tryz.prog w = .ok (.bool (decide (x = y))) w := by
  have e : ((x.view == y.view) && ((x.height == y.height) && ((x.block.toList == y.block.toList) && true))) = decide (x = y) := by
    cases x; cases y
    simp only [bytes_beq, Mark.mk.injEq, Bool.and_true, Bool.decide_and]
    try simp only [← Int.beq_eq_decide_eq, ← Bool.beq_eq_decide_eq]
    try rfl
  rw [← e]
  exact eql_of Tryz.underlying34 (by kernel_rfl) (eqf_cons (by rfl) (by go_simp; rfl) (by go_simp; rfl) (by go_simp) (eqf_cons (by rfl) (by go_simp; rfl) (by go_simp; rfl) (by go_simp) (eqf_cons (by rfl) (by go_simp; rfl) (by go_simp; rfl) (by go_simp) eqf_nil)))
theorem neqMark (x y : Mark) (w : World) : (binOp .neq 34 (.agg #[.int .i64 x.view, .int .i64 x.height, .string x.block]) (.agg #[.int .i64 y.view, .int .i64 y.height, .string y.block])).run Tryz.prog w = .ok (.bool (!decide (x = y))) w := by
  have e : ((x.view == y.view) && ((x.height == y.height) && ((x.block.toList == y.block.toList) && true))) = decide (x = y) := by
    cases x; cases y
    simp only [bytes_beq, Mark.mk.injEq, Bool.and_true, Bool.decide_and]
    try simp only [← Int.beq_eq_decide_eq, ← Bool.beq_eq_decide_eq]
    try rfl
  rw [← e]
  exact neq_of Tryz.underlying34 (by kernel_rfl) (eqf_cons (by rfl) (by go_simp; rfl) (by go_simp; rfl) (by go_simp) (eqf_cons (by rfl) (by go_simp; rfl) (by go_simp; rfl) (by go_simp) (eqf_cons (by rfl) (by go_simp; rfl) (by go_simp; rfl) (by go_simp) eqf_nil)))
theorem opensMark : Opens Tryz.prog kMark 34 := by
  exact opens_struct (g' := fun p => ⟨p.1, p.2.1, p.2.2⟩) (fun _ => rfl) Tryz.underlying34 (by kernel_rfl) (opensF_cons rfl (by kernel_rfl) (opens_int Tryz.underlying3) (opensF_cons rfl (by kernel_rfl) (opens_int Tryz.underlying3) (opensF_one rfl (by kernel_rfl) (opens_str Tryz.underlying9))))
structure Vote where
  kind : Int
  view : Int
  height : Int
  block : ByteArray
  ticks : Int
  signer : Int
  sig : ByteArray
  deriving DecidableEq, Inhabited
def kVote : Kd Vote := Kd.iso (Kd.pair Kd.int (Kd.pair Kd.int (Kd.pair Kd.int (Kd.pair Kd.str (Kd.pair Kd.int (Kd.pair Kd.int Kd.str)))))) (fun x : Vote => (x.kind, (x.view, (x.height, (x.block, (x.ticks, (x.signer, x.sig)))))))
theorem kVote_open {B : Nat} {w : World} {x : Vote} {cs : List Value} (h : kVote.K B w x cs) : cs = [.int .i64 x.kind, .int .i64 x.view, .int .i64 x.height, .string x.block, .int .i64 x.ticks, .int .i64 x.signer, .string x.sig] ∧ IntOk x.kind ∧ IntOk x.view ∧ IntOk x.height ∧ x.block.size ≤ 140737488351232 ∧ IntOk x.ticks ∧ IntOk x.signer ∧ x.sig.size ≤ 140737488351232 := by
  obtain ⟨_, _, rfl, ⟨rfl, h0⟩, ⟨_, _, rfl, ⟨rfl, h1⟩, ⟨_, _, rfl, ⟨rfl, h2⟩, ⟨_, _, rfl, ⟨rfl, h3⟩, ⟨_, _, rfl, ⟨rfl, h4⟩, ⟨_, _, rfl, ⟨rfl, h5⟩, ⟨rfl, h6⟩⟩⟩⟩⟩⟩⟩ := h
  exact ⟨rfl, h0, h1, h2, h3, h4, h5, h6⟩
theorem kVote_mk {B : Nat} {w : World} (x : Vote) (h0 : IntOk x.kind) (h1 : IntOk x.view) (h2 : IntOk x.height) (h3 : x.block.size ≤ 140737488351232) (h4 : IntOk x.ticks) (h5 : IntOk x.signer) (h6 : x.sig.size ≤ 140737488351232) : kVote.K B w x [.int .i64 x.kind, .int .i64 x.view, .int .i64 x.height, .string x.block, .int .i64 x.ticks, .int .i64 x.signer, .string x.sig] :=
  ⟨_, _, rfl, ⟨rfl, h0⟩, ⟨_, _, rfl, ⟨rfl, h1⟩, ⟨_, _, rfl, ⟨rfl, h2⟩, ⟨_, _, rfl, ⟨rfl, h3⟩, ⟨_, _, rfl, ⟨rfl, h4⟩, ⟨_, _, rfl, ⟨rfl, h5⟩, ⟨rfl, h6⟩⟩⟩⟩⟩⟩⟩
theorem kVote_at {B e : Nat} {w : World} {A : Option Addr} {xs : List Vote} (h : Kd.Row kVote e B w A xs) {i : Nat} {x : Vote} (hx : xs[i]? = some x) : ∃ ad, A = some ad ∧ w.cell? (ad.add (i * 7)) = some (.int .i64 x.kind) ∧ w.cell? ⟨(ad.add (i * 7)).block, (ad.add (i * 7)).off + 1, none⟩ = some (.int .i64 x.view) ∧ w.cell? ⟨(ad.add (i * 7)).block, (ad.add (i * 7)).off + 2, none⟩ = some (.int .i64 x.height) ∧ w.cell? ⟨(ad.add (i * 7)).block, (ad.add (i * 7)).off + 3, none⟩ = some (.string x.block) ∧ w.cell? ⟨(ad.add (i * 7)).block, (ad.add (i * 7)).off + 4, none⟩ = some (.int .i64 x.ticks) ∧ w.cell? ⟨(ad.add (i * 7)).block, (ad.add (i * 7)).off + 5, none⟩ = some (.int .i64 x.signer) ∧ w.cell? ⟨(ad.add (i * 7)).block, (ad.add (i * 7)).off + 6, none⟩ = some (.string x.sig) ∧ IntOk x.kind ∧ IntOk x.view ∧ IntOk x.height ∧ x.block.size ≤ 140737488351232 ∧ IntOk x.ticks ∧ IntOk x.signer ∧ x.sig.size ≤ 140737488351232 := by
  obtain ⟨ad, cs, rfl, _, hK, hc⟩ := Kd.row_at h hx
  obtain ⟨rfl, hcond⟩ := kVote_open hK
  exact ⟨ad, rfl, hc 0 _ rfl, cell_fld (hc 1 _ rfl), cell_fld (hc 2 _ rfl), cell_fld (hc 3 _ rfl), cell_fld (hc 4 _ rfl), cell_fld (hc 5 _ rfl), cell_fld (hc 6 _ rfl), hcond⟩
theorem eqlVote (x y : Vote) (w : World) : (binOp .eql 52 (.agg #[.int .i64 x.kind, .int .i64 x.view, .int .i64 x.height, .string x.block, .int .i64 x.ticks, .int .i64 x.signer, .string x.sig]) (.agg #[.int .i64 y.kind, .int .i64 y.view, .int .i64 y.height, .string y.block, .int .i64 y.ticks, .int .i64 y.signer, .string y.sig])).run Tryz.prog w = .ok (.bool (decide (x = y))) w := by
  have e : ((x.kind == y.kind) && ((x.view == y.view) && ((x.height == y.height) && ((x.block.toList == y.block.toList) && ((x.ticks == y.ticks) && ((x.signer == y.signer) && ((x.sig.toList == y.sig.toList) && true))))))) = decide (x = y) := by
    cases x; cases y
    simp only [bytes_beq, Vote.mk.injEq, Bool.and_true, Bool.decide_and]
    try simp only [← Int.beq_eq_decide_eq, ← Bool.beq_eq_decide_eq]
    try rfl
  rw [← e]
  exact eql_of Tryz.underlying52 (by kernel_rfl) (eqf_cons (by rfl) (by go_simp; rfl) (by go_simp; rfl) (by go_simp) (eqf_cons (by rfl) (by go_simp; rfl) (by go_simp; rfl) (by go_simp) (eqf_cons (by rfl) (by go_simp; rfl) (by go_simp; rfl) (by go_simp) (eqf_cons (by rfl) (by go_simp; rfl) (by go_simp; rfl) (by go_simp) (eqf_cons (by rfl) (by go_simp; rfl) (by go_simp; rfl) (by go_simp) (eqf_cons (by rfl) (by go_simp; rfl) (by go_simp; rfl) (by go_simp) (eqf_cons (by rfl) (by go_simp; rfl) (by go_simp; rfl) (by go_simp) eqf_nil)))))))
theorem neqVote (x y : Vote) (w : World) : (binOp .neq 52 (.agg #[.int .i64 x.kind, .int .i64 x.view, .int .i64 x.height, .string x.block, .int .i64 x.ticks, .int .i64 x.signer, .string x.sig]) (.agg #[.int .i64 y.kind, .int .i64 y.view, .int .i64 y.height, .string y.block, .int .i64 y.ticks, .int .i64 y.signer, .string y.sig])).run Tryz.prog w = .ok (.bool (!decide (x = y))) w := by
  have e : ((x.kind == y.kind) && ((x.view == y.view) && ((x.height == y.height) && ((x.block.toList == y.block.toList) && ((x.ticks == y.ticks) && ((x.signer == y.signer) && ((x.sig.toList == y.sig.toList) && true))))))) = decide (x = y) := by
    cases x; cases y
    simp only [bytes_beq, Vote.mk.injEq, Bool.and_true, Bool.decide_and]
    try simp only [← Int.beq_eq_decide_eq, ← Bool.beq_eq_decide_eq]
    try rfl
  rw [← e]
  exact neq_of Tryz.underlying52 (by kernel_rfl) (eqf_cons (by rfl) (by go_simp; rfl) (by go_simp; rfl) (by go_simp) (eqf_cons (by rfl) (by go_simp; rfl) (by go_simp; rfl) (by go_simp) (eqf_cons (by rfl) (by go_simp; rfl) (by go_simp; rfl) (by go_simp) (eqf_cons (by rfl) (by go_simp; rfl) (by go_simp; rfl) (by go_simp) (eqf_cons (by rfl) (by go_simp; rfl) (by go_simp; rfl) (by go_simp) (eqf_cons (by rfl) (by go_simp; rfl) (by go_simp; rfl) (by go_simp) (eqf_cons (by rfl) (by go_simp; rfl) (by go_simp; rfl) (by go_simp) eqf_nil)))))))
theorem opensVote : Opens Tryz.prog kVote 52 := by
  exact opens_struct (g' := fun p => ⟨p.1, p.2.1, p.2.2.1, p.2.2.2.1, p.2.2.2.2.1, p.2.2.2.2.2.1, p.2.2.2.2.2.2⟩) (fun _ => rfl) Tryz.underlying52 (by kernel_rfl) (opensF_cons rfl (by kernel_rfl) (opens_int Tryz.underlying3) (opensF_cons rfl (by kernel_rfl) (opens_int Tryz.underlying3) (opensF_cons rfl (by kernel_rfl) (opens_int Tryz.underlying3) (opensF_cons rfl (by kernel_rfl) (opens_str Tryz.underlying9) (opensF_cons rfl (by kernel_rfl) (opens_int Tryz.underlying3) (opensF_cons rfl (by kernel_rfl) (opens_int Tryz.underlying3) (opensF_one rfl (by kernel_rfl) (opens_str Tryz.underlying9))))))))
structure Cert where
  view : Int
  height : Int
  block : ByteArray
  votes : List Vote
  deriving DecidableEq, Inhabited
def kCert : Kd Cert := Kd.iso (Kd.pair Kd.int (Kd.pair Kd.int (Kd.pair Kd.str (Kd.slice 52 kVote)))) (fun x : Cert => (x.view, (x.height, (x.block, x.votes))))
theorem kCert_open {B : Nat} {w : World} {x : Cert} {cs : List Value} (h : kCert.K B w x cs) : ∃ (A3 : Option Addr) (c3 : Nat), cs = [.int .i64 x.view, .int .i64 x.height, .string x.block, .slice A3 x.votes.length c3] ∧ IntOk x.view ∧ IntOk x.height ∧ x.block.size ≤ 140737488351232 ∧ x.votes.length ≤ c3 ∧ c3 ≤ maxLen ∧ Kd.Row kVote 52 B w A3 x.votes := by
  obtain ⟨_, _, rfl, ⟨rfl, h0⟩, ⟨_, _, rfl, ⟨rfl, h1⟩, ⟨_, _, rfl, ⟨rfl, h2⟩, ⟨A3, c3, rfl, hl3, hm3, hr3⟩⟩⟩⟩ := h
  exact ⟨A3, c3, rfl, h0, h1, h2, hl3, hm3, hr3⟩
theorem kCert_mk {B : Nat} {w : World} (x : Cert) (h0 : IntOk x.view) (h1 : IntOk x.height) (h2 : x.block.size ≤ 140737488351232) {A3 : Option Addr} {c3 : Nat} (hl3 : x.votes.length ≤ c3) (hm3 : c3 ≤ maxLen) (hr3 : Kd.Row kVote 52 B w A3 x.votes) : kCert.K B w x [.int .i64 x.view, .int .i64 x.height, .string x.block, .slice A3 x.votes.length c3] :=
  ⟨_, _, rfl, ⟨rfl, h0⟩, ⟨_, _, rfl, ⟨rfl, h1⟩, ⟨_, _, rfl, ⟨rfl, h2⟩, ⟨A3, c3, rfl, hl3, hm3, hr3⟩⟩⟩⟩
theorem kCert_at {B e : Nat} {w : World} {A : Option Addr} {xs : List Cert} (h : Kd.Row kCert e B w A xs) {i : Nat} {x : Cert} (hx : xs[i]? = some x) : ∃ ad, A = some ad ∧ ∃ (A3 : Option Addr) (c3 : Nat), w.cell? (ad.add (i * 4)) = some (.int .i64 x.view) ∧ w.cell? ⟨(ad.add (i * 4)).block, (ad.add (i * 4)).off + 1, none⟩ = some (.int .i64 x.height) ∧ w.cell? ⟨(ad.add (i * 4)).block, (ad.add (i * 4)).off + 2, none⟩ = some (.string x.block) ∧ w.cell? ⟨(ad.add (i * 4)).block, (ad.add (i * 4)).off + 3, none⟩ = some (.slice A3 x.votes.length c3) ∧ IntOk x.view ∧ IntOk x.height ∧ x.block.size ≤ 140737488351232 ∧ x.votes.length ≤ c3 ∧ c3 ≤ maxLen ∧ Kd.Row kVote 52 B w A3 x.votes := by
  obtain ⟨ad, cs, rfl, _, hK, hc⟩ := Kd.row_at h hx
  obtain ⟨A3, c3, rfl, hcond⟩ := kCert_open hK
  exact ⟨ad, rfl, A3, c3, hc 0 _ rfl, cell_fld (hc 1 _ rfl), cell_fld (hc 2 _ rfl), cell_fld (hc 3 _ rfl), hcond⟩
theorem opensCert : Opens Tryz.prog kCert 37 := by
  exact opens_struct (g' := fun p => ⟨p.1, p.2.1, p.2.2.1, p.2.2.2⟩) (fun _ => rfl) Tryz.underlying37 (by kernel_rfl) (opensF_cons rfl (by kernel_rfl) (opens_int Tryz.underlying3) (opensF_cons rfl (by kernel_rfl) (opens_int Tryz.underlying3) (opensF_cons rfl (by kernel_rfl) (opens_str Tryz.underlying9) (opensF_one rfl (by kernel_rfl) (opens_slice Tryz.underlying28 (by kernel_rfl) (by decide) opensVote)))))
structure Rule where
  kind : Int
  n : Int
  deriving DecidableEq, Inhabited
def kRule : Kd Rule := Kd.iso (Kd.pair Kd.int Kd.int) (fun x : Rule => (x.kind, x.n))
theorem kRule_open {B : Nat} {w : World} {x : Rule} {cs : List Value} (h : kRule.K B w x cs) : cs = [.int .i64 x.kind, .int .i64 x.n] ∧ IntOk x.kind ∧ IntOk x.n := by
  obtain ⟨_, _, rfl, ⟨rfl, h0⟩, ⟨rfl, h1⟩⟩ := h
  exact ⟨rfl, h0, h1⟩
theorem kRule_mk {B : Nat} {w : World} (x : Rule) (h0 : IntOk x.kind) (h1 : IntOk x.n) : kRule.K B w x [.int .i64 x.kind, .int .i64 x.n] :=
  ⟨_, _, rfl, ⟨rfl, h0⟩, ⟨rfl, h1⟩⟩
theorem kRule_at {B e : Nat} {w : World} {A : Option Addr} {xs : List Rule} (h : Kd.Row kRule e B w A xs) {i : Nat} {x : Rule} (hx : xs[i]? = some x) : ∃ ad, A = some ad ∧ w.cell? (ad.add (i * 2)) = some (.int .i64 x.kind) ∧ w.cell? ⟨(ad.add (i * 2)).block, (ad.add (i * 2)).off + 1, none⟩ = some (.int .i64 x.n) ∧ IntOk x.kind ∧ IntOk x.n := by
  obtain ⟨ad, cs, rfl, _, hK, hc⟩ := Kd.row_at h hx
  obtain ⟨rfl, hcond⟩ := kRule_open hK
  exact ⟨ad, rfl, hc 0 _ rfl, cell_fld (hc 1 _ rfl), hcond⟩
theorem eqlRule (x y : Rule) (w : World) : (binOp .eql 26 (.agg #[.int .i64 x.kind, .int .i64 x.n]) (.agg #[.int .i64 y.kind, .int .i64 y.n])).run Tryz.prog w = .ok (.bool (decide (x = y))) w := by
  have e : ((x.kind == y.kind) && ((x.n == y.n) && true)) = decide (x = y) := by
    cases x; cases y
    simp only [Rule.mk.injEq, Bool.and_true, Bool.decide_and]
    try simp only [← Int.beq_eq_decide_eq, ← Bool.beq_eq_decide_eq]
    try rfl
  rw [← e]
  exact eql_of Tryz.underlying26 (by kernel_rfl) (eqf_cons (by rfl) (by go_simp; rfl) (by go_simp; rfl) (by go_simp) (eqf_cons (by rfl) (by go_simp; rfl) (by go_simp; rfl) (by go_simp) eqf_nil))
theorem neqRule (x y : Rule) (w : World) : (binOp .neq 26 (.agg #[.int .i64 x.kind, .int .i64 x.n]) (.agg #[.int .i64 y.kind, .int .i64 y.n])).run Tryz.prog w = .ok (.bool (!decide (x = y))) w := by
  have e : ((x.kind == y.kind) && ((x.n == y.n) && true)) = decide (x = y) := by
    cases x; cases y
    simp only [Rule.mk.injEq, Bool.and_true, Bool.decide_and]
    try simp only [← Int.beq_eq_decide_eq, ← Bool.beq_eq_decide_eq]
    try rfl
  rw [← e]
  exact neq_of Tryz.underlying26 (by kernel_rfl) (eqf_cons (by rfl) (by go_simp; rfl) (by go_simp; rfl) (by go_simp) (eqf_cons (by rfl) (by go_simp; rfl) (by go_simp; rfl) (by go_simp) eqf_nil))
theorem opensRule : Opens Tryz.prog kRule 26 := by
  exact opens_struct (g' := fun p => ⟨p.1, p.2⟩) (fun _ => rfl) Tryz.underlying26 (by kernel_rfl) (opensF_cons rfl (by kernel_rfl) (opens_int Tryz.underlying3) (opensF_one rfl (by kernel_rfl) (opens_int Tryz.underlying3)))
structure Config where
  roots : List ByteArray
  clients : List ByteArray
  quorum : Int
  base : Int
  cap : Int
  deriving DecidableEq, Inhabited
def kConfig : Kd Config := Kd.iso (Kd.pair (Kd.slice 9 Kd.str) (Kd.pair (Kd.slice 9 Kd.str) (Kd.pair Kd.int (Kd.pair Kd.int Kd.int)))) (fun x : Config => (x.roots, (x.clients, (x.quorum, (x.base, x.cap)))))
theorem kConfig_open {B : Nat} {w : World} {x : Config} {cs : List Value} (h : kConfig.K B w x cs) : ∃ (A0 : Option Addr) (c0 : Nat), ∃ (A1 : Option Addr) (c1 : Nat), cs = [.slice A0 x.roots.length c0, .slice A1 x.clients.length c1, .int .i64 x.quorum, .int .i64 x.base, .int .i64 x.cap] ∧ x.roots.length ≤ c0 ∧ c0 ≤ maxLen ∧ Kd.Row Kd.str 9 B w A0 x.roots ∧ x.clients.length ≤ c1 ∧ c1 ≤ maxLen ∧ Kd.Row Kd.str 9 B w A1 x.clients ∧ IntOk x.quorum ∧ IntOk x.base ∧ IntOk x.cap := by
  obtain ⟨_, _, rfl, ⟨A0, c0, rfl, hl0, hm0, hr0⟩, ⟨_, _, rfl, ⟨A1, c1, rfl, hl1, hm1, hr1⟩, ⟨_, _, rfl, ⟨rfl, h2⟩, ⟨_, _, rfl, ⟨rfl, h3⟩, ⟨rfl, h4⟩⟩⟩⟩⟩ := h
  exact ⟨A0, c0, A1, c1, rfl, hl0, hm0, hr0, hl1, hm1, hr1, h2, h3, h4⟩
theorem kConfig_mk {B : Nat} {w : World} (x : Config) {A0 : Option Addr} {c0 : Nat} (hl0 : x.roots.length ≤ c0) (hm0 : c0 ≤ maxLen) (hr0 : Kd.Row Kd.str 9 B w A0 x.roots) {A1 : Option Addr} {c1 : Nat} (hl1 : x.clients.length ≤ c1) (hm1 : c1 ≤ maxLen) (hr1 : Kd.Row Kd.str 9 B w A1 x.clients) (h2 : IntOk x.quorum) (h3 : IntOk x.base) (h4 : IntOk x.cap) : kConfig.K B w x [.slice A0 x.roots.length c0, .slice A1 x.clients.length c1, .int .i64 x.quorum, .int .i64 x.base, .int .i64 x.cap] :=
  ⟨_, _, rfl, ⟨A0, c0, rfl, hl0, hm0, hr0⟩, ⟨_, _, rfl, ⟨A1, c1, rfl, hl1, hm1, hr1⟩, ⟨_, _, rfl, ⟨rfl, h2⟩, ⟨_, _, rfl, ⟨rfl, h3⟩, ⟨rfl, h4⟩⟩⟩⟩⟩
theorem kConfig_at {B e : Nat} {w : World} {A : Option Addr} {xs : List Config} (h : Kd.Row kConfig e B w A xs) {i : Nat} {x : Config} (hx : xs[i]? = some x) : ∃ ad, A = some ad ∧ ∃ (A0 : Option Addr) (c0 : Nat), ∃ (A1 : Option Addr) (c1 : Nat), w.cell? (ad.add (i * 5)) = some (.slice A0 x.roots.length c0) ∧ w.cell? ⟨(ad.add (i * 5)).block, (ad.add (i * 5)).off + 1, none⟩ = some (.slice A1 x.clients.length c1) ∧ w.cell? ⟨(ad.add (i * 5)).block, (ad.add (i * 5)).off + 2, none⟩ = some (.int .i64 x.quorum) ∧ w.cell? ⟨(ad.add (i * 5)).block, (ad.add (i * 5)).off + 3, none⟩ = some (.int .i64 x.base) ∧ w.cell? ⟨(ad.add (i * 5)).block, (ad.add (i * 5)).off + 4, none⟩ = some (.int .i64 x.cap) ∧ x.roots.length ≤ c0 ∧ c0 ≤ maxLen ∧ Kd.Row Kd.str 9 B w A0 x.roots ∧ x.clients.length ≤ c1 ∧ c1 ≤ maxLen ∧ Kd.Row Kd.str 9 B w A1 x.clients ∧ IntOk x.quorum ∧ IntOk x.base ∧ IntOk x.cap := by
  obtain ⟨ad, cs, rfl, _, hK, hc⟩ := Kd.row_at h hx
  obtain ⟨A0, c0, A1, c1, rfl, hcond⟩ := kConfig_open hK
  exact ⟨ad, rfl, A0, c0, A1, c1, hc 0 _ rfl, cell_fld (hc 1 _ rfl), cell_fld (hc 2 _ rfl), cell_fld (hc 3 _ rfl), cell_fld (hc 4 _ rfl), hcond⟩
theorem opensConfig : Opens Tryz.prog kConfig 24 := by
  exact opens_struct (g' := fun p => ⟨p.1, p.2.1, p.2.2.1, p.2.2.2.1, p.2.2.2.2⟩) (fun _ => rfl) Tryz.underlying24 (by kernel_rfl) (opensF_cons rfl (by kernel_rfl) (opens_slice Tryz.underlying22 (by kernel_rfl) (by decide) (opens_str Tryz.underlying9)) (opensF_cons rfl (by kernel_rfl) (opens_slice Tryz.underlying22 (by kernel_rfl) (by decide) (opens_str Tryz.underlying9)) (opensF_cons rfl (by kernel_rfl) (opens_int Tryz.underlying3) (opensF_cons rfl (by kernel_rfl) (opens_int Tryz.underlying3) (opensF_one rfl (by kernel_rfl) (opens_int Tryz.underlying3))))))
structure Tx where
  frm : Int
  to : Int
  amount : Int
  nonce : Int
  sig : ByteArray
  deriving DecidableEq, Inhabited
def kTx : Kd Tx := Kd.iso (Kd.pair Kd.int (Kd.pair Kd.int (Kd.pair Kd.int (Kd.pair Kd.int Kd.str)))) (fun x : Tx => (x.frm, (x.to, (x.amount, (x.nonce, x.sig)))))
theorem kTx_open {B : Nat} {w : World} {x : Tx} {cs : List Value} (h : kTx.K B w x cs) : cs = [.int .i64 x.frm, .int .i64 x.to, .int .i64 x.amount, .int .i64 x.nonce, .string x.sig] ∧ IntOk x.frm ∧ IntOk x.to ∧ IntOk x.amount ∧ IntOk x.nonce ∧ x.sig.size ≤ 140737488351232 := by
  obtain ⟨_, _, rfl, ⟨rfl, h0⟩, ⟨_, _, rfl, ⟨rfl, h1⟩, ⟨_, _, rfl, ⟨rfl, h2⟩, ⟨_, _, rfl, ⟨rfl, h3⟩, ⟨rfl, h4⟩⟩⟩⟩⟩ := h
  exact ⟨rfl, h0, h1, h2, h3, h4⟩
theorem kTx_mk {B : Nat} {w : World} (x : Tx) (h0 : IntOk x.frm) (h1 : IntOk x.to) (h2 : IntOk x.amount) (h3 : IntOk x.nonce) (h4 : x.sig.size ≤ 140737488351232) : kTx.K B w x [.int .i64 x.frm, .int .i64 x.to, .int .i64 x.amount, .int .i64 x.nonce, .string x.sig] :=
  ⟨_, _, rfl, ⟨rfl, h0⟩, ⟨_, _, rfl, ⟨rfl, h1⟩, ⟨_, _, rfl, ⟨rfl, h2⟩, ⟨_, _, rfl, ⟨rfl, h3⟩, ⟨rfl, h4⟩⟩⟩⟩⟩
theorem kTx_at {B e : Nat} {w : World} {A : Option Addr} {xs : List Tx} (h : Kd.Row kTx e B w A xs) {i : Nat} {x : Tx} (hx : xs[i]? = some x) : ∃ ad, A = some ad ∧ w.cell? (ad.add (i * 5)) = some (.int .i64 x.frm) ∧ w.cell? ⟨(ad.add (i * 5)).block, (ad.add (i * 5)).off + 1, none⟩ = some (.int .i64 x.to) ∧ w.cell? ⟨(ad.add (i * 5)).block, (ad.add (i * 5)).off + 2, none⟩ = some (.int .i64 x.amount) ∧ w.cell? ⟨(ad.add (i * 5)).block, (ad.add (i * 5)).off + 3, none⟩ = some (.int .i64 x.nonce) ∧ w.cell? ⟨(ad.add (i * 5)).block, (ad.add (i * 5)).off + 4, none⟩ = some (.string x.sig) ∧ IntOk x.frm ∧ IntOk x.to ∧ IntOk x.amount ∧ IntOk x.nonce ∧ x.sig.size ≤ 140737488351232 := by
  obtain ⟨ad, cs, rfl, _, hK, hc⟩ := Kd.row_at h hx
  obtain ⟨rfl, hcond⟩ := kTx_open hK
  exact ⟨ad, rfl, hc 0 _ rfl, cell_fld (hc 1 _ rfl), cell_fld (hc 2 _ rfl), cell_fld (hc 3 _ rfl), cell_fld (hc 4 _ rfl), hcond⟩
theorem eqlTx (x y : Tx) (w : World) : (binOp .eql 77 (.agg #[.int .i64 x.frm, .int .i64 x.to, .int .i64 x.amount, .int .i64 x.nonce, .string x.sig]) (.agg #[.int .i64 y.frm, .int .i64 y.to, .int .i64 y.amount, .int .i64 y.nonce, .string y.sig])).run Tryz.prog w = .ok (.bool (decide (x = y))) w := by
  have e : ((x.frm == y.frm) && ((x.to == y.to) && ((x.amount == y.amount) && ((x.nonce == y.nonce) && ((x.sig.toList == y.sig.toList) && true))))) = decide (x = y) := by
    cases x; cases y
    simp only [bytes_beq, Tx.mk.injEq, Bool.and_true, Bool.decide_and]
    try simp only [← Int.beq_eq_decide_eq, ← Bool.beq_eq_decide_eq]
    try rfl
  rw [← e]
  exact eql_of Tryz.underlying77 (by kernel_rfl) (eqf_cons (by rfl) (by go_simp; rfl) (by go_simp; rfl) (by go_simp) (eqf_cons (by rfl) (by go_simp; rfl) (by go_simp; rfl) (by go_simp) (eqf_cons (by rfl) (by go_simp; rfl) (by go_simp; rfl) (by go_simp) (eqf_cons (by rfl) (by go_simp; rfl) (by go_simp; rfl) (by go_simp) (eqf_cons (by rfl) (by go_simp; rfl) (by go_simp; rfl) (by go_simp) eqf_nil)))))
theorem neqTx (x y : Tx) (w : World) : (binOp .neq 77 (.agg #[.int .i64 x.frm, .int .i64 x.to, .int .i64 x.amount, .int .i64 x.nonce, .string x.sig]) (.agg #[.int .i64 y.frm, .int .i64 y.to, .int .i64 y.amount, .int .i64 y.nonce, .string y.sig])).run Tryz.prog w = .ok (.bool (!decide (x = y))) w := by
  have e : ((x.frm == y.frm) && ((x.to == y.to) && ((x.amount == y.amount) && ((x.nonce == y.nonce) && ((x.sig.toList == y.sig.toList) && true))))) = decide (x = y) := by
    cases x; cases y
    simp only [bytes_beq, Tx.mk.injEq, Bool.and_true, Bool.decide_and]
    try simp only [← Int.beq_eq_decide_eq, ← Bool.beq_eq_decide_eq]
    try rfl
  rw [← e]
  exact neq_of Tryz.underlying77 (by kernel_rfl) (eqf_cons (by rfl) (by go_simp; rfl) (by go_simp; rfl) (by go_simp) (eqf_cons (by rfl) (by go_simp; rfl) (by go_simp; rfl) (by go_simp) (eqf_cons (by rfl) (by go_simp; rfl) (by go_simp; rfl) (by go_simp) (eqf_cons (by rfl) (by go_simp; rfl) (by go_simp; rfl) (by go_simp) (eqf_cons (by rfl) (by go_simp; rfl) (by go_simp; rfl) (by go_simp) eqf_nil)))))
theorem opensTx : Opens Tryz.prog kTx 77 := by
  exact opens_struct (g' := fun p => ⟨p.1, p.2.1, p.2.2.1, p.2.2.2.1, p.2.2.2.2⟩) (fun _ => rfl) Tryz.underlying77 (by kernel_rfl) (opensF_cons rfl (by kernel_rfl) (opens_int Tryz.underlying3) (opensF_cons rfl (by kernel_rfl) (opens_int Tryz.underlying3) (opensF_cons rfl (by kernel_rfl) (opens_int Tryz.underlying3) (opensF_cons rfl (by kernel_rfl) (opens_int Tryz.underlying3) (opensF_one rfl (by kernel_rfl) (opens_str Tryz.underlying9))))))
structure Block where
  view : Int
  height : Int
  parent : ByteArray
  justify : Cert
  txs : List Tx
  sig : ByteArray
  deriving DecidableEq, Inhabited
def kBlock : Kd Block := Kd.iso (Kd.pair Kd.int (Kd.pair Kd.int (Kd.pair Kd.str (Kd.pair kCert (Kd.pair (Kd.slice 77 kTx) Kd.str))))) (fun x : Block => (x.view, (x.height, (x.parent, (x.justify, (x.txs, x.sig))))))
theorem kBlock_open {B : Nat} {w : World} {x : Block} {cs : List Value} (h : kBlock.K B w x cs) : ∃ (A6 : Option Addr) (c6 : Nat), ∃ (A7 : Option Addr) (c7 : Nat), cs = [.int .i64 x.view, .int .i64 x.height, .string x.parent, .int .i64 x.justify.view, .int .i64 x.justify.height, .string x.justify.block, .slice A6 x.justify.votes.length c6, .slice A7 x.txs.length c7, .string x.sig] ∧ IntOk x.view ∧ IntOk x.height ∧ x.parent.size ≤ 140737488351232 ∧ IntOk x.justify.view ∧ IntOk x.justify.height ∧ x.justify.block.size ≤ 140737488351232 ∧ x.justify.votes.length ≤ c6 ∧ c6 ≤ maxLen ∧ Kd.Row kVote 52 B w A6 x.justify.votes ∧ x.txs.length ≤ c7 ∧ c7 ≤ maxLen ∧ Kd.Row kTx 77 B w A7 x.txs ∧ x.sig.size ≤ 140737488351232 := by
  obtain ⟨_, _, rfl, ⟨rfl, h0⟩, ⟨_, _, rfl, ⟨rfl, h1⟩, ⟨_, _, rfl, ⟨rfl, h2⟩, ⟨_, _, rfl, ⟨_, _, rfl, ⟨rfl, h3⟩, ⟨_, _, rfl, ⟨rfl, h4⟩, ⟨_, _, rfl, ⟨rfl, h5⟩, ⟨A6, c6, rfl, hl6, hm6, hr6⟩⟩⟩⟩, ⟨_, _, rfl, ⟨A7, c7, rfl, hl7, hm7, hr7⟩, ⟨rfl, h8⟩⟩⟩⟩⟩⟩ := h
  exact ⟨A6, c6, A7, c7, rfl, h0, h1, h2, h3, h4, h5, hl6, hm6, hr6, hl7, hm7, hr7, h8⟩
theorem kBlock_mk {B : Nat} {w : World} (x : Block) (h0 : IntOk x.view) (h1 : IntOk x.height) (h2 : x.parent.size ≤ 140737488351232) (h3 : IntOk x.justify.view) (h4 : IntOk x.justify.height) (h5 : x.justify.block.size ≤ 140737488351232) {A6 : Option Addr} {c6 : Nat} (hl6 : x.justify.votes.length ≤ c6) (hm6 : c6 ≤ maxLen) (hr6 : Kd.Row kVote 52 B w A6 x.justify.votes) {A7 : Option Addr} {c7 : Nat} (hl7 : x.txs.length ≤ c7) (hm7 : c7 ≤ maxLen) (hr7 : Kd.Row kTx 77 B w A7 x.txs) (h8 : x.sig.size ≤ 140737488351232) : kBlock.K B w x [.int .i64 x.view, .int .i64 x.height, .string x.parent, .int .i64 x.justify.view, .int .i64 x.justify.height, .string x.justify.block, .slice A6 x.justify.votes.length c6, .slice A7 x.txs.length c7, .string x.sig] :=
  ⟨_, _, rfl, ⟨rfl, h0⟩, ⟨_, _, rfl, ⟨rfl, h1⟩, ⟨_, _, rfl, ⟨rfl, h2⟩, ⟨_, _, rfl, ⟨_, _, rfl, ⟨rfl, h3⟩, ⟨_, _, rfl, ⟨rfl, h4⟩, ⟨_, _, rfl, ⟨rfl, h5⟩, ⟨A6, c6, rfl, hl6, hm6, hr6⟩⟩⟩⟩, ⟨_, _, rfl, ⟨A7, c7, rfl, hl7, hm7, hr7⟩, ⟨rfl, h8⟩⟩⟩⟩⟩⟩
theorem kBlock_at {B e : Nat} {w : World} {A : Option Addr} {xs : List Block} (h : Kd.Row kBlock e B w A xs) {i : Nat} {x : Block} (hx : xs[i]? = some x) : ∃ ad, A = some ad ∧ ∃ (A6 : Option Addr) (c6 : Nat), ∃ (A7 : Option Addr) (c7 : Nat), w.cell? (ad.add (i * 9)) = some (.int .i64 x.view) ∧ w.cell? ⟨(ad.add (i * 9)).block, (ad.add (i * 9)).off + 1, none⟩ = some (.int .i64 x.height) ∧ w.cell? ⟨(ad.add (i * 9)).block, (ad.add (i * 9)).off + 2, none⟩ = some (.string x.parent) ∧ w.cell? ⟨(ad.add (i * 9)).block, (ad.add (i * 9)).off + 3, none⟩ = some (.int .i64 x.justify.view) ∧ w.cell? ⟨(ad.add (i * 9)).block, (ad.add (i * 9)).off + 4, none⟩ = some (.int .i64 x.justify.height) ∧ w.cell? ⟨(ad.add (i * 9)).block, (ad.add (i * 9)).off + 5, none⟩ = some (.string x.justify.block) ∧ w.cell? ⟨(ad.add (i * 9)).block, (ad.add (i * 9)).off + 6, none⟩ = some (.slice A6 x.justify.votes.length c6) ∧ w.cell? ⟨(ad.add (i * 9)).block, (ad.add (i * 9)).off + 7, none⟩ = some (.slice A7 x.txs.length c7) ∧ w.cell? ⟨(ad.add (i * 9)).block, (ad.add (i * 9)).off + 8, none⟩ = some (.string x.sig) ∧ IntOk x.view ∧ IntOk x.height ∧ x.parent.size ≤ 140737488351232 ∧ IntOk x.justify.view ∧ IntOk x.justify.height ∧ x.justify.block.size ≤ 140737488351232 ∧ x.justify.votes.length ≤ c6 ∧ c6 ≤ maxLen ∧ Kd.Row kVote 52 B w A6 x.justify.votes ∧ x.txs.length ≤ c7 ∧ c7 ≤ maxLen ∧ Kd.Row kTx 77 B w A7 x.txs ∧ x.sig.size ≤ 140737488351232 := by
  obtain ⟨ad, cs, rfl, _, hK, hc⟩ := Kd.row_at h hx
  obtain ⟨A6, c6, A7, c7, rfl, hcond⟩ := kBlock_open hK
  exact ⟨ad, rfl, A6, c6, A7, c7, hc 0 _ rfl, cell_fld (hc 1 _ rfl), cell_fld (hc 2 _ rfl), cell_fld (hc 3 _ rfl), cell_fld (hc 4 _ rfl), cell_fld (hc 5 _ rfl), cell_fld (hc 6 _ rfl), cell_fld (hc 7 _ rfl), cell_fld (hc 8 _ rfl), hcond⟩
theorem opensBlock : Opens Tryz.prog kBlock 40 := by
  exact opens_struct (g' := fun p => ⟨p.1, p.2.1, p.2.2.1, p.2.2.2.1, p.2.2.2.2.1, p.2.2.2.2.2⟩) (fun _ => rfl) Tryz.underlying40 (by kernel_rfl) (opensF_cons rfl (by kernel_rfl) (opens_int Tryz.underlying3) (opensF_cons rfl (by kernel_rfl) (opens_int Tryz.underlying3) (opensF_cons rfl (by kernel_rfl) (opens_str Tryz.underlying9) (opensF_cons rfl (by kernel_rfl) opensCert (opensF_cons rfl (by kernel_rfl) (opens_slice Tryz.underlying38 (by kernel_rfl) (by decide) opensTx) (opensF_one rfl (by kernel_rfl) (opens_str Tryz.underlying9)))))))
end Go.Proofs.YtcbfpdenjdgnlaaGreat
