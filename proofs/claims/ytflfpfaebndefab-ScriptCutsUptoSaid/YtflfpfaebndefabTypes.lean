/- The program's structs as Lean's, how they lie in cells, and how they come in. No claim of its own; no condition. Printed by a program of this session. -/
import Derived.Test.YtflfpfaebndefabWords
namespace Go.Proofs.Ytflfpfaebndefab
open Go.ChangeShapes Go.WideShapes Go.ChangeAt Go.RowKit
set_option linter.unusedVariables false
structure Vote where
  kind : Int
  view : Int
  height : Int
  block : ByteArray
  ticks : Int
  signer : Int
  sig : ByteArray
  deriving DecidableEq, Inhabited
def kVote : Kd Vote := Kd.iso (Kd.pair Kd.int (Kd.pair Kd.int (Kd.pair Kd.int (Kd.pair Kd.str (Kd.pair Kd.int (Kd.pair Kd.int Kd.str)))))) (fun x : Vote => (x.kind, (x.view, (x.height, (x.block, (x.ticks, (x.signer, x.sig)))))))
theorem kVote_open {B : Nat} {w : World} {x : Vote} {cs : List Value} (h : kVote.K B w x cs) : cs = [.int .i64 x.kind, .int .i64 x.view, .int .i64 x.height, .string x.block, .int .i64 x.ticks, .int .i64 x.signer, .string x.sig] ∧ IntOk x.kind ∧ IntOk x.view ∧ IntOk x.height ∧ x.block.size ≤ 140737488351232 ∧ IntOk x.ticks ∧ IntOk x.signer ∧ x.sig.size ≤ 140737488351232 := by
  obtain ⟨_, _, rfl, ⟨rfl, h0⟩, ⟨_, _, rfl, ⟨rfl, h1⟩, ⟨_, _, rfl, ⟨rfl, h2⟩, ⟨_, _, rfl, ⟨rfl, h3⟩, ⟨_, _, rfl, ⟨rfl, h4⟩, ⟨_, _, rfl, ⟨rfl, h5⟩, ⟨rfl, h6⟩⟩⟩⟩⟩⟩⟩ := h
  exact ⟨rfl, h0, h1, h2, h3, h4, h5, h6⟩
theorem kVote_mk {B : Nat} {w : World} (x : Vote) (h0 : IntOk x.kind) (h1 : IntOk x.view) (h2 : IntOk x.height) (h3 : x.block.size ≤ 140737488351232) (h4 : IntOk x.ticks) (h5 : IntOk x.signer) (h6 : x.sig.size ≤ 140737488351232) : kVote.K B w x [.int .i64 x.kind, .int .i64 x.view, .int .i64 x.height, .string x.block, .int .i64 x.ticks, .int .i64 x.signer, .string x.sig] :=
  ⟨_, _, rfl, ⟨rfl, h0⟩, ⟨_, _, rfl, ⟨rfl, h1⟩, ⟨_, _, rfl, ⟨rfl, h2⟩, ⟨_, _, rfl, ⟨rfl, h3⟩, ⟨_, _, rfl, ⟨rfl, h4⟩, ⟨_, _, rfl, ⟨rfl, h5⟩, ⟨rfl, h6⟩⟩⟩⟩⟩⟩⟩
theorem kVote_at {B e : Nat} {w : World} {A : Option Addr} {xs : List Vote} (h : Kd.Row kVote e B w A xs) {i : Nat} {x : Vote} (hx : xs[i]? = some x) : ∃ ad, A = some ad ∧ w.cell? (ad.add (i * 7)) = some (.int .i64 x.kind) ∧ w.cell? ⟨(ad.add (i * 7)).block, (ad.add (i * 7)).off + 1, none⟩ = some (.int .i64 x.view) ∧ w.cell? ⟨(ad.add (i * 7)).block, (ad.add (i * 7)).off + 2, none⟩ = some (.int .i64 x.height) ∧ w.cell? ⟨(ad.add (i * 7)).block, (ad.add (i * 7)).off + 3, none⟩ = some (.string x.block) ∧ w.cell? ⟨(ad.add (i * 7)).block, (ad.add (i * 7)).off + 4, none⟩ = some (.int .i64 x.ticks) ∧ w.cell? ⟨(ad.add (i * 7)).block, (ad.add (i * 7)).off + 5, none⟩ = some (.int .i64 x.signer) ∧ w.cell? ⟨(ad.add (i * 7)).block, (ad.add (i * 7)).off + 6, none⟩ = some (.string x.sig) ∧ IntOk x.kind ∧ IntOk x.view ∧ IntOk x.height ∧ x.block.size ≤ 140737488351232 ∧ IntOk x.ticks ∧ IntOk x.signer ∧ x.sig.size ≤ 140737488351232 := by
  obtain ⟨ad, cs, rfl, _, hK, hc⟩ := Kd.row_at h hx
  obtain ⟨rfl, hcond⟩ := kVote_open hK
  exact ⟨ad, rfl, hc 0 _ rfl, cell_fld (hc 1 _ rfl), cell_fld (hc 2 _ rfl), cell_fld (hc 3 _ rfl), cell_fld (hc 4 _ rfl), cell_fld (hc 5 _ rfl), cell_fld (hc 6 _ rfl), hcond⟩
theorem eqlVote (x y : Vote) (w : World) : (binOp .eql 147 (.agg #[.int .i64 x.kind, .int .i64 x.view, .int .i64 x.height, .string x.block, .int .i64 x.ticks, .int .i64 x.signer, .string x.sig]) (.agg #[.int .i64 y.kind, .int .i64 y.view, .int .i64 y.height, .string y.block, .int .i64 y.ticks, .int .i64 y.signer, .string y.sig])).run Try.prog w = .ok (.bool (decide (x = y))) w := by
  have e : ((x.kind == y.kind) && ((x.view == y.view) && ((x.height == y.height) && ((x.block.toList == y.block.toList) && ((x.ticks == y.ticks) && ((x.signer == y.signer) && ((x.sig.toList == y.sig.toList) && true))))))) = decide (x = y) := by
    cases x; cases y
    simp only [bytes_beq, Vote.mk.injEq, Bool.and_true, Bool.decide_and]
    try simp only [← Int.beq_eq_decide_eq, ← Bool.beq_eq_decide_eq]
    try rfl
  rw [← e]
  exact eql_of Try.underlying147 (by kernel_rfl) (eqf_cons (by rfl) (by go_simp; rfl) (by go_simp; rfl) (by go_simp) (eqf_cons (by rfl) (by go_simp; rfl) (by go_simp; rfl) (by go_simp) (eqf_cons (by rfl) (by go_simp; rfl) (by go_simp; rfl) (by go_simp) (eqf_cons (by rfl) (by go_simp; rfl) (by go_simp; rfl) (by go_simp) (eqf_cons (by rfl) (by go_simp; rfl) (by go_simp; rfl) (by go_simp) (eqf_cons (by rfl) (by go_simp; rfl) (by go_simp; rfl) (by go_simp) (eqf_cons (by rfl) (by go_simp; rfl) (by go_simp; rfl) (by go_simp) eqf_nil)))))))
theorem neqVote (x y : Vote) (w : World) : (binOp .neq 147 (.agg #[.int .i64 x.kind, .int .i64 x.view, .int .i64 x.height, .string x.block, .int .i64 x.ticks, .int .i64 x.signer, .string x.sig]) (.agg #[.int .i64 y.kind, .int .i64 y.view, .int .i64 y.height, .string y.block, .int .i64 y.ticks, .int .i64 y.signer, .string y.sig])).run Try.prog w = .ok (.bool (!decide (x = y))) w := by
  have e : ((x.kind == y.kind) && ((x.view == y.view) && ((x.height == y.height) && ((x.block.toList == y.block.toList) && ((x.ticks == y.ticks) && ((x.signer == y.signer) && ((x.sig.toList == y.sig.toList) && true))))))) = decide (x = y) := by
    cases x; cases y
    simp only [bytes_beq, Vote.mk.injEq, Bool.and_true, Bool.decide_and]
    try simp only [← Int.beq_eq_decide_eq, ← Bool.beq_eq_decide_eq]
    try rfl
  rw [← e]
  exact neq_of Try.underlying147 (by kernel_rfl) (eqf_cons (by rfl) (by go_simp; rfl) (by go_simp; rfl) (by go_simp) (eqf_cons (by rfl) (by go_simp; rfl) (by go_simp; rfl) (by go_simp) (eqf_cons (by rfl) (by go_simp; rfl) (by go_simp; rfl) (by go_simp) (eqf_cons (by rfl) (by go_simp; rfl) (by go_simp; rfl) (by go_simp) (eqf_cons (by rfl) (by go_simp; rfl) (by go_simp; rfl) (by go_simp) (eqf_cons (by rfl) (by go_simp; rfl) (by go_simp; rfl) (by go_simp) (eqf_cons (by rfl) (by go_simp; rfl) (by go_simp; rfl) (by go_simp) eqf_nil)))))))
theorem opensVote : Opens Try.prog kVote 147 := by
  exact opens_struct (g' := fun p => ⟨p.1, p.2.1, p.2.2.1, p.2.2.2.1, p.2.2.2.2.1, p.2.2.2.2.2.1, p.2.2.2.2.2.2⟩) (fun _ => rfl) Try.underlying147 (by kernel_rfl) (opensF_cons rfl (by kernel_rfl) (opens_int Try.underlying3) (opensF_cons rfl (by kernel_rfl) (opens_int Try.underlying3) (opensF_cons rfl (by kernel_rfl) (opens_int Try.underlying3) (opensF_cons rfl (by kernel_rfl) (opens_str Try.underlying9) (opensF_cons rfl (by kernel_rfl) (opens_int Try.underlying3) (opensF_cons rfl (by kernel_rfl) (opens_int Try.underlying3) (opensF_one rfl (by kernel_rfl) (opens_str Try.underlying9))))))))
structure Cert where
  view : Int
  height : Int
  block : ByteArray
  votes : List Vote
  deriving DecidableEq, Inhabited
def kCert : Kd Cert := Kd.iso (Kd.pair Kd.int (Kd.pair Kd.int (Kd.pair Kd.str (Kd.slice 147 kVote)))) (fun x : Cert => (x.view, (x.height, (x.block, x.votes))))
theorem kCert_open {B : Nat} {w : World} {x : Cert} {cs : List Value} (h : kCert.K B w x cs) : ∃ (A3 : Option Addr) (c3 : Nat), cs = [.int .i64 x.view, .int .i64 x.height, .string x.block, .slice A3 x.votes.length c3] ∧ IntOk x.view ∧ IntOk x.height ∧ x.block.size ≤ 140737488351232 ∧ x.votes.length ≤ c3 ∧ c3 ≤ maxLen ∧ Kd.Row kVote 147 B w A3 x.votes := by
  obtain ⟨_, _, rfl, ⟨rfl, h0⟩, ⟨_, _, rfl, ⟨rfl, h1⟩, ⟨_, _, rfl, ⟨rfl, h2⟩, ⟨A3, c3, rfl, hl3, hm3, hr3⟩⟩⟩⟩ := h
  exact ⟨A3, c3, rfl, h0, h1, h2, hl3, hm3, hr3⟩
theorem kCert_mk {B : Nat} {w : World} (x : Cert) (h0 : IntOk x.view) (h1 : IntOk x.height) (h2 : x.block.size ≤ 140737488351232) {A3 : Option Addr} {c3 : Nat} (hl3 : x.votes.length ≤ c3) (hm3 : c3 ≤ maxLen) (hr3 : Kd.Row kVote 147 B w A3 x.votes) : kCert.K B w x [.int .i64 x.view, .int .i64 x.height, .string x.block, .slice A3 x.votes.length c3] :=
  ⟨_, _, rfl, ⟨rfl, h0⟩, ⟨_, _, rfl, ⟨rfl, h1⟩, ⟨_, _, rfl, ⟨rfl, h2⟩, ⟨A3, c3, rfl, hl3, hm3, hr3⟩⟩⟩⟩
theorem kCert_at {B e : Nat} {w : World} {A : Option Addr} {xs : List Cert} (h : Kd.Row kCert e B w A xs) {i : Nat} {x : Cert} (hx : xs[i]? = some x) : ∃ ad, A = some ad ∧ ∃ (A3 : Option Addr) (c3 : Nat), w.cell? (ad.add (i * 4)) = some (.int .i64 x.view) ∧ w.cell? ⟨(ad.add (i * 4)).block, (ad.add (i * 4)).off + 1, none⟩ = some (.int .i64 x.height) ∧ w.cell? ⟨(ad.add (i * 4)).block, (ad.add (i * 4)).off + 2, none⟩ = some (.string x.block) ∧ w.cell? ⟨(ad.add (i * 4)).block, (ad.add (i * 4)).off + 3, none⟩ = some (.slice A3 x.votes.length c3) ∧ IntOk x.view ∧ IntOk x.height ∧ x.block.size ≤ 140737488351232 ∧ x.votes.length ≤ c3 ∧ c3 ≤ maxLen ∧ Kd.Row kVote 147 B w A3 x.votes := by
  obtain ⟨ad, cs, rfl, _, hK, hc⟩ := Kd.row_at h hx
  obtain ⟨A3, c3, rfl, hcond⟩ := kCert_open hK
  exact ⟨ad, rfl, A3, c3, hc 0 _ rfl, cell_fld (hc 1 _ rfl), cell_fld (hc 2 _ rfl), cell_fld (hc 3 _ rfl), hcond⟩
theorem opensCert : Opens Try.prog kCert 77 := by
  exact opens_struct (g' := fun p => ⟨p.1, p.2.1, p.2.2.1, p.2.2.2⟩) (fun _ => rfl) Try.underlying77 (by kernel_rfl) (opensF_cons rfl (by kernel_rfl) (opens_int Try.underlying3) (opensF_cons rfl (by kernel_rfl) (opens_int Try.underlying3) (opensF_cons rfl (by kernel_rfl) (opens_str Try.underlying9) (opensF_one rfl (by kernel_rfl) (opens_slice Try.underlying75 (by kernel_rfl) (by decide) opensVote)))))
structure Tx where
  frm : Int
  to : Int
  amount : Int
  nonce : Int
  sig : ByteArray
  deriving DecidableEq, Inhabited
def kTx : Kd Tx := Kd.iso (Kd.pair Kd.int (Kd.pair Kd.int (Kd.pair Kd.int (Kd.pair Kd.int Kd.str)))) (fun x : Tx => (x.frm, (x.to, (x.amount, (x.nonce, x.sig)))))
theorem kTx_open {B : Nat} {w : World} {x : Tx} {cs : List Value} (h : kTx.K B w x cs) : cs = [.int .i64 x.frm, .int .i64 x.to, .int .i64 x.amount, .int .i64 x.nonce, .string x.sig] ∧ IntOk x.frm ∧ IntOk x.to ∧ IntOk x.amount ∧ IntOk x.nonce ∧ x.sig.size ≤ 140737488351232 := by
  obtain ⟨_, _, rfl, ⟨rfl, h0⟩, ⟨_, _, rfl, ⟨rfl, h1⟩, ⟨_, _, rfl, ⟨rfl, h2⟩, ⟨_, _, rfl, ⟨rfl, h3⟩, ⟨rfl, h4⟩⟩⟩⟩⟩ := h
  exact ⟨rfl, h0, h1, h2, h3, h4⟩
theorem kTx_mk {B : Nat} {w : World} (x : Tx) (h0 : IntOk x.frm) (h1 : IntOk x.to) (h2 : IntOk x.amount) (h3 : IntOk x.nonce) (h4 : x.sig.size ≤ 140737488351232) : kTx.K B w x [.int .i64 x.frm, .int .i64 x.to, .int .i64 x.amount, .int .i64 x.nonce, .string x.sig] :=
  ⟨_, _, rfl, ⟨rfl, h0⟩, ⟨_, _, rfl, ⟨rfl, h1⟩, ⟨_, _, rfl, ⟨rfl, h2⟩, ⟨_, _, rfl, ⟨rfl, h3⟩, ⟨rfl, h4⟩⟩⟩⟩⟩
theorem kTx_at {B e : Nat} {w : World} {A : Option Addr} {xs : List Tx} (h : Kd.Row kTx e B w A xs) {i : Nat} {x : Tx} (hx : xs[i]? = some x) : ∃ ad, A = some ad ∧ w.cell? (ad.add (i * 5)) = some (.int .i64 x.frm) ∧ w.cell? ⟨(ad.add (i * 5)).block, (ad.add (i * 5)).off + 1, none⟩ = some (.int .i64 x.to) ∧ w.cell? ⟨(ad.add (i * 5)).block, (ad.add (i * 5)).off + 2, none⟩ = some (.int .i64 x.amount) ∧ w.cell? ⟨(ad.add (i * 5)).block, (ad.add (i * 5)).off + 3, none⟩ = some (.int .i64 x.nonce) ∧ w.cell? ⟨(ad.add (i * 5)).block, (ad.add (i * 5)).off + 4, none⟩ = some (.string x.sig) ∧ IntOk x.frm ∧ IntOk x.to ∧ IntOk x.amount ∧ IntOk x.nonce ∧ x.sig.size ≤ 140737488351232 := by
  obtain ⟨ad, cs, rfl, _, hK, hc⟩ := Kd.row_at h hx
  obtain ⟨rfl, hcond⟩ := kTx_open hK
  exact ⟨ad, rfl, hc 0 _ rfl, cell_fld (hc 1 _ rfl), cell_fld (hc 2 _ rfl), cell_fld (hc 3 _ rfl), cell_fld (hc 4 _ rfl), hcond⟩
theorem eqlTx (x y : Tx) (w : World) : (binOp .eql 24 (.agg #[.int .i64 x.frm, .int .i64 x.to, .int .i64 x.amount, .int .i64 x.nonce, .string x.sig]) (.agg #[.int .i64 y.frm, .int .i64 y.to, .int .i64 y.amount, .int .i64 y.nonce, .string y.sig])).run Try.prog w = .ok (.bool (decide (x = y))) w := by
  have e : ((x.frm == y.frm) && ((x.to == y.to) && ((x.amount == y.amount) && ((x.nonce == y.nonce) && ((x.sig.toList == y.sig.toList) && true))))) = decide (x = y) := by
    cases x; cases y
    simp only [bytes_beq, Tx.mk.injEq, Bool.and_true, Bool.decide_and]
    try simp only [← Int.beq_eq_decide_eq, ← Bool.beq_eq_decide_eq]
    try rfl
  rw [← e]
  exact eql_of Try.underlying24 (by kernel_rfl) (eqf_cons (by rfl) (by go_simp; rfl) (by go_simp; rfl) (by go_simp) (eqf_cons (by rfl) (by go_simp; rfl) (by go_simp; rfl) (by go_simp) (eqf_cons (by rfl) (by go_simp; rfl) (by go_simp; rfl) (by go_simp) (eqf_cons (by rfl) (by go_simp; rfl) (by go_simp; rfl) (by go_simp) (eqf_cons (by rfl) (by go_simp; rfl) (by go_simp; rfl) (by go_simp) eqf_nil)))))
theorem neqTx (x y : Tx) (w : World) : (binOp .neq 24 (.agg #[.int .i64 x.frm, .int .i64 x.to, .int .i64 x.amount, .int .i64 x.nonce, .string x.sig]) (.agg #[.int .i64 y.frm, .int .i64 y.to, .int .i64 y.amount, .int .i64 y.nonce, .string y.sig])).run Try.prog w = .ok (.bool (!decide (x = y))) w := by
  have e : ((x.frm == y.frm) && ((x.to == y.to) && ((x.amount == y.amount) && ((x.nonce == y.nonce) && ((x.sig.toList == y.sig.toList) && true))))) = decide (x = y) := by
    cases x; cases y
    simp only [bytes_beq, Tx.mk.injEq, Bool.and_true, Bool.decide_and]
    try simp only [← Int.beq_eq_decide_eq, ← Bool.beq_eq_decide_eq]
    try rfl
  rw [← e]
  exact neq_of Try.underlying24 (by kernel_rfl) (eqf_cons (by rfl) (by go_simp; rfl) (by go_simp; rfl) (by go_simp) (eqf_cons (by rfl) (by go_simp; rfl) (by go_simp; rfl) (by go_simp) (eqf_cons (by rfl) (by go_simp; rfl) (by go_simp; rfl) (by go_simp) (eqf_cons (by rfl) (by go_simp; rfl) (by go_simp; rfl) (by go_simp) (eqf_cons (by rfl) (by go_simp; rfl) (by go_simp; rfl) (by go_simp) eqf_nil)))))
theorem opensTx : Opens Try.prog kTx 24 := by
  exact opens_struct (g' := fun p => ⟨p.1, p.2.1, p.2.2.1, p.2.2.2.1, p.2.2.2.2⟩) (fun _ => rfl) Try.underlying24 (by kernel_rfl) (opensF_cons rfl (by kernel_rfl) (opens_int Try.underlying3) (opensF_cons rfl (by kernel_rfl) (opens_int Try.underlying3) (opensF_cons rfl (by kernel_rfl) (opens_int Try.underlying3) (opensF_cons rfl (by kernel_rfl) (opens_int Try.underlying3) (opensF_one rfl (by kernel_rfl) (opens_str Try.underlying9))))))
structure Block where
  view : Int
  height : Int
  parent : ByteArray
  justify : Cert
  txs : List Tx
  sig : ByteArray
  deriving DecidableEq, Inhabited
def kBlock : Kd Block := Kd.iso (Kd.pair Kd.int (Kd.pair Kd.int (Kd.pair Kd.str (Kd.pair kCert (Kd.pair (Kd.slice 24 kTx) Kd.str))))) (fun x : Block => (x.view, (x.height, (x.parent, (x.justify, (x.txs, x.sig))))))
theorem kBlock_open {B : Nat} {w : World} {x : Block} {cs : List Value} (h : kBlock.K B w x cs) : ∃ (A6 : Option Addr) (c6 : Nat), ∃ (A7 : Option Addr) (c7 : Nat), cs = [.int .i64 x.view, .int .i64 x.height, .string x.parent, .int .i64 x.justify.view, .int .i64 x.justify.height, .string x.justify.block, .slice A6 x.justify.votes.length c6, .slice A7 x.txs.length c7, .string x.sig] ∧ IntOk x.view ∧ IntOk x.height ∧ x.parent.size ≤ 140737488351232 ∧ IntOk x.justify.view ∧ IntOk x.justify.height ∧ x.justify.block.size ≤ 140737488351232 ∧ x.justify.votes.length ≤ c6 ∧ c6 ≤ maxLen ∧ Kd.Row kVote 147 B w A6 x.justify.votes ∧ x.txs.length ≤ c7 ∧ c7 ≤ maxLen ∧ Kd.Row kTx 24 B w A7 x.txs ∧ x.sig.size ≤ 140737488351232 := by
  obtain ⟨_, _, rfl, ⟨rfl, h0⟩, ⟨_, _, rfl, ⟨rfl, h1⟩, ⟨_, _, rfl, ⟨rfl, h2⟩, ⟨_, _, rfl, ⟨_, _, rfl, ⟨rfl, h3⟩, ⟨_, _, rfl, ⟨rfl, h4⟩, ⟨_, _, rfl, ⟨rfl, h5⟩, ⟨A6, c6, rfl, hl6, hm6, hr6⟩⟩⟩⟩, ⟨_, _, rfl, ⟨A7, c7, rfl, hl7, hm7, hr7⟩, ⟨rfl, h8⟩⟩⟩⟩⟩⟩ := h
  exact ⟨A6, c6, A7, c7, rfl, h0, h1, h2, h3, h4, h5, hl6, hm6, hr6, hl7, hm7, hr7, h8⟩
theorem kBlock_mk {B : Nat} {w : World} (x : Block) (h0 : IntOk x.view) (h1 : IntOk x.height) (h2 : x.parent.size ≤ 140737488351232) (h3 : IntOk x.justify.view) (h4 : IntOk x.justify.height) (h5 : x.justify.block.size ≤ 140737488351232) {A6 : Option Addr} {c6 : Nat} (hl6 : x.justify.votes.length ≤ c6) (hm6 : c6 ≤ maxLen) (hr6 : Kd.Row kVote 147 B w A6 x.justify.votes) {A7 : Option Addr} {c7 : Nat} (hl7 : x.txs.length ≤ c7) (hm7 : c7 ≤ maxLen) (hr7 : Kd.Row kTx 24 B w A7 x.txs) (h8 : x.sig.size ≤ 140737488351232) : kBlock.K B w x [.int .i64 x.view, .int .i64 x.height, .string x.parent, .int .i64 x.justify.view, .int .i64 x.justify.height, .string x.justify.block, .slice A6 x.justify.votes.length c6, .slice A7 x.txs.length c7, .string x.sig] :=
  ⟨_, _, rfl, ⟨rfl, h0⟩, ⟨_, _, rfl, ⟨rfl, h1⟩, ⟨_, _, rfl, ⟨rfl, h2⟩, ⟨_, _, rfl, ⟨_, _, rfl, ⟨rfl, h3⟩, ⟨_, _, rfl, ⟨rfl, h4⟩, ⟨_, _, rfl, ⟨rfl, h5⟩, ⟨A6, c6, rfl, hl6, hm6, hr6⟩⟩⟩⟩, ⟨_, _, rfl, ⟨A7, c7, rfl, hl7, hm7, hr7⟩, ⟨rfl, h8⟩⟩⟩⟩⟩⟩
theorem kBlock_at {B e : Nat} {w : World} {A : Option Addr} {xs : List Block} (h : Kd.Row kBlock e B w A xs) {i : Nat} {x : Block} (hx : xs[i]? = some x) : ∃ ad, A = some ad ∧ ∃ (A6 : Option Addr) (c6 : Nat), ∃ (A7 : Option Addr) (c7 : Nat), w.cell? (ad.add (i * 9)) = some (.int .i64 x.view) ∧ w.cell? ⟨(ad.add (i * 9)).block, (ad.add (i * 9)).off + 1, none⟩ = some (.int .i64 x.height) ∧ w.cell? ⟨(ad.add (i * 9)).block, (ad.add (i * 9)).off + 2, none⟩ = some (.string x.parent) ∧ w.cell? ⟨(ad.add (i * 9)).block, (ad.add (i * 9)).off + 3, none⟩ = some (.int .i64 x.justify.view) ∧ w.cell? ⟨(ad.add (i * 9)).block, (ad.add (i * 9)).off + 4, none⟩ = some (.int .i64 x.justify.height) ∧ w.cell? ⟨(ad.add (i * 9)).block, (ad.add (i * 9)).off + 5, none⟩ = some (.string x.justify.block) ∧ w.cell? ⟨(ad.add (i * 9)).block, (ad.add (i * 9)).off + 6, none⟩ = some (.slice A6 x.justify.votes.length c6) ∧ w.cell? ⟨(ad.add (i * 9)).block, (ad.add (i * 9)).off + 7, none⟩ = some (.slice A7 x.txs.length c7) ∧ w.cell? ⟨(ad.add (i * 9)).block, (ad.add (i * 9)).off + 8, none⟩ = some (.string x.sig) ∧ IntOk x.view ∧ IntOk x.height ∧ x.parent.size ≤ 140737488351232 ∧ IntOk x.justify.view ∧ IntOk x.justify.height ∧ x.justify.block.size ≤ 140737488351232 ∧ x.justify.votes.length ≤ c6 ∧ c6 ≤ maxLen ∧ Kd.Row kVote 147 B w A6 x.justify.votes ∧ x.txs.length ≤ c7 ∧ c7 ≤ maxLen ∧ Kd.Row kTx 24 B w A7 x.txs ∧ x.sig.size ≤ 140737488351232 := by
  obtain ⟨ad, cs, rfl, _, hK, hc⟩ := Kd.row_at h hx
  obtain ⟨A6, c6, A7, c7, rfl, hcond⟩ := kBlock_open hK
  exact ⟨ad, rfl, A6, c6, A7, c7, hc 0 _ rfl, cell_fld (hc 1 _ rfl), cell_fld (hc 2 _ rfl), cell_fld (hc 3 _ rfl), cell_fld (hc 4 _ rfl), cell_fld (hc 5 _ rfl), cell_fld (hc 6 _ rfl), cell_fld (hc 7 _ rfl), cell_fld (hc 8 _ rfl), hcond⟩
theorem opensBlock : Opens Try.prog kBlock 79 := by
  exact opens_struct (g' := fun p => ⟨p.1, p.2.1, p.2.2.1, p.2.2.2.1, p.2.2.2.2.1, p.2.2.2.2.2⟩) (fun _ => rfl) Try.underlying79 (by kernel_rfl) (opensF_cons rfl (by kernel_rfl) (opens_int Try.underlying3) (opensF_cons rfl (by kernel_rfl) (opens_int Try.underlying3) (opensF_cons rfl (by kernel_rfl) (opens_str Try.underlying9) (opensF_cons rfl (by kernel_rfl) opensCert (opensF_cons rfl (by kernel_rfl) (opens_slice Try.underlying26 (by kernel_rfl) (by decide) opensTx) (opensF_one rfl (by kernel_rfl) (opens_str Try.underlying9)))))))
structure Account where
  balance : Int
  nonce : Int
  deriving DecidableEq, Inhabited
def kAccount : Kd Account := Kd.iso (Kd.pair Kd.int Kd.int) (fun x : Account => (x.balance, x.nonce))
theorem kAccount_open {B : Nat} {w : World} {x : Account} {cs : List Value} (h : kAccount.K B w x cs) : cs = [.int .i64 x.balance, .int .i64 x.nonce] ∧ IntOk x.balance ∧ IntOk x.nonce := by
  obtain ⟨_, _, rfl, ⟨rfl, h0⟩, ⟨rfl, h1⟩⟩ := h
  exact ⟨rfl, h0, h1⟩
theorem kAccount_mk {B : Nat} {w : World} (x : Account) (h0 : IntOk x.balance) (h1 : IntOk x.nonce) : kAccount.K B w x [.int .i64 x.balance, .int .i64 x.nonce] :=
  ⟨_, _, rfl, ⟨rfl, h0⟩, ⟨rfl, h1⟩⟩
theorem kAccount_at {B e : Nat} {w : World} {A : Option Addr} {xs : List Account} (h : Kd.Row kAccount e B w A xs) {i : Nat} {x : Account} (hx : xs[i]? = some x) : ∃ ad, A = some ad ∧ w.cell? (ad.add (i * 2)) = some (.int .i64 x.balance) ∧ w.cell? ⟨(ad.add (i * 2)).block, (ad.add (i * 2)).off + 1, none⟩ = some (.int .i64 x.nonce) ∧ IntOk x.balance ∧ IntOk x.nonce := by
  obtain ⟨ad, cs, rfl, _, hK, hc⟩ := Kd.row_at h hx
  obtain ⟨rfl, hcond⟩ := kAccount_open hK
  exact ⟨ad, rfl, hc 0 _ rfl, cell_fld (hc 1 _ rfl), hcond⟩
theorem eqlAccount (x y : Account) (w : World) : (binOp .eql 69 (.agg #[.int .i64 x.balance, .int .i64 x.nonce]) (.agg #[.int .i64 y.balance, .int .i64 y.nonce])).run Try.prog w = .ok (.bool (decide (x = y))) w := by
  have e : ((x.balance == y.balance) && ((x.nonce == y.nonce) && true)) = decide (x = y) := by
    cases x; cases y
    simp only [Account.mk.injEq, Bool.and_true, Bool.decide_and]
    try simp only [← Int.beq_eq_decide_eq, ← Bool.beq_eq_decide_eq]
    try rfl
  rw [← e]
  exact eql_of Try.underlying69 (by kernel_rfl) (eqf_cons (by rfl) (by go_simp; rfl) (by go_simp; rfl) (by go_simp) (eqf_cons (by rfl) (by go_simp; rfl) (by go_simp; rfl) (by go_simp) eqf_nil))
theorem neqAccount (x y : Account) (w : World) : (binOp .neq 69 (.agg #[.int .i64 x.balance, .int .i64 x.nonce]) (.agg #[.int .i64 y.balance, .int .i64 y.nonce])).run Try.prog w = .ok (.bool (!decide (x = y))) w := by
  have e : ((x.balance == y.balance) && ((x.nonce == y.nonce) && true)) = decide (x = y) := by
    cases x; cases y
    simp only [Account.mk.injEq, Bool.and_true, Bool.decide_and]
    try simp only [← Int.beq_eq_decide_eq, ← Bool.beq_eq_decide_eq]
    try rfl
  rw [← e]
  exact neq_of Try.underlying69 (by kernel_rfl) (eqf_cons (by rfl) (by go_simp; rfl) (by go_simp; rfl) (by go_simp) (eqf_cons (by rfl) (by go_simp; rfl) (by go_simp; rfl) (by go_simp) eqf_nil))
theorem opensAccount : Opens Try.prog kAccount 69 := by
  exact opens_struct (g' := fun p => ⟨p.1, p.2⟩) (fun _ => rfl) Try.underlying69 (by kernel_rfl) (opensF_cons rfl (by kernel_rfl) (opens_int Try.underlying3) (opensF_one rfl (by kernel_rfl) (opens_int Try.underlying3)))
structure Trace where
  frm : Int
  to : Int
  sent : Int
  got : Int
  deriving DecidableEq, Inhabited
def kTrace : Kd Trace := Kd.iso (Kd.pair Kd.int (Kd.pair Kd.int (Kd.pair Kd.int Kd.int))) (fun x : Trace => (x.frm, (x.to, (x.sent, x.got))))
theorem kTrace_open {B : Nat} {w : World} {x : Trace} {cs : List Value} (h : kTrace.K B w x cs) : cs = [.int .i64 x.frm, .int .i64 x.to, .int .i64 x.sent, .int .i64 x.got] ∧ IntOk x.frm ∧ IntOk x.to ∧ IntOk x.sent ∧ IntOk x.got := by
  obtain ⟨_, _, rfl, ⟨rfl, h0⟩, ⟨_, _, rfl, ⟨rfl, h1⟩, ⟨_, _, rfl, ⟨rfl, h2⟩, ⟨rfl, h3⟩⟩⟩⟩ := h
  exact ⟨rfl, h0, h1, h2, h3⟩
theorem kTrace_mk {B : Nat} {w : World} (x : Trace) (h0 : IntOk x.frm) (h1 : IntOk x.to) (h2 : IntOk x.sent) (h3 : IntOk x.got) : kTrace.K B w x [.int .i64 x.frm, .int .i64 x.to, .int .i64 x.sent, .int .i64 x.got] :=
  ⟨_, _, rfl, ⟨rfl, h0⟩, ⟨_, _, rfl, ⟨rfl, h1⟩, ⟨_, _, rfl, ⟨rfl, h2⟩, ⟨rfl, h3⟩⟩⟩⟩
theorem kTrace_at {B e : Nat} {w : World} {A : Option Addr} {xs : List Trace} (h : Kd.Row kTrace e B w A xs) {i : Nat} {x : Trace} (hx : xs[i]? = some x) : ∃ ad, A = some ad ∧ w.cell? (ad.add (i * 4)) = some (.int .i64 x.frm) ∧ w.cell? ⟨(ad.add (i * 4)).block, (ad.add (i * 4)).off + 1, none⟩ = some (.int .i64 x.to) ∧ w.cell? ⟨(ad.add (i * 4)).block, (ad.add (i * 4)).off + 2, none⟩ = some (.int .i64 x.sent) ∧ w.cell? ⟨(ad.add (i * 4)).block, (ad.add (i * 4)).off + 3, none⟩ = some (.int .i64 x.got) ∧ IntOk x.frm ∧ IntOk x.to ∧ IntOk x.sent ∧ IntOk x.got := by
  obtain ⟨ad, cs, rfl, _, hK, hc⟩ := Kd.row_at h hx
  obtain ⟨rfl, hcond⟩ := kTrace_open hK
  exact ⟨ad, rfl, hc 0 _ rfl, cell_fld (hc 1 _ rfl), cell_fld (hc 2 _ rfl), cell_fld (hc 3 _ rfl), hcond⟩
theorem eqlTrace (x y : Trace) (w : World) : (binOp .eql 47 (.agg #[.int .i64 x.frm, .int .i64 x.to, .int .i64 x.sent, .int .i64 x.got]) (.agg #[.int .i64 y.frm, .int .i64 y.to, .int .i64 y.sent, .int .i64 y.got])).run Try.prog w = .ok (.bool (decide (x = y))) w := by
  have e : ((x.frm == y.frm) && ((x.to == y.to) && ((x.sent == y.sent) && ((x.got == y.got) && true)))) = decide (x = y) := by
    cases x; cases y
    simp only [Trace.mk.injEq, Bool.and_true, Bool.decide_and]
    try simp only [← Int.beq_eq_decide_eq, ← Bool.beq_eq_decide_eq]
    try rfl
  rw [← e]
  exact eql_of Try.underlying47 (by kernel_rfl) (eqf_cons (by rfl) (by go_simp; rfl) (by go_simp; rfl) (by go_simp) (eqf_cons (by rfl) (by go_simp; rfl) (by go_simp; rfl) (by go_simp) (eqf_cons (by rfl) (by go_simp; rfl) (by go_simp; rfl) (by go_simp) (eqf_cons (by rfl) (by go_simp; rfl) (by go_simp; rfl) (by go_simp) eqf_nil))))
theorem neqTrace (x y : Trace) (w : World) : (binOp .neq 47 (.agg #[.int .i64 x.frm, .int .i64 x.to, .int .i64 x.sent, .int .i64 x.got]) (.agg #[.int .i64 y.frm, .int .i64 y.to, .int .i64 y.sent, .int .i64 y.got])).run Try.prog w = .ok (.bool (!decide (x = y))) w := by
  have e : ((x.frm == y.frm) && ((x.to == y.to) && ((x.sent == y.sent) && ((x.got == y.got) && true)))) = decide (x = y) := by
    cases x; cases y
    simp only [Trace.mk.injEq, Bool.and_true, Bool.decide_and]
    try simp only [← Int.beq_eq_decide_eq, ← Bool.beq_eq_decide_eq]
    try rfl
  rw [← e]
  exact neq_of Try.underlying47 (by kernel_rfl) (eqf_cons (by rfl) (by go_simp; rfl) (by go_simp; rfl) (by go_simp) (eqf_cons (by rfl) (by go_simp; rfl) (by go_simp; rfl) (by go_simp) (eqf_cons (by rfl) (by go_simp; rfl) (by go_simp; rfl) (by go_simp) (eqf_cons (by rfl) (by go_simp; rfl) (by go_simp; rfl) (by go_simp) eqf_nil))))
theorem opensTrace : Opens Try.prog kTrace 47 := by
  exact opens_struct (g' := fun p => ⟨p.1, p.2.1, p.2.2.1, p.2.2.2⟩) (fun _ => rfl) Try.underlying47 (by kernel_rfl) (opensF_cons rfl (by kernel_rfl) (opens_int Try.underlying3) (opensF_cons rfl (by kernel_rfl) (opens_int Try.underlying3) (opensF_cons rfl (by kernel_rfl) (opens_int Try.underlying3) (opensF_one rfl (by kernel_rfl) (opens_int Try.underlying3)))))
structure Stat where
  sent : Int
  got : Int
  lost : Int
  most : Int
  sum : Int
  deriving DecidableEq, Inhabited
def kStat : Kd Stat := Kd.iso (Kd.pair Kd.int (Kd.pair Kd.int (Kd.pair Kd.int (Kd.pair Kd.int Kd.int)))) (fun x : Stat => (x.sent, (x.got, (x.lost, (x.most, x.sum)))))
theorem kStat_open {B : Nat} {w : World} {x : Stat} {cs : List Value} (h : kStat.K B w x cs) : cs = [.int .i64 x.sent, .int .i64 x.got, .int .i64 x.lost, .int .i64 x.most, .int .i64 x.sum] ∧ IntOk x.sent ∧ IntOk x.got ∧ IntOk x.lost ∧ IntOk x.most ∧ IntOk x.sum := by
  obtain ⟨_, _, rfl, ⟨rfl, h0⟩, ⟨_, _, rfl, ⟨rfl, h1⟩, ⟨_, _, rfl, ⟨rfl, h2⟩, ⟨_, _, rfl, ⟨rfl, h3⟩, ⟨rfl, h4⟩⟩⟩⟩⟩ := h
  exact ⟨rfl, h0, h1, h2, h3, h4⟩
theorem kStat_mk {B : Nat} {w : World} (x : Stat) (h0 : IntOk x.sent) (h1 : IntOk x.got) (h2 : IntOk x.lost) (h3 : IntOk x.most) (h4 : IntOk x.sum) : kStat.K B w x [.int .i64 x.sent, .int .i64 x.got, .int .i64 x.lost, .int .i64 x.most, .int .i64 x.sum] :=
  ⟨_, _, rfl, ⟨rfl, h0⟩, ⟨_, _, rfl, ⟨rfl, h1⟩, ⟨_, _, rfl, ⟨rfl, h2⟩, ⟨_, _, rfl, ⟨rfl, h3⟩, ⟨rfl, h4⟩⟩⟩⟩⟩
theorem kStat_at {B e : Nat} {w : World} {A : Option Addr} {xs : List Stat} (h : Kd.Row kStat e B w A xs) {i : Nat} {x : Stat} (hx : xs[i]? = some x) : ∃ ad, A = some ad ∧ w.cell? (ad.add (i * 5)) = some (.int .i64 x.sent) ∧ w.cell? ⟨(ad.add (i * 5)).block, (ad.add (i * 5)).off + 1, none⟩ = some (.int .i64 x.got) ∧ w.cell? ⟨(ad.add (i * 5)).block, (ad.add (i * 5)).off + 2, none⟩ = some (.int .i64 x.lost) ∧ w.cell? ⟨(ad.add (i * 5)).block, (ad.add (i * 5)).off + 3, none⟩ = some (.int .i64 x.most) ∧ w.cell? ⟨(ad.add (i * 5)).block, (ad.add (i * 5)).off + 4, none⟩ = some (.int .i64 x.sum) ∧ IntOk x.sent ∧ IntOk x.got ∧ IntOk x.lost ∧ IntOk x.most ∧ IntOk x.sum := by
  obtain ⟨ad, cs, rfl, _, hK, hc⟩ := Kd.row_at h hx
  obtain ⟨rfl, hcond⟩ := kStat_open hK
  exact ⟨ad, rfl, hc 0 _ rfl, cell_fld (hc 1 _ rfl), cell_fld (hc 2 _ rfl), cell_fld (hc 3 _ rfl), cell_fld (hc 4 _ rfl), hcond⟩
theorem eqlStat (x y : Stat) (w : World) : (binOp .eql 45 (.agg #[.int .i64 x.sent, .int .i64 x.got, .int .i64 x.lost, .int .i64 x.most, .int .i64 x.sum]) (.agg #[.int .i64 y.sent, .int .i64 y.got, .int .i64 y.lost, .int .i64 y.most, .int .i64 y.sum])).run Try.prog w = .ok (.bool (decide (x = y))) w := by
  have e : ((x.sent == y.sent) && ((x.got == y.got) && ((x.lost == y.lost) && ((x.most == y.most) && ((x.sum == y.sum) && true))))) = decide (x = y) := by
    cases x; cases y
    simp only [Stat.mk.injEq, Bool.and_true, Bool.decide_and]
    try simp only [← Int.beq_eq_decide_eq, ← Bool.beq_eq_decide_eq]
    try rfl
  rw [← e]
  exact eql_of Try.underlying45 (by kernel_rfl) (eqf_cons (by rfl) (by go_simp; rfl) (by go_simp; rfl) (by go_simp) (eqf_cons (by rfl) (by go_simp; rfl) (by go_simp; rfl) (by go_simp) (eqf_cons (by rfl) (by go_simp; rfl) (by go_simp; rfl) (by go_simp) (eqf_cons (by rfl) (by go_simp; rfl) (by go_simp; rfl) (by go_simp) (eqf_cons (by rfl) (by go_simp; rfl) (by go_simp; rfl) (by go_simp) eqf_nil)))))
theorem neqStat (x y : Stat) (w : World) : (binOp .neq 45 (.agg #[.int .i64 x.sent, .int .i64 x.got, .int .i64 x.lost, .int .i64 x.most, .int .i64 x.sum]) (.agg #[.int .i64 y.sent, .int .i64 y.got, .int .i64 y.lost, .int .i64 y.most, .int .i64 y.sum])).run Try.prog w = .ok (.bool (!decide (x = y))) w := by
  have e : ((x.sent == y.sent) && ((x.got == y.got) && ((x.lost == y.lost) && ((x.most == y.most) && ((x.sum == y.sum) && true))))) = decide (x = y) := by
    cases x; cases y
    simp only [Stat.mk.injEq, Bool.and_true, Bool.decide_and]
    try simp only [← Int.beq_eq_decide_eq, ← Bool.beq_eq_decide_eq]
    try rfl
  rw [← e]
  exact neq_of Try.underlying45 (by kernel_rfl) (eqf_cons (by rfl) (by go_simp; rfl) (by go_simp; rfl) (by go_simp) (eqf_cons (by rfl) (by go_simp; rfl) (by go_simp; rfl) (by go_simp) (eqf_cons (by rfl) (by go_simp; rfl) (by go_simp; rfl) (by go_simp) (eqf_cons (by rfl) (by go_simp; rfl) (by go_simp; rfl) (by go_simp) (eqf_cons (by rfl) (by go_simp; rfl) (by go_simp; rfl) (by go_simp) eqf_nil)))))
theorem opensStat : Opens Try.prog kStat 45 := by
  exact opens_struct (g' := fun p => ⟨p.1, p.2.1, p.2.2.1, p.2.2.2.1, p.2.2.2.2⟩) (fun _ => rfl) Try.underlying45 (by kernel_rfl) (opensF_cons rfl (by kernel_rfl) (opens_int Try.underlying3) (opensF_cons rfl (by kernel_rfl) (opens_int Try.underlying3) (opensF_cons rfl (by kernel_rfl) (opens_int Try.underlying3) (opensF_cons rfl (by kernel_rfl) (opens_int Try.underlying3) (opensF_one rfl (by kernel_rfl) (opens_int Try.underlying3))))))
structure Step where
  kind : Int
  a : Int
  b : Int
  c : Int
  d : Int
  data : List UInt8
  deriving DecidableEq, Inhabited
def kStep : Kd Step := Kd.iso (Kd.pair Kd.int (Kd.pair Kd.int (Kd.pair Kd.int (Kd.pair Kd.int (Kd.pair Kd.int (Kd.slice 5 Kd.u8)))))) (fun x : Step => (x.kind, (x.a, (x.b, (x.c, (x.d, x.data))))))
theorem kStep_open {B : Nat} {w : World} {x : Step} {cs : List Value} (h : kStep.K B w x cs) : ∃ (A5 : Option Addr) (c5 : Nat), cs = [.int .i64 x.kind, .int .i64 x.a, .int .i64 x.b, .int .i64 x.c, .int .i64 x.d, .slice A5 x.data.length c5] ∧ IntOk x.kind ∧ IntOk x.a ∧ IntOk x.b ∧ IntOk x.c ∧ IntOk x.d ∧ x.data.length ≤ c5 ∧ c5 ≤ maxLen ∧ Kd.Row Kd.u8 5 B w A5 x.data := by
  obtain ⟨_, _, rfl, ⟨rfl, h0⟩, ⟨_, _, rfl, ⟨rfl, h1⟩, ⟨_, _, rfl, ⟨rfl, h2⟩, ⟨_, _, rfl, ⟨rfl, h3⟩, ⟨_, _, rfl, ⟨rfl, h4⟩, ⟨A5, c5, rfl, hl5, hm5, hr5⟩⟩⟩⟩⟩⟩ := h
  exact ⟨A5, c5, rfl, h0, h1, h2, h3, h4, hl5, hm5, hr5⟩
theorem kStep_mk {B : Nat} {w : World} (x : Step) (h0 : IntOk x.kind) (h1 : IntOk x.a) (h2 : IntOk x.b) (h3 : IntOk x.c) (h4 : IntOk x.d) {A5 : Option Addr} {c5 : Nat} (hl5 : x.data.length ≤ c5) (hm5 : c5 ≤ maxLen) (hr5 : Kd.Row Kd.u8 5 B w A5 x.data) : kStep.K B w x [.int .i64 x.kind, .int .i64 x.a, .int .i64 x.b, .int .i64 x.c, .int .i64 x.d, .slice A5 x.data.length c5] :=
  ⟨_, _, rfl, ⟨rfl, h0⟩, ⟨_, _, rfl, ⟨rfl, h1⟩, ⟨_, _, rfl, ⟨rfl, h2⟩, ⟨_, _, rfl, ⟨rfl, h3⟩, ⟨_, _, rfl, ⟨rfl, h4⟩, ⟨A5, c5, rfl, hl5, hm5, hr5⟩⟩⟩⟩⟩⟩
theorem kStep_at {B e : Nat} {w : World} {A : Option Addr} {xs : List Step} (h : Kd.Row kStep e B w A xs) {i : Nat} {x : Step} (hx : xs[i]? = some x) : ∃ ad, A = some ad ∧ ∃ (A5 : Option Addr) (c5 : Nat), w.cell? (ad.add (i * 6)) = some (.int .i64 x.kind) ∧ w.cell? ⟨(ad.add (i * 6)).block, (ad.add (i * 6)).off + 1, none⟩ = some (.int .i64 x.a) ∧ w.cell? ⟨(ad.add (i * 6)).block, (ad.add (i * 6)).off + 2, none⟩ = some (.int .i64 x.b) ∧ w.cell? ⟨(ad.add (i * 6)).block, (ad.add (i * 6)).off + 3, none⟩ = some (.int .i64 x.c) ∧ w.cell? ⟨(ad.add (i * 6)).block, (ad.add (i * 6)).off + 4, none⟩ = some (.int .i64 x.d) ∧ w.cell? ⟨(ad.add (i * 6)).block, (ad.add (i * 6)).off + 5, none⟩ = some (.slice A5 x.data.length c5) ∧ IntOk x.kind ∧ IntOk x.a ∧ IntOk x.b ∧ IntOk x.c ∧ IntOk x.d ∧ x.data.length ≤ c5 ∧ c5 ≤ maxLen ∧ Kd.Row Kd.u8 5 B w A5 x.data := by
  obtain ⟨ad, cs, rfl, _, hK, hc⟩ := Kd.row_at h hx
  obtain ⟨A5, c5, rfl, hcond⟩ := kStep_open hK
  exact ⟨ad, rfl, A5, c5, hc 0 _ rfl, cell_fld (hc 1 _ rfl), cell_fld (hc 2 _ rfl), cell_fld (hc 3 _ rfl), cell_fld (hc 4 _ rfl), cell_fld (hc 5 _ rfl), hcond⟩
theorem opensStep : Opens Try.prog kStep 66 := by
  exact opens_struct (g' := fun p => ⟨p.1, p.2.1, p.2.2.1, p.2.2.2.1, p.2.2.2.2.1, p.2.2.2.2.2⟩) (fun _ => rfl) Try.underlying66 (by kernel_rfl) (opensF_cons rfl (by kernel_rfl) (opens_int Try.underlying3) (opensF_cons rfl (by kernel_rfl) (opens_int Try.underlying3) (opensF_cons rfl (by kernel_rfl) (opens_int Try.underlying3) (opensF_cons rfl (by kernel_rfl) (opens_int Try.underlying3) (opensF_cons rfl (by kernel_rfl) (opens_int Try.underlying3) (opensF_one rfl (by kernel_rfl) (opens_slice Try.underlying58 (by kernel_rfl) (by decide) (opens_u8 Try.underlying5))))))))
structure Answer where
  account : Account
  height : Int
  done : Int
  failed : Int
  deriving DecidableEq, Inhabited
def kAnswer : Kd Answer := Kd.iso (Kd.pair kAccount (Kd.pair Kd.int (Kd.pair Kd.int Kd.int))) (fun x : Answer => (x.account, (x.height, (x.done, x.failed))))
theorem kAnswer_open {B : Nat} {w : World} {x : Answer} {cs : List Value} (h : kAnswer.K B w x cs) : cs = [.int .i64 x.account.balance, .int .i64 x.account.nonce, .int .i64 x.height, .int .i64 x.done, .int .i64 x.failed] ∧ IntOk x.account.balance ∧ IntOk x.account.nonce ∧ IntOk x.height ∧ IntOk x.done ∧ IntOk x.failed := by
  obtain ⟨_, _, rfl, ⟨_, _, rfl, ⟨rfl, h0⟩, ⟨rfl, h1⟩⟩, ⟨_, _, rfl, ⟨rfl, h2⟩, ⟨_, _, rfl, ⟨rfl, h3⟩, ⟨rfl, h4⟩⟩⟩⟩ := h
  exact ⟨rfl, h0, h1, h2, h3, h4⟩
theorem kAnswer_mk {B : Nat} {w : World} (x : Answer) (h0 : IntOk x.account.balance) (h1 : IntOk x.account.nonce) (h2 : IntOk x.height) (h3 : IntOk x.done) (h4 : IntOk x.failed) : kAnswer.K B w x [.int .i64 x.account.balance, .int .i64 x.account.nonce, .int .i64 x.height, .int .i64 x.done, .int .i64 x.failed] :=
  ⟨_, _, rfl, ⟨_, _, rfl, ⟨rfl, h0⟩, ⟨rfl, h1⟩⟩, ⟨_, _, rfl, ⟨rfl, h2⟩, ⟨_, _, rfl, ⟨rfl, h3⟩, ⟨rfl, h4⟩⟩⟩⟩
theorem kAnswer_at {B e : Nat} {w : World} {A : Option Addr} {xs : List Answer} (h : Kd.Row kAnswer e B w A xs) {i : Nat} {x : Answer} (hx : xs[i]? = some x) : ∃ ad, A = some ad ∧ w.cell? (ad.add (i * 5)) = some (.int .i64 x.account.balance) ∧ w.cell? ⟨(ad.add (i * 5)).block, (ad.add (i * 5)).off + 1, none⟩ = some (.int .i64 x.account.nonce) ∧ w.cell? ⟨(ad.add (i * 5)).block, (ad.add (i * 5)).off + 2, none⟩ = some (.int .i64 x.height) ∧ w.cell? ⟨(ad.add (i * 5)).block, (ad.add (i * 5)).off + 3, none⟩ = some (.int .i64 x.done) ∧ w.cell? ⟨(ad.add (i * 5)).block, (ad.add (i * 5)).off + 4, none⟩ = some (.int .i64 x.failed) ∧ IntOk x.account.balance ∧ IntOk x.account.nonce ∧ IntOk x.height ∧ IntOk x.done ∧ IntOk x.failed := by
  obtain ⟨ad, cs, rfl, _, hK, hc⟩ := Kd.row_at h hx
  obtain ⟨rfl, hcond⟩ := kAnswer_open hK
  exact ⟨ad, rfl, hc 0 _ rfl, cell_fld (hc 1 _ rfl), cell_fld (hc 2 _ rfl), cell_fld (hc 3 _ rfl), cell_fld (hc 4 _ rfl), hcond⟩
theorem opensAnswer : Opens Try.prog kAnswer 71 := by
  exact opens_struct (g' := fun p => ⟨p.1, p.2.1, p.2.2.1, p.2.2.2⟩) (fun _ => rfl) Try.underlying71 (by kernel_rfl) (opensF_cons rfl (by kernel_rfl) opensAccount (opensF_cons rfl (by kernel_rfl) (opens_int Try.underlying3) (opensF_cons rfl (by kernel_rfl) (opens_int Try.underlying3) (opensF_one rfl (by kernel_rfl) (opens_int Try.underlying3)))))
structure Entry where
  tx : Tx
  height : Int
  e : Int
  deriving DecidableEq, Inhabited
def kEntry : Kd Entry := Kd.iso (Kd.pair kTx (Kd.pair Kd.int Kd.int)) (fun x : Entry => (x.tx, (x.height, x.e)))
theorem kEntry_open {B : Nat} {w : World} {x : Entry} {cs : List Value} (h : kEntry.K B w x cs) : cs = [.int .i64 x.tx.frm, .int .i64 x.tx.to, .int .i64 x.tx.amount, .int .i64 x.tx.nonce, .string x.tx.sig, .int .i64 x.height, .int .i64 x.e] ∧ IntOk x.tx.frm ∧ IntOk x.tx.to ∧ IntOk x.tx.amount ∧ IntOk x.tx.nonce ∧ x.tx.sig.size ≤ 140737488351232 ∧ IntOk x.height ∧ IntOk x.e := by
  obtain ⟨_, _, rfl, ⟨_, _, rfl, ⟨rfl, h0⟩, ⟨_, _, rfl, ⟨rfl, h1⟩, ⟨_, _, rfl, ⟨rfl, h2⟩, ⟨_, _, rfl, ⟨rfl, h3⟩, ⟨rfl, h4⟩⟩⟩⟩⟩, ⟨_, _, rfl, ⟨rfl, h5⟩, ⟨rfl, h6⟩⟩⟩ := h
  exact ⟨rfl, h0, h1, h2, h3, h4, h5, h6⟩
theorem kEntry_mk {B : Nat} {w : World} (x : Entry) (h0 : IntOk x.tx.frm) (h1 : IntOk x.tx.to) (h2 : IntOk x.tx.amount) (h3 : IntOk x.tx.nonce) (h4 : x.tx.sig.size ≤ 140737488351232) (h5 : IntOk x.height) (h6 : IntOk x.e) : kEntry.K B w x [.int .i64 x.tx.frm, .int .i64 x.tx.to, .int .i64 x.tx.amount, .int .i64 x.tx.nonce, .string x.tx.sig, .int .i64 x.height, .int .i64 x.e] :=
  ⟨_, _, rfl, ⟨_, _, rfl, ⟨rfl, h0⟩, ⟨_, _, rfl, ⟨rfl, h1⟩, ⟨_, _, rfl, ⟨rfl, h2⟩, ⟨_, _, rfl, ⟨rfl, h3⟩, ⟨rfl, h4⟩⟩⟩⟩⟩, ⟨_, _, rfl, ⟨rfl, h5⟩, ⟨rfl, h6⟩⟩⟩
theorem kEntry_at {B e : Nat} {w : World} {A : Option Addr} {xs : List Entry} (h : Kd.Row kEntry e B w A xs) {i : Nat} {x : Entry} (hx : xs[i]? = some x) : ∃ ad, A = some ad ∧ w.cell? (ad.add (i * 7)) = some (.int .i64 x.tx.frm) ∧ w.cell? ⟨(ad.add (i * 7)).block, (ad.add (i * 7)).off + 1, none⟩ = some (.int .i64 x.tx.to) ∧ w.cell? ⟨(ad.add (i * 7)).block, (ad.add (i * 7)).off + 2, none⟩ = some (.int .i64 x.tx.amount) ∧ w.cell? ⟨(ad.add (i * 7)).block, (ad.add (i * 7)).off + 3, none⟩ = some (.int .i64 x.tx.nonce) ∧ w.cell? ⟨(ad.add (i * 7)).block, (ad.add (i * 7)).off + 4, none⟩ = some (.string x.tx.sig) ∧ w.cell? ⟨(ad.add (i * 7)).block, (ad.add (i * 7)).off + 5, none⟩ = some (.int .i64 x.height) ∧ w.cell? ⟨(ad.add (i * 7)).block, (ad.add (i * 7)).off + 6, none⟩ = some (.int .i64 x.e) ∧ IntOk x.tx.frm ∧ IntOk x.tx.to ∧ IntOk x.tx.amount ∧ IntOk x.tx.nonce ∧ x.tx.sig.size ≤ 140737488351232 ∧ IntOk x.height ∧ IntOk x.e := by
  obtain ⟨ad, cs, rfl, _, hK, hc⟩ := Kd.row_at h hx
  obtain ⟨rfl, hcond⟩ := kEntry_open hK
  exact ⟨ad, rfl, hc 0 _ rfl, cell_fld (hc 1 _ rfl), cell_fld (hc 2 _ rfl), cell_fld (hc 3 _ rfl), cell_fld (hc 4 _ rfl), cell_fld (hc 5 _ rfl), cell_fld (hc 6 _ rfl), hcond⟩
theorem opensEntry : Opens Try.prog kEntry 101 := by
  exact opens_struct (g' := fun p => ⟨p.1, p.2.1, p.2.2⟩) (fun _ => rfl) Try.underlying101 (by kernel_rfl) (opensF_cons rfl (by kernel_rfl) opensTx (opensF_cons rfl (by kernel_rfl) (opens_int Try.underlying3) (opensF_one rfl (by kernel_rfl) (opens_int Try.underlying27))))
end Go.Proofs.Ytflfpfaebndefab

