/- The program's structs as Lean's, how they lie in cells, and how they come in. No claim of its own; no condition. Printed by a program of this session. -/
import Derived.Test.YtglneailkgminaaGreatWords
namespace Go.Proofs.YtglneailkgminaaGreat
open Go.ChangeShapes Go.WideShapes Go.ChangeAt Go.RowKit
set_option linter.unusedVariables false
structure Mark where
  view : Int
  height : Int
  block : ByteArray
  deriving DecidableEq, Inhabited
def kMark : Kd Mark := Kd.iso (Kd.pair Kd.int (Kd.pair Kd.int Kd.str)) (fun x : Mark => (x.view, (x.height, x.block)))
theorem kMark_open {B : Nat} {w : World} {x : Mark} {cs : List Value} (h : kMark.K B w x cs) : cs = [.int .i64 x.view, .int .i64 x.height, .string x.block] ∧ IntOk x.view ∧ IntOk x.height ∧ x.block.size ≤ 140737488351232 := by
  obtain ⟨_, _, rfl, ⟨rfl, h0⟩, ⟨_, _, rfl, ⟨rfl, h1⟩, ⟨rfl, h2⟩⟩⟩ := h
  exact ⟨rfl, h0, h1, h2⟩
theorem kMark_mk {B : Nat} {w : World} (x : Mark) (h0 : IntOk x.view) (h1 : IntOk x.height) (h2 : x.block.size ≤ 140737488351232) : kMark.K B w x [.int .i64 x.view, .int .i64 x.height, .string x.block] :=
  ⟨_, _, rfl, ⟨rfl, h0⟩, ⟨_, _, rfl, ⟨rfl, h1⟩, ⟨rfl, h2⟩⟩⟩
theorem kMark_at {B e : Nat} {w : World} {A : Option Addr} {xs : List Mark} (h : Kd.Row kMark e B w A xs) {i : Nat} {x : Mark} (hx : xs[i]? = some x) : ∃ ad, A = some ad ∧ w.cell? (ad.add (i * 3)) = some (.int .i64 x.view) ∧ w.cell? ⟨(ad.add (i * 3)).block, (ad.add (i * 3)).off + 1, none⟩ = some (.int .i64 x.height) ∧ w.cell? ⟨(ad.add (i * 3)).block, (ad.add (i * 3)).off + 2, none⟩ = some (.string x.block) ∧ IntOk x.view ∧ IntOk x.height ∧ x.block.size ≤ 140737488351232 := by
  obtain ⟨ad, cs, rfl, _, hK, hc⟩ := Kd.row_at h hx
  obtain ⟨rfl, hcond⟩ := kMark_open hK
  exact ⟨ad, rfl, hc 0 _ rfl, cell_fld (hc 1 _ rfl), cell_fld (hc 2 _ rfl), hcond⟩
theorem eqlMark (x y : Mark) (w : World) : (binOp .eql 24 (.agg #[.int .i64 x.view, .int .i64 x.height, .string x.block]) (.agg #[.int .i64 y.view, .int .i64 y.height, .string y.block])).run Tryz.prog w = .ok (.bool (decide (x = y))) w := by
  have e : ((x.view == y.view) && ((x.height == y.height) && ((x.block.toList == y.block.toList) && true))) = decide (x = y) := by
    cases x; cases y
    simp only [bytes_beq, Mark.mk.injEq, Bool.and_true, Bool.decide_and]
    try simp only [← Int.beq_eq_decide_eq, ← Bool.beq_eq_decide_eq]
    try rfl
  rw [← e]
  exact eql_of Tryz.underlying24 (by kernel_rfl) (eqf_cons (by rfl) (by go_simp; rfl) (by go_simp; rfl) (by go_simp) (eqf_cons (by rfl) (by go_simp; rfl) (by go_simp; rfl) (by go_simp) (eqf_cons (by rfl) (by go_simp; rfl) (by go_simp; rfl) (by go_simp) eqf_nil)))
theorem neqMark (x y : Mark) (w : World) : (binOp .neq 24 (.agg #[.int .i64 x.view, .int .i64 x.height, .string x.block]) (.agg #[.int .i64 y.view, .int .i64 y.height, .string y.block])).run Tryz.prog w = .ok (.bool (!decide (x = y))) w := by
  have e : ((x.view == y.view) && ((x.height == y.height) && ((x.block.toList == y.block.toList) && true))) = decide (x = y) := by
    cases x; cases y
    simp only [bytes_beq, Mark.mk.injEq, Bool.and_true, Bool.decide_and]
    try simp only [← Int.beq_eq_decide_eq, ← Bool.beq_eq_decide_eq]
    try rfl
  rw [← e]
  exact neq_of Tryz.underlying24 (by kernel_rfl) (eqf_cons (by rfl) (by go_simp; rfl) (by go_simp; rfl) (by go_simp) (eqf_cons (by rfl) (by go_simp; rfl) (by go_simp; rfl) (by go_simp) (eqf_cons (by rfl) (by go_simp; rfl) (by go_simp; rfl) (by go_simp) eqf_nil)))
theorem opensMark : Opens Tryz.prog kMark 24 := by
  exact opens_struct (g' := fun p => ⟨p.1, p.2.1, p.2.2⟩) (fun _ => rfl) Tryz.underlying24 (by kernel_rfl) (opensF_cons rfl (by kernel_rfl) (opens_int Tryz.underlying3) (opensF_cons rfl (by kernel_rfl) (opens_int Tryz.underlying3) (opensF_one rfl (by kernel_rfl) (opens_str Tryz.underlying9))))
structure Vote where
  kind : Int
  view : Int
  height : Int
  block : ByteArray
  ticks : Int
  signer : Int
  sig : ByteArray
  deriving DecidableEq, Inhabited
def kVote : Kd Vote := Kd.iso (Kd.pair Kd.int (Kd.pair Kd.int (Kd.pair Kd.int (Kd.pair Kd.str (Kd.pair Kd.int (Kd.pair Kd.int Kd.str)))))) (fun x : Vote => (x.kind, (x.view, (x.height, (x.block, (x.ticks, (x.signer, x.sig)))))))
theorem kVote_open {B : Nat} {w : World} {x : Vote} {cs : List Value} (h : kVote.K B w x cs) : cs = [.int .i64 x.kind, .int .i64 x.view, .int .i64 x.height, .string x.block, .int .i64 x.ticks, .int .i64 x.signer, .string x.sig] ∧ IntOk x.kind ∧ IntOk x.view ∧ IntOk x.height ∧ x.block.size ≤ 140737488351232 ∧ IntOk x.ticks ∧ IntOk x.signer ∧ x.sig.size ≤ 140737488351232 := by
  obtain ⟨_, _, rfl, ⟨rfl, h0⟩, ⟨_, _, rfl, ⟨rfl, h1⟩, ⟨_, _, rfl, ⟨rfl, h2⟩, ⟨_, _, rfl, ⟨rfl, h3⟩, ⟨_, _, rfl, ⟨rfl, h4⟩, ⟨_, _, rfl, ⟨rfl, h5⟩, ⟨rfl, h6⟩⟩⟩⟩⟩⟩⟩ := h
  exact ⟨rfl, h0, h1, h2, h3, h4, h5, h6⟩
theorem kVote_mk {B : Nat} {w : World} (x : Vote) (h0 : IntOk x.kind) (h1 : IntOk x.view) (h2 : IntOk x.height) (h3 : x.block.size ≤ 140737488351232) (h4 : IntOk x.ticks) (h5 : IntOk x.signer) (h6 : x.sig.size ≤ 140737488351232) : kVote.K B w x [.int .i64 x.kind, .int .i64 x.view, .int .i64 x.height, .string x.block, .int .i64 x.ticks, .int .i64 x.signer, .string x.sig] :=
  ⟨_, _, rfl, ⟨rfl, h0⟩, ⟨_, _, rfl, ⟨rfl, h1⟩, ⟨_, _, rfl, ⟨rfl, h2⟩, ⟨_, _, rfl, ⟨rfl, h3⟩, ⟨_, _, rfl, ⟨rfl, h4⟩, ⟨_, _, rfl, ⟨rfl, h5⟩, ⟨rfl, h6⟩⟩⟩⟩⟩⟩⟩
theorem kVote_at {B e : Nat} {w : World} {A : Option Addr} {xs : List Vote} (h : Kd.Row kVote e B w A xs) {i : Nat} {x : Vote} (hx : xs[i]? = some x) : ∃ ad, A = some ad ∧ w.cell? (ad.add (i * 7)) = some (.int .i64 x.kind) ∧ w.cell? ⟨(ad.add (i * 7)).block, (ad.add (i * 7)).off + 1, none⟩ = some (.int .i64 x.view) ∧ w.cell? ⟨(ad.add (i * 7)).block, (ad.add (i * 7)).off + 2, none⟩ = some (.int .i64 x.height) ∧ w.cell? ⟨(ad.add (i * 7)).block, (ad.add (i * 7)).off + 3, none⟩ = some (.string x.block) ∧ w.cell? ⟨(ad.add (i * 7)).block, (ad.add (i * 7)).off + 4, none⟩ = some (.int .i64 x.ticks) ∧ w.cell? ⟨(ad.add (i * 7)).block, (ad.add (i * 7)).off + 5, none⟩ = some (.int .i64 x.signer) ∧ w.cell? ⟨(ad.add (i * 7)).block, (ad.add (i * 7)).off + 6, none⟩ = some (.string x.sig) ∧ IntOk x.kind ∧ IntOk x.view ∧ IntOk x.height ∧ x.block.size ≤ 140737488351232 ∧ IntOk x.ticks ∧ IntOk x.signer ∧ x.sig.size ≤ 140737488351232 := by
  obtain ⟨ad, cs, rfl, _, hK, hc⟩ := Kd.row_at h hx
  obtain ⟨rfl, hcond⟩ := kVote_open hK
  exact ⟨ad, rfl, hc 0 _ rfl, cell_fld (hc 1 _ rfl), cell_fld (hc 2 _ rfl), cell_fld (hc 3 _ rfl), cell_fld (hc 4 _ rfl), cell_fld (hc 5 _ rfl), cell_fld (hc 6 _ rfl), hcond⟩
theorem eqlVote (x y : Vote) (w : World) : (binOp .eql 29 (.agg #[.int .i64 x.kind, .int .i64 x.view, .int .i64 x.height, .string x.block, .int .i64 x.ticks, .int .i64 x.signer, .string x.sig]) (.agg #[.int .i64 y.kind, .int .i64 y.view, .int .i64 y.height, .string y.block, .int .i64 y.ticks, .int .i64 y.signer, .string y.sig])).run Tryz.prog w = .ok (.bool (decide (x = y))) w := by
  have e : ((x.kind == y.kind) && ((x.view == y.view) && ((x.height == y.height) && ((x.block.toList == y.block.toList) && ((x.ticks == y.ticks) && ((x.signer == y.signer) && ((x.sig.toList == y.sig.toList) && true))))))) = decide (x = y) := by
    cases x; cases y
    simp only [bytes_beq, Vote.mk.injEq, Bool.and_true, Bool.decide_and]
    try simp only [← Int.beq_eq_decide_eq, ← Bool.beq_eq_decide_eq]
    try rfl
  rw [← e]
  exact eql_of Tryz.underlying29 (by kernel_rfl) (eqf_cons (by rfl) (by go_simp; rfl) (by go_simp; rfl) (by go_simp) (eqf_cons (by rfl) (by go_simp; rfl) (by go_simp; rfl) (by go_simp) (eqf_cons (by rfl) (by go_simp; rfl) (by go_simp; rfl) (by go_simp) (eqf_cons (by rfl) (by go_simp; rfl) (by go_simp; rfl) (by go_simp) (eqf_cons (by rfl) (by go_simp; rfl) (by go_simp; rfl) (by go_simp) (eqf_cons (by rfl) (by go_simp; rfl) (by go_simp; rfl) (by go_simp) (eqf_cons (by rfl) (by go_simp; rfl) (by go_simp; rfl) (by go_simp) eqf_nil)))))))
theorem neqVote (x y : Vote) (w : World) : (binOp .neq 29 (.agg #[.int .i64 x.kind, .int .i64 x.view, .int .i64 x.height, .string x.block, .int .i64 x.ticks, .int .i64 x.signer, .string x.sig]) (.agg #[.int .i64 y.kind, .int .i64 y.view, .int .i64 y.height, .string y.block, .int .i64 y.ticks, .int .i64 y.signer, .string y.sig])).run Tryz.prog w = .ok (.bool (!decide (x = y))) w := by
  have e : ((x.kind == y.kind) && ((x.view == y.view) && ((x.height == y.height) && ((x.block.toList == y.block.toList) && ((x.ticks == y.ticks) && ((x.signer == y.signer) && ((x.sig.toList == y.sig.toList) && true))))))) = decide (x = y) := by
    cases x; cases y
    simp only [bytes_beq, Vote.mk.injEq, Bool.and_true, Bool.decide_and]
    try simp only [← Int.beq_eq_decide_eq, ← Bool.beq_eq_decide_eq]
    try rfl
  rw [← e]
  exact neq_of Tryz.underlying29 (by kernel_rfl) (eqf_cons (by rfl) (by go_simp; rfl) (by go_simp; rfl) (by go_simp) (eqf_cons (by rfl) (by go_simp; rfl) (by go_simp; rfl) (by go_simp) (eqf_cons (by rfl) (by go_simp; rfl) (by go_simp; rfl) (by go_simp) (eqf_cons (by rfl) (by go_simp; rfl) (by go_simp; rfl) (by go_simp) (eqf_cons (by rfl) (by go_simp; rfl) (by go_simp; rfl) (by go_simp) (eqf_cons (by rfl) (by go_simp; rfl) (by go_simp; rfl) (by go_simp) (eqf_cons (by rfl) (by go_simp; rfl) (by go_simp; rfl) (by go_simp) eqf_nil)))))))
theorem opensVote : Opens Tryz.prog kVote 29 := by
  exact opens_struct (g' := fun p => ⟨p.1, p.2.1, p.2.2.1, p.2.2.2.1, p.2.2.2.2.1, p.2.2.2.2.2.1, p.2.2.2.2.2.2⟩) (fun _ => rfl) Tryz.underlying29 (by kernel_rfl) (opensF_cons rfl (by kernel_rfl) (opens_int Tryz.underlying3) (opensF_cons rfl (by kernel_rfl) (opens_int Tryz.underlying3) (opensF_cons rfl (by kernel_rfl) (opens_int Tryz.underlying3) (opensF_cons rfl (by kernel_rfl) (opens_str Tryz.underlying9) (opensF_cons rfl (by kernel_rfl) (opens_int Tryz.underlying3) (opensF_cons rfl (by kernel_rfl) (opens_int Tryz.underlying3) (opensF_one rfl (by kernel_rfl) (opens_str Tryz.underlying9))))))))
structure Cert where
  view : Int
  height : Int
  block : ByteArray
  votes : List Vote
  deriving DecidableEq, Inhabited
def kCert : Kd Cert := Kd.iso (Kd.pair Kd.int (Kd.pair Kd.int (Kd.pair Kd.str (Kd.slice 29 kVote)))) (fun x : Cert => (x.view, (x.height, (x.block, x.votes))))
theorem kCert_open {B : Nat} {w : World} {x : Cert} {cs : List Value} (h : kCert.K B w x cs) : ∃ (A3 : Option Addr) (c3 : Nat), cs = [.int .i64 x.view, .int .i64 x.height, .string x.block, .slice A3 x.votes.length c3] ∧ IntOk x.view ∧ IntOk x.height ∧ x.block.size ≤ 140737488351232 ∧ x.votes.length ≤ c3 ∧ c3 ≤ maxLen ∧ Kd.Row kVote 29 B w A3 x.votes := by
  obtain ⟨_, _, rfl, ⟨rfl, h0⟩, ⟨_, _, rfl, ⟨rfl, h1⟩, ⟨_, _, rfl, ⟨rfl, h2⟩, ⟨A3, c3, rfl, hl3, hm3, hr3⟩⟩⟩⟩ := h
  exact ⟨A3, c3, rfl, h0, h1, h2, hl3, hm3, hr3⟩
theorem kCert_mk {B : Nat} {w : World} (x : Cert) (h0 : IntOk x.view) (h1 : IntOk x.height) (h2 : x.block.size ≤ 140737488351232) {A3 : Option Addr} {c3 : Nat} (hl3 : x.votes.length ≤ c3) (hm3 : c3 ≤ maxLen) (hr3 : Kd.Row kVote 29 B w A3 x.votes) : kCert.K B w x [.int .i64 x.view, .int .i64 x.height, .string x.block, .slice A3 x.votes.length c3] :=
  ⟨_, _, rfl, ⟨rfl, h0⟩, ⟨_, _, rfl, ⟨rfl, h1⟩, ⟨_, _, rfl, ⟨rfl, h2⟩, ⟨A3, c3, rfl, hl3, hm3, hr3⟩⟩⟩⟩
theorem kCert_at {B e : Nat} {w : World} {A : Option Addr} {xs : List Cert} (h : Kd.Row kCert e B w A xs) {i : Nat} {x : Cert} (hx : xs[i]? = some x) : ∃ ad, A = some ad ∧ ∃ (A3 : Option Addr) (c3 : Nat), w.cell? (ad.add (i * 4)) = some (.int .i64 x.view) ∧ w.cell? ⟨(ad.add (i * 4)).block, (ad.add (i * 4)).off + 1, none⟩ = some (.int .i64 x.height) ∧ w.cell? ⟨(ad.add (i * 4)).block, (ad.add (i * 4)).off + 2, none⟩ = some (.string x.block) ∧ w.cell? ⟨(ad.add (i * 4)).block, (ad.add (i * 4)).off + 3, none⟩ = some (.slice A3 x.votes.length c3) ∧ IntOk x.view ∧ IntOk x.height ∧ x.block.size ≤ 140737488351232 ∧ x.votes.length ≤ c3 ∧ c3 ≤ maxLen ∧ Kd.Row kVote 29 B w A3 x.votes := by
  obtain ⟨ad, cs, rfl, _, hK, hc⟩ := Kd.row_at h hx
  obtain ⟨A3, c3, rfl, hcond⟩ := kCert_open hK
  exact ⟨ad, rfl, A3, c3, hc 0 _ rfl, cell_fld (hc 1 _ rfl), cell_fld (hc 2 _ rfl), cell_fld (hc 3 _ rfl), hcond⟩
theorem opensCert : Opens Tryz.prog kCert 31 := by
  exact opens_struct (g' := fun p => ⟨p.1, p.2.1, p.2.2.1, p.2.2.2⟩) (fun _ => rfl) Tryz.underlying31 (by kernel_rfl) (opensF_cons rfl (by kernel_rfl) (opens_int Tryz.underlying3) (opensF_cons rfl (by kernel_rfl) (opens_int Tryz.underlying3) (opensF_cons rfl (by kernel_rfl) (opens_str Tryz.underlying9) (opensF_one rfl (by kernel_rfl) (opens_slice Tryz.underlying22 (by kernel_rfl) (by decide) opensVote)))))
end Go.Proofs.YtglneailkgminaaGreat

