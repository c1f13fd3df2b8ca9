/- Reading messages, plainly: a reader is the octets that are left and an error. No claim of its own; no condition. -/
import Derived.Test.YtcbfpdenjdgnlaaGreatQt17
import Derived.Test.YtcbfpdenjdgnlaaGreatQt16
import Derived.Test.YtcbfpdenjdgnlaaGreatQt10
namespace Go.Proofs.YtcbfpdenjdgnlaaGreat
open Go.ChangeShapes Go.WideShapes Go.ChangeAt Go.RowKit
set_option linter.unusedVariables false
set_option linter.unusedSimpArgs false
abbrev Rst := List UInt8 × Int
def octN (l : List UInt8) : Int := ((getU l % 4611686018427387904 : Nat) : Int)
/-- The next number. -/
def gN (r : Rst) (most : Int) : Int × Rst :=
  if (r.2 == 0) = true then (if r.1.length < 6 then (0, ([], 8)) else if 1099511627776 < octN (r.1.take 6) ∨ most < octN (r.1.take 6) then (0, ([], 4)) else (octN (r.1.take 6), (r.1.drop 6, 0))) else (0, r)
/-- The next text. -/
def gT (r : Rst) (most : Int) : ByteArray × Rst :=
  if (r.2 == 0) = true then (if r.1.length < 2 then (⟨#[]⟩, ([], 8)) else if 4096 < octN (r.1.take 2) ∨ most < octN (r.1.take 2) then (⟨#[]⟩, ([], 5)) else
    if ((r.1.length : Int) - 2 < octN (r.1.take 2)) then (⟨#[]⟩, ([], 8)) else (sb ((r.1.drop 2).take (octN (r.1.take 2)).toNat), ((r.1.drop 2).drop (octN (r.1.take 2)).toNat, 0))) else (⟨#[]⟩, r)
def votZ : Vote := ⟨0, 0, 0, ⟨#[]⟩, 0, 0, ⟨#[]⟩⟩
def rdVoteF (r : Rst) : Vote × Rst :=
  let a := gN r 4
  let b := gN a.2 1048576
  let c := gN b.2 1048576
  let d := gT c.2 32
  let e := gN d.2 1048576
  let f := gN e.2 7
  let g := gT f.2 4096
  (⟨a.1, b.1, c.1, d.1, e.1, f.1, g.1⟩, g.2)
def rdVote (r : Rst) : Vote × Rst :=
  let s := gT r 4
  if s.1 = voteWord then (let v := rdVoteF s.2; if (v.2.2 == 0) = true ∧ voteOk v.1 = true then v else (votZ, v.2)) else (votZ, s.2)
def txWord : ByteArray := ⟨#[116, 120]⟩
def txZ : Tx := ⟨0, 0, 0, 0, ⟨#[]⟩⟩
def clientB (n : Int) : Bool := decide (0 ≤ n) && decide (n < 4)
/-- Whether a transaction may be. -/
def txOk (t : Tx) : Bool := clientB t.frm && (clientB t.to && (!(t.frm == t.to) && (decide (1 ≤ t.amount) && (decide (t.amount ≤ 1000) && (decide (0 ≤ t.nonce) && (decide (t.nonce ≤ 1099511627776) && decide (t.sig.size ≤ 4096)))))))
def rdTxF (r : Rst) : Tx × Rst :=
  let a := gN r 4
  let b := gN a.2 4
  let c := gN b.2 1000
  let d := gN c.2 1099511627776
  let e := gT d.2 4096
  (⟨a.1, b.1, c.1, d.1, e.1⟩, e.2)
def rdTx (r : Rst) : Tx × Rst :=
  let s := gT r 2
  if s.1 = txWord then (let v := rdTxF s.2; if (v.2.2 == 0) = true ∧ txOk v.1 = true then v else (txZ, v.2)) else (txZ, s.2)
def rdVotes : Nat → Rst → List Vote × Rst
  | 0, r => ([], r)
  | n + 1, r => let v := rdVote r; let l := rdVotes n v.2; (v.1 :: l.1, l.2)
def rdTxs : Nat → Rst → List Tx × Rst
  | 0, r => ([], r)
  | n + 1, r => let v := rdTx r; let l := rdTxs n v.2; (v.1 :: l.1, l.2)
def certZ : Cert := ⟨0, 0, ⟨#[]⟩, []⟩
def rdCert (r : Rst) : Cert × Rst :=
  let a := gN r 1048576
  let b := gN a.2 1048576
  let c := gT b.2 32
  let n := gN c.2 7
  let l := rdVotes n.1.toNat n.2
  if (l.2.2 == 0) = true then (⟨a.1, b.1, c.1, l.1⟩, l.2) else (certZ, l.2)
def blockZ : Block := ⟨0, 0, ⟨#[]⟩, certZ, [], ⟨#[]⟩⟩
def blockWord : ByteArray := ⟨#[98, 108, 111, 99, 107]⟩
/-- Whether a block may be. -/
def blockOk (b : Block) : Bool :=
  (decide (0 ≤ b.view) && (decide (b.view ≤ 1048576) && (decide (1 ≤ b.height) && (decide (b.height ≤ 1048576) && decide ((b.parent.size : Int) = 32))))) &&
  ((decide (b.justify.block = b.parent) && (decide (b.justify.height = b.height - 1) && (decide (0 ≤ b.justify.view) && decide (b.justify.view ≤ b.view)))) &&
  (decide (b.txs.length ≤ 4) && (b.txs.all txOk && decide (b.sig.size ≤ 4096))))
def rdBlockF (r : Rst) : (Block × Int) × Rst :=
  let a := gN r 1048576
  let b := gN a.2 1048576
  let c := gT b.2 32
  let d := gN c.2 1048576
  let n := gN d.2 4
  let l := rdTxs n.1.toNat n.2
  let j := rdCert l.2
  let s := gT j.2 4096
  ((⟨a.1, b.1, c.1, j.1, l.1, s.1⟩, d.1), s.2)
def rdBlock (r : Rst) : Block × Rst :=
  let s := gT r 5
  if s.1 = blockWord then (let v := rdBlockF s.2; if (v.2.2 == 0) = true ∧ v.1.1.justify.view = v.1.2 ∧ blockOk v.1.1 = true then (v.1.1, v.2) else (blockZ, v.2)) else (blockZ, s.2)
structure Msg where
  kind : Int
  block : Block
  vote : Vote
  cert : Cert
  blames : List Vote
  asked : ByteArray
  tx : Tx
  deriving DecidableEq, Inhabited
def msgZ : Msg := ⟨0, blockZ, votZ, certZ, [], ⟨#[]⟩, txZ⟩
/-- A message of its fields, whatever comes. -/
def rdMsgF (r : Rst) : Msg × Rst :=
  let k := gN r 6
  if k.1 = 1 then (let x := rdBlock k.2; ({ msgZ with kind := 1, block := x.1 }, x.2))
  else if k.1 = 2 then (let x := rdVote k.2; ({ msgZ with kind := 2, vote := x.1 }, x.2))
  else if k.1 = 3 then (let x := rdCert k.2; ({ msgZ with kind := 3, cert := x.1 }, x.2))
  else if k.1 = 4 then (let n := gN k.2 7; let x := rdVotes n.1.toNat n.2; ({ msgZ with kind := 4, blames := x.1 }, x.2))
  else if k.1 = 5 then (let x := gT k.2 32; ({ msgZ with kind := 5, asked := x.1 }, x.2))
  else if k.1 = 6 then (let x := rdTx k.2; ({ msgZ with kind := 6, tx := x.1 }, x.2))
  else ({ msgZ with kind := k.1 }, k.2)
def certOk (c : Cert) : Bool := decide (0 ≤ c.view) && (decide (c.view ≤ 1048576) && (decide (0 ≤ c.height) && (decide (c.height ≤ 1048576) && (decide ((c.block.size : Int) = 32) && (decide (c.votes.length ≤ 7) && c.votes.all voteOk)))))
def votedOk (l : List Vote) : Bool := decide (l.length ≤ 7) && l.all voteOk
/-- Whether a message may be. -/
def msgOk (m : Msg) : Bool :=
  if m.kind = 1 then (blockOk m.block && votedOk m.block.justify.votes) && decide (m = { msgZ with kind := 1, block := m.block })
  else if m.kind = 2 then voteOk m.vote && decide (m = { msgZ with kind := 2, vote := m.vote })
  else if m.kind = 3 then certOk m.cert && decide (m = { msgZ with kind := 3, cert := m.cert })
  else if m.kind = 4 then votedOk m.blames && decide (m = { msgZ with kind := 4, blames := m.blames })
  else if m.kind = 5 then decide ((m.asked.size : Int) = 32) && decide (m = { msgZ with kind := 5, asked := m.asked })
  else if m.kind = 6 then txOk m.tx && decide (m = { msgZ with kind := 6, tx := m.tx })
  else false
/-- A message of octets; none: it is none. -/
def readM (b : List UInt8) : Option Msg :=
  if 16384 < b.length then none else
  let m := rdMsgF (b, 0)
  if (m.2.2 == 0) = true ∧ m.2.1 = [] ∧ msgOk m.1 = true then some m.1 else none
end Go.Proofs.YtcbfpdenjdgnlaaGreat
/- Package pack: readers. No claim of its own; no condition. -/
namespace Go.Proofs.YtcbfpdenjdgnlaaGreat
open Go.ChangeShapes Go.WideShapes Go.ChangeAt Go.RowKit
set_option linter.unusedVariables false
set_option linter.unusedSimpArgs false
/-- A reader, at block N. -/
def RdS (w : World) (N : Nat) (r : Rst) : Prop := ∃ A c, w.heap[N]? = some (.cells #[.slice A r.1.length c, .int .i64 r.2, .bool true] 239 (0, 0)) ∧ Kd.u8.Row 5 0 w A r.1 ∧ r.1.length ≤ c ∧ c ≤ maxLen ∧ r.1.length ≤ 16384
/-- All blocks that were are as they were, but for N. -/
structure RK (N : Nat) (w w' : World) : Prop where
  os : w'.os = w.os
  tape : w'.tape = w.tape
  output : w'.output = w.output
  size : w.heap.size ≤ w'.heap.size
  block : ∀ k, k < w.heap.size → k ≠ N → w'.heap[k]? = w.heap[k]?
theorem rk_refl (N : Nat) (w : World) : RK N w w := ⟨rfl, rfl, rfl, Nat.le_refl _, fun _ _ _ => rfl⟩
theorem rk_trans {N : Nat} {a b c : World} (h : RK N a b) (k : RK N b c) : RK N a c :=
  ⟨k.os.trans h.os, k.tape.trans h.tape, k.output.trans h.output, Nat.le_trans h.size k.size, fun i hi hn => (k.block i (Nat.lt_of_lt_of_le hi h.size) hn).trans (h.block i hi hn)⟩
theorem rk_below {N : Nat} {w w' : World} (h : Below w.heap.size w w') : RK N w w' := ⟨h.os, h.tape, h.output, h.size, fun k hk _ => h.block k hk⟩
theorem rk_set {N i : Nat} {w : World} (u : Value) : RK N w (w.setCell ⟨N, i, none⟩ u) :=
  ⟨rfl, rfl, rfl, by simp [World.setCell], fun k _ hn => Below.heap_setCell w ⟨N, i, none⟩ u k hn⟩
theorem rk_to {M N : Nat} {w w' : World} (h : RK N w w') (hM : M ≤ N) (hz : M ≤ w.heap.size) : Below M w w' := ⟨h.os, h.tape, h.output, h.size, fun k hk => h.block k (by omega) (by omega)⟩
theorem rk_keeps {M N : Nat} {w w' : World} {c : Array Value} {t : TypeId} {f : Nat × Nat} {E : List TypeId} (h : RK N w w') (hN : w.heap[N]? = some (.cells c t f)) (hM : M ≤ N) (hE : t ∉ E) : Keeps M E w w' := by
  refine ⟨h.size, fun b hb => h.block b hb.1 ?_⟩
  rintro rfl
  rcases hb.2 with h1 | ⟨c', t', f', h1, h2⟩
  · omega
  · rw [hN] at h1
    cases h1
    exact hE h2
theorem rds_keeps {M N : Nat} {w w' : World} {r : Rst} {E : List TypeId} (h : RK N w w') (hN : RdS w N r) (hM : M ≤ N) (hE : 239 ∉ E) : Keeps M E w w' := by
  obtain ⟨A, c, h1, _⟩ := hN
  exact rk_keeps h h1 hM hE
theorem rk_block {N g : Nat} {w w' : World} {r : Rst} {c : Array Value} {t : TypeId} {f : Nat × Nat} (h : RK N w w') (hN : RdS w N r) (hb : w.heap[g]? = some (.cells c t f)) (ht : t ≠ 239) : w'.heap[g]? = some (.cells c t f) := by
  obtain ⟨A, c', h1, _⟩ := hN
  refine (h.block g (blk_lt hb) ?_).trans hb
  rintro rfl
  rw [h1] at hb
  cases hb
  exact ht rfl
theorem rds_below {N : Nat} {w w' : World} {r : Rst} (h : RdS w N r) (k : Below w.heap.size w w') : RdS w' N r := by
  obtain ⟨A, c, h1, h2, h3, h4, h5⟩ := h
  exact ⟨A, c, block_below k h1, Kd.row_below k h2, h3, h4, h5⟩
theorem rds_lt {N : Nat} {w : World} {r : Rst} (h : RdS w N r) : N < w.heap.size := by
  obtain ⟨A, c, h1, _⟩ := h
  exact blk_lt h1
theorem rds_len {N : Nat} {w : World} {r : Rst} (h : RdS w N r) : r.1.length ≤ 16384 := by
  obtain ⟨A, c, h1, h2, h3, h4, h5⟩ := h
  exact h5
theorem rds_zero {N : Nat} {w : World} {e : Int} (h : Rd0 w N e) : RdS w N ([], e) := ⟨none, 0, h, Kd.row_nil _ _ _ _ _, Nat.le_refl _, Nat.zero_le _, Nat.zero_le _⟩
theorem err_rds (w : World) (N : Nat) (r : Rst) (h : RdS w N r) : Calls Tryz.prog 120 #[.pointer (some ⟨N, 0, none⟩)] w fun x w' => x = .returned (.int .i64 r.2) ∧ w' = w := by
  obtain ⟨A, c, h1, _⟩ := h
  exact err_rd w N A _ c r.2 h1
theorem ready_rds (w : World) (N : Nat) (r : Rst) (h : RdS w N r) : Calls Tryz.prog 187 #[.pointer (some ⟨N, 0, none⟩)] w fun x w' => x = .returned (.bool (r.2 == 0)) ∧ w' = w := by
  obtain ⟨A, c, h1, _⟩ := h
  exact ready_rd w N A _ c r.2 h1
theorem stop_rds (w : World) (N : Nat) (r : Rst) (k : Int) (h : RdS w N r) :
    Calls Tryz.prog 236 #[.pointer (some ⟨N, 0, none⟩), .int .i64 k] w fun x w' => (∃ v, x = .returned v) ∧ RdS w' N ([], k) ∧ RK N w w' := by
  obtain ⟨A, c, h1, _⟩ := h
  refine (stop_rd w 0 N A _ c r.2 k h1 (Nat.zero_le _)).mono ?_
  rintro x w' ⟨hx, h2, h3, h4, h5⟩
  exact ⟨hx, rds_zero h2, h3.os, h3.tape, h3.output, h3.size, h5⟩
set_option maxRecDepth 100000 in
theorem open_rds (l : List UInt8) (A : Option Addr) (n c : Nat) (w : World) (B : Nat) (hn : n = l.length) (hl : l.length ≤ 16384) (hr : Kd.u8.Row 5 B w A l) :
    Calls Tryz.prog 118 #[.slice A n c] w fun e w' => (∃ b, e = .returned (.pointer (some ⟨b, 0, none⟩)) ∧ RdS w' b (l, 0) ∧ w.heap.size ≤ b) ∧ Below w.heap.size w w' := by
  subst hn
  have hc := Lib.hid (clone8_calls l A _ c w B rfl (by omega) hr)
  have HL := Lib.hid hl
  obtain ⟨n, hn⟩ : ∃ n, n = l.length := ⟨_, rfl⟩
  rw [← hn] at hc ⊢
  have HN := Lib.hid hn
  clear hl hr hn
  go_enter Tryz.func118, Tryz.ntmps118
  go_wp2_with (go_at_call 157; refine (hc.out).mono ?_; rintro x w1 ⟨⟨v1, rfl, own1, hv⟩, b1⟩; obtain ⟨A1, c1, rfl, l1, m1, r1, g1⟩ := Kd.own_row (Kd.own_flat (B' := 0) Kd.flat_u8 own1 (Nat.zero_le _)); rw [← HN.out] at l1 ⊢; clear hv own1; have bz := Below.size b1; have a1 := alloc_new w1 (.cells #[.slice A1 n c1, .int .i64 0, .bool true] 239); have q1 := bl_alloc b1 (.cells #[.slice A1 n c1, .int .i64 0, .bool true] 239))
  go_ret
  exact ⟨⟨_, rfl, ⟨A1, c1, by rw [← HN.out]; exact a1, Kd.row_below (bl_alloc (Below.refl _ _) _) r1, by rw [← HN.out]; exact l1, m1, HL.out⟩, bz⟩, q1⟩
theorem take_short (w : World) (N : Nat) (r : Rst) (n : Nat) (h : RdS w N r) (hn : r.1.length < n) (hn2 : n ≤ 16384) :
    Calls Tryz.prog 235 #[.pointer (some ⟨N, 0, none⟩), .int .i64 n] w fun x w' => x = .returned (.slice none 0 0) ∧ RdS w' N ([], 8) ∧ RK N w w' := by
  have HS := Lib.hid (stop_rds w N r 8 h)
  obtain ⟨A, c, h1, _⟩ := h
  have c0 : w.cell? ⟨N, 0, none⟩ = some (.slice A r.1.length c) := block_cell h1 (i := 0) rfl
  obtain ⟨k, hk⟩ : ∃ k, r.1.length = k := ⟨_, rfl⟩
  rw [hk] at c0 hn
  have hlt : decide (k < n) = true := by simpa using hn
  clear hk h1
  go_enter Tryz.func235, Tryz.ntmps235
  go_wp2_with (go_at_call 236; refine (HS.out).mono ?_; rintro x w1 ⟨⟨v1, rfl⟩, r1, b1⟩)
  go_ret
  exact ⟨rfl, r1, b1⟩
theorem take_ok (w : World) (N : Nat) (r : Rst) (n : Nat) (h : RdS w N r) (hn : n ≤ r.1.length) (h0 : 0 < n) :
    Calls Tryz.prog 235 #[.pointer (some ⟨N, 0, none⟩), .int .i64 n] w fun x w' => (∃ A, x = .returned (.slice A n n) ∧ Kd.u8.Row 5 0 w' A (r.1.take n)) ∧ RdS w' N (r.1.drop n, r.2) ∧ RK N w w' := by
  obtain ⟨A, c, h1, h2, h3, h4, h5⟩ := h
  have c0 : w.cell? ⟨N, 0, none⟩ = some (.slice A r.1.length c) := block_cell h1 (i := 0) rfl
  have f0 : w.frozen? ⟨N, 0, none⟩ = false := block_free h1
  obtain ⟨ad, rfl, _⟩ := h2 (by intro e; rw [e] at hn; simp at hn; omega)
  obtain ⟨k, hk⟩ : ∃ k, r.1.length = k := ⟨_, rfl⟩
  rw [hk] at c0 h1 hn h3 h5
  have hlt : decide (k < n) = false := by simpa using hn
  have hmax : c ≤ 9223372036854775807 := by have := h4; unfold maxLen at this; omega
  have key : ∀ v, v = Value.slice (some (ad.add n)) (k - n) (c - n) ∨ (c = n ∧ v = .slice (some ad) 0 0) → RdS (w.setCell ⟨N, 0, none⟩ v) N (r.1.drop n, r.2) ∧ RK N w (w.setCell ⟨N, 0, none⟩ v) := by
    intro v hv
    have s1 := block_set (i := 0) (u := v) h1
    refine ⟨?_, rk_set v⟩
    have kk := Kd.row_keep (Keeps.set (p := ⟨N, 0, none⟩) h1 (Nat.zero_le _) (by decide) v) h2
    have e : (r.1.drop n).length = k - n := by rw [List.length_drop, hk]
    rcases hv with rfl | ⟨rfl, rfl⟩
    · have r1 := row_drop n kk
      refine ⟨some (ad.add n), c - n, ?_, ?_, by show (r.1.drop n).length ≤ _; omega, by omega, by show (r.1.drop n).length ≤ _; omega⟩
      · rw [e]; simpa using s1
      · simpa [Kd.u8] using r1
    · have e0 : r.1.drop c = [] := List.eq_nil_of_length_eq_zero (by omega)
      refine ⟨some ad, 0, ?_, ?_, by show (r.1.drop c).length ≤ _; omega, Nat.zero_le _, by show (r.1.drop c).length ≤ _; omega⟩
      · rw [e, show k - c = 0 by omega]; simpa using s1
      · show Kd.u8.Row 5 0 _ _ (r.1.drop c)
        rw [e0]; exact Kd.row_nil _ _ _ _ _
  have key2 : ∀ v, Kd.u8.Row 5 0 (w.setCell ⟨N, 0, none⟩ v) (some ad) (r.1.take n) := fun v => row_take n (Kd.row_keep (Keeps.set (p := ⟨N, 0, none⟩) h1 (Nat.zero_le _) (by decide) v) h2)
  have KY := Lib.hid key
  have KY2 := Lib.hid key2
  clear key key2 h1 h2 hk h4
  by_cases hcn : c = n
  · subst hcn
    go_enter Tryz.func235, Tryz.ntmps235
    go_wp2
    go_ret
    exact ⟨⟨_, rfl, KY2.out _⟩, KY.out _ (.inr (by simp))⟩
  · have hcn' : n < c := by omega
    go_enter Tryz.func235, Tryz.ntmps235
    go_wp2
    go_ret
    exact ⟨⟨_, rfl, KY2.out _⟩, KY.out _ (.inl rfl)⟩
theorem take_zero (w : World) (N : Nat) (r : Rst) (h : RdS w N r) :
    Calls Tryz.prog 235 #[.pointer (some ⟨N, 0, none⟩), .int .i64 (0 : Nat)] w fun x w' => (∃ A, x = .returned (.slice A 0 0)) ∧ RdS w' N r ∧ RK N w w' := by
  obtain ⟨A, c, h1, h2, h3, h4, h5⟩ := h
  have c0 : w.cell? ⟨N, 0, none⟩ = some (.slice A r.1.length c) := block_cell h1 (i := 0) rfl
  have f0 : w.frozen? ⟨N, 0, none⟩ = false := block_free h1
  obtain ⟨k, hk⟩ : ∃ k, r.1.length = k := ⟨_, rfl⟩
  rw [hk] at c0 h1 h3 h5
  have hlt : decide (k < 0) = false := by simp
  have hmax : c ≤ 9223372036854775807 := by have := h4; unfold maxLen at this; omega
  have key : ∀ v, (v = Value.slice A k c ∨ (k = 0 ∧ ∃ A' c', v = .slice A' 0 c' ∧ c' ≤ maxLen)) → RdS (w.setCell ⟨N, 0, none⟩ v) N r ∧ RK N w (w.setCell ⟨N, 0, none⟩ v) := by
    intro v hv
    have s1 := block_set (i := 0) (u := v) h1
    refine ⟨?_, rk_set v⟩
    have kk := Kd.row_keep (Keeps.set (p := ⟨N, 0, none⟩) h1 (Nat.zero_le _) (by decide) v) h2
    rcases hv with rfl | ⟨rfl, A', c', rfl, hm⟩
    · exact ⟨A, c, by rw [hk]; simpa using s1, kk, by omega, h4, by omega⟩
    · have e0 : r.1 = [] := List.eq_nil_of_length_eq_zero hk
      refine ⟨A', c', ?_, by rw [e0]; exact Kd.row_nil _ _ _ _ _, by omega, hm, by omega⟩
      rw [hk]; simpa using s1
  have KY := Lib.hid key
  clear key h1 h2 hk h4
  cases A with
  | none =>
    by_cases hk0 : k = 0
    · subst hk0
      by_cases hc0 : c = 0
      · subst hc0
        go_enter Tryz.func235, Tryz.ntmps235
        go_wp2
        go_ret
        exact ⟨⟨_, rfl⟩, KY.out _ (.inl rfl)⟩
      · go_enter Tryz.func235, Tryz.ntmps235
        go_wp2
        go_ret
        exact ⟨⟨_, rfl⟩, KY.out _ (.inl rfl)⟩
    · go_enter Tryz.func235, Tryz.ntmps235
      go_wp2
      go_ret
      exact ⟨⟨_, rfl⟩, KY.out _ (.inl rfl)⟩
  | some ad =>
    by_cases hc0 : c = 0
    · subst hc0
      have hk0 : k = 0 := by omega
      subst hk0
      go_enter Tryz.func235, Tryz.ntmps235
      go_wp2
      go_ret
      exact ⟨⟨_, rfl⟩, KY.out _ (.inl rfl)⟩
    · go_enter Tryz.func235, Tryz.ntmps235
      go_wp2
      go_ret
      exact ⟨⟨_, rfl⟩, KY.out _ (.inl rfl)⟩
theorem take_rds (w : World) (N : Nat) (r : Rst) (n : Nat) (h : RdS w N r) (hn : n ≤ r.1.length) :
    Calls Tryz.prog 235 #[.pointer (some ⟨N, 0, none⟩), .int .i64 n] w fun x w' => (∃ A, x = .returned (.slice A n n) ∧ Kd.u8.Row 5 0 w' A (r.1.take n)) ∧ RdS w' N (r.1.drop n, r.2) ∧ RK N w w' := by
  by_cases h0 : 0 < n
  · exact take_ok w N r n h hn h0
  · have : n = 0 := by omega
    subst this
    refine (take_zero w N r h).mono ?_
    rintro x w' ⟨⟨A, rfl⟩, h1, h2⟩
    exact ⟨⟨A, rfl, by rw [List.take_zero]; exact Kd.row_nil _ _ _ _ _⟩, h1, h2⟩
set_option maxHeartbeats 1600000 in
set_option maxRecDepth 100000 in
theorem num_rds (w : World) (N : Nat) (r : Rst) (most : Int) (h : RdS w N r) :
    Calls Tryz.prog 181 #[.pointer (some ⟨N, 0, none⟩), .int .i64 most] w fun x w' => x = .returned (.int .i64 (gN r most).1) ∧ RdS w' N (gN r most).2 ∧ RK N w w' := by
  have HR := Lib.hid (ready_rds w N r h)
  by_cases h0 : (r.2 == 0) = true
  case neg =>
    have h0' : (r.2 == 0) = false := by simpa using h0
    have e : gN r most = (0, r) := by unfold gN; rw [if_neg h0]
    rw [e]
    rw [h0'] at HR
    have H := Lib.hid h
    clear h e h0
    go_enter Tryz.func181, Tryz.ntmps181
    go_wp2_with first | (go_at_call 187; refine (HR.out).mono ?_; rintro x w1 ⟨rfl, rfl⟩)
    go_ret
    exact ⟨rfl, H.out, rk_refl _ _⟩
  rw [h0] at HR
  by_cases hl : r.1.length < 6
  · have e : gN r most = (0, ([], 8)) := by unfold gN; rw [if_pos h0, if_pos hl]
    rw [e]
    have HT := Lib.hid (take_short w N r 6 h hl (by omega))
    have HG := Lib.hid (fun W => get_calls [] none 0 0 W 0 rfl (by simp) (Kd.row_nil _ _ _ _ _))
    clear h e h0 hl
    go_enter Tryz.func181, Tryz.ntmps181
    go_wp2_with first
      | (go_at_call 187; refine (HR.out).mono ?_; rintro x w1 ⟨rfl, rfl⟩)
      | (go_at_call 235; refine (HT.out).mono ?_; rintro x w2 ⟨rfl, r2, b2⟩)
      | (go_at_call 223; refine (HG.out _).mono ?_; rintro x w3 ⟨rfl, b3⟩; have r3 := rds_below r2 b3; have q3 := rk_trans b2 (rk_below b3); obtain ⟨A3, c3, t3, -⟩ := id r3; have c1 : w3.cell? ⟨N, 1, none⟩ = some (.int .i64 8) := block_cell t3 (i := 1) rfl)
    go_ret
    exact ⟨rfl, r3, q3⟩
  have ht : (r.1.take 6).length = 6 := by rw [List.length_take]; omega
  have HT := Lib.hid (take_rds w N r 6 h (by omega))
  have HG := Lib.hid (fun (W : World) (A : Option Addr) (hr : Kd.u8.Row 5 0 W A (r.1.take 6)) => get_calls (r.1.take 6) A 6 6 W 0 ht.symm (by omega) hr)
  obtain ⟨n, hn⟩ : ∃ n, octN (r.1.take 6) = n := ⟨_, rfl⟩
  have hn' : ((getU (r.1.take 6) % 4611686018427387904 : Nat) : Int) = n := hn
  rw [hn'] at HG
  have hr2 : r.2 = 0 := by simpa using h0
  by_cases hbig : 1099511627776 < n ∨ most < n
  · have e : gN r most = (0, ([], 4)) := by unfold gN; rw [if_pos h0, if_neg hl, hn, if_pos hbig]
    rw [e]
    rw [hr2] at HT
    have HS := Lib.hid (fun W hW => stop_rds W N (r.1.drop 6, 0) 4 hW)
    have hb1 : ∀ p q : Bool, p = decide (n > 1099511627776) → q = decide (n > most) → (p || q) = true := by
      intro p q hp hq
      rcases hbig with h | h
      · rw [hp, decide_eq_true h]; rfl
      · rw [hq, decide_eq_true h]; simp
    clear h e h0 hl hn hn' hr2 ht
    rcases hbig with hb | hb
    · have hb' : n > 1099511627776 := hb
      go_enter Tryz.func181, Tryz.ntmps181
      go_wp2_with first
        | (go_at_call 187; refine (HR.out).mono ?_; rintro x w1 ⟨rfl, rfl⟩)
        | (go_at_call 235; refine (HT.out).mono ?_; rintro x w2 ⟨⟨A2, rfl, t2⟩, r2, b2⟩)
        | (go_at_call 223; refine (HG.out _ _ t2).mono ?_; rintro x w3 ⟨rfl, b3⟩; have r3 := rds_below r2 b3; have q3 := rk_trans b2 (rk_below b3); obtain ⟨A3, c3, t3, -⟩ := id r3; have c1 : w3.cell? ⟨N, 1, none⟩ = some (.int .i64 0) := block_cell t3 (i := 1) rfl)
        | (go_at_call 236; refine (HS.out _ r3).mono ?_; rintro x w4 ⟨⟨v4, rfl⟩, r4, b4⟩; have q4 := rk_trans q3 b4; obtain ⟨A4, c4, t4, -⟩ := id r4; have c1' : w4.cell? ⟨N, 1, none⟩ = some (.int .i64 4) := block_cell t4 (i := 1) rfl)
      go_ret
      exact ⟨rfl, r4, q4⟩
    · by_cases hb' : n > 1099511627776
      all_goals
        have hbb : n > most := hb
        go_enter Tryz.func181, Tryz.ntmps181
        go_wp2_with first
          | (go_at_call 187; refine (HR.out).mono ?_; rintro x w1 ⟨rfl, rfl⟩)
          | (go_at_call 235; refine (HT.out).mono ?_; rintro x w2 ⟨⟨A2, rfl, t2⟩, r2, b2⟩)
          | (go_at_call 223; refine (HG.out _ _ t2).mono ?_; rintro x w3 ⟨rfl, b3⟩; have r3 := rds_below r2 b3; have q3 := rk_trans b2 (rk_below b3); obtain ⟨A3, c3, t3, -⟩ := id r3; have c1 : w3.cell? ⟨N, 1, none⟩ = some (.int .i64 0) := block_cell t3 (i := 1) rfl)
          | (go_at_call 236; refine (HS.out _ r3).mono ?_; rintro x w4 ⟨⟨v4, rfl⟩, r4, b4⟩; have q4 := rk_trans q3 b4; obtain ⟨A4, c4, t4, -⟩ := id r4; have c1' : w4.cell? ⟨N, 1, none⟩ = some (.int .i64 4) := block_cell t4 (i := 1) rfl)
        go_ret
        exact ⟨rfl, r4, q4⟩
  · have e : gN r most = (n, (r.1.drop 6, 0)) := by unfold gN; rw [if_pos h0, if_neg hl, hn, if_neg hbig]
    rw [e]
    rw [hr2] at HT
    have hb1 : ¬ (n > 1099511627776) := by omega
    have hb2 : ¬ (n > most) := by omega
    clear h e h0 hl hn hn' hr2 ht hbig
    go_enter Tryz.func181, Tryz.ntmps181
    go_wp2_with first
      | (go_at_call 187; refine (HR.out).mono ?_; rintro x w1 ⟨rfl, rfl⟩)
      | (go_at_call 235; refine (HT.out).mono ?_; rintro x w2 ⟨⟨A2, rfl, t2⟩, r2, b2⟩)
      | (go_at_call 223; refine (HG.out _ _ t2).mono ?_; rintro x w3 ⟨rfl, b3⟩; have r3 := rds_below r2 b3; have q3 := rk_trans b2 (rk_below b3); obtain ⟨A3, c3, t3, -⟩ := id r3; have c1 : w3.cell? ⟨N, 1, none⟩ = some (.int .i64 0) := block_cell t3 (i := 1) rfl)
    go_ret
    exact ⟨rfl, r3, q3⟩
end Go.Proofs.YtcbfpdenjdgnlaaGreat
