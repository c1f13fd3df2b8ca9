/- Package message: sameBlock, Same: of what is one. No claim of its own; no condition. -/
import Derived.Test.YtcbfpdenjdgnlaaGreatQt29
import Derived.Deep.MidRow
import Derived.BigFrame
namespace Go.Proofs.YtcbfpdenjdgnlaaGreat
open Go.ChangeShapes Go.WideShapes Go.ChangeAt Go.RowKit
set_option linter.unusedVariables false
set_option linter.unusedSimpArgs false
theorem wpList_loadg {P : Program} {ops : Array Oper} {rest : List Oper} {op : Oper} {a : Act} {w : World} {Q : Exit → Act → World → Prop} (hw : Region.wanted op (yielded ops a.tmps) = true) (ty : TypeId) (x : Operand) (ho : op.op = .load ty x)
    (b o : Nat) (hx : a.eval x = .pointer (some ⟨b, o, none⟩)) (cs : Array Value) (d : TypeDesc) (hc : w.rangeAt b o cs.toList)
    (hu : P.underlying ty = some d) (hd : d.isRow = true) (hi : (P.info? ty).map (·.size) = some cs.size)
    (h : wpList P ops Q rest (a.put op.dst (.agg cs)) w) : wpList P ops Q (op :: rest) a w :=
  BigFrame.wpList_want hw fun K hK => wp_load_mid ty x ho b o hx cs.toList d hc hu hd (by rw [hi]; simp) (hK _ _ (by simpa using h))
theorem block_range {w : World} {g o : Nat} {cs : Array Value} {t : TypeId} {f : Nat × Nat} {l : List Value} (h : w.heap[g]? = some (.cells cs t f)) (he : (cs.toList.drop o).take l.length = l) : w.rangeAt g o l := fun j v hv => by
  refine block_cell h ?_
  rw [← he, List.getElem?_take] at hv
  split at hv
  · rw [List.getElem?_drop] at hv
    simpa using hv
  · cases hv
set_option maxHeartbeats 1600000 in
set_option maxRecDepth 100000 in
theorem sameblock_calls (b : Block) (A1 A2 A3 A4 : Option Addr) (n1 c1 n2 c2 n3 c3 n4 c4 B1 B2 B3 B4 : Nat) (w : World) (hn1 : n1 = b.justify.votes.length) (hn2 : n2 = b.txs.length) (hn3 : n3 = b.justify.votes.length) (hn4 : n4 = b.txs.length)
    (hl : b.justify.votes.length ≤ 2097152) (hl2 : b.txs.length ≤ 2097152) (hr1 : kVote.Row 52 B1 w A1 b.justify.votes) (hr2 : kTx.Row 77 B2 w A2 b.txs) (hr3 : kVote.Row 52 B3 w A3 b.justify.votes) (hr4 : kTx.Row 77 B4 w A4 b.txs) :
    Calls Tryz.prog 217 #[.agg (bcs b (.slice A1 n1 c1) (.slice A2 n2 c2)), .agg (bcs b (.slice A3 n3 c3) (.slice A4 n4 c4))] w fun e w' => e = .returned (.bool true) ∧ Below w.heap.size w w' := by
  have q0 := bl_alloc (bl_alloc (Below.refl w.heap.size w) (.cells (bcs b (.slice A1 n1 c1) (.slice A2 n2 c2)) 40)) (.cells (bcs b (.slice A3 n3 c3) (.slice A4 n4 c4)) 40)
  have hE := fun W h1 h2 => equal_kTx b.txs b.txs A2 A4 n2 c2 n4 c4 B2 B4 W hn2 hn4 hl2 hl2 h1 h2
  rw [decide_eq_true rfl] at hE
  have hS := fun W h1 h2 => samecert_calls b.justify A1 A3 n1 c1 n3 c3 B1 B3 W hn1 hn3 hl h1 h2
  have HE := Lib.hid hE
  have HS := Lib.hid hS
  have aa := alloc2_new w (.cells (bcs b (.slice A1 n1 c1) (.slice A2 n2 c2)) 40) (.cells (bcs b (.slice A3 n3 c3) (.slice A4 n4 c4)) 40)
  have HR1 := Lib.hid (Kd.row_below q0 hr1)
  have HR2 := Lib.hid (Kd.row_below q0 hr2)
  have HR3 := Lib.hid (Kd.row_below q0 hr3)
  have HR4 := Lib.hid (Kd.row_below q0 hr4)
  obtain ⟨G, hG⟩ : ∃ G, w.heap.size = G := ⟨_, rfl⟩
  clear hn1 hn2 hn3 hn4 hl hl2 hr1 hr2 hr3 hr4 hE hS
  go_enter Tryz.func217, Tryz.ntmps217
  go_upto_region 1 with fail
  generalize (w.alloc (.cells (bcs b (.slice A1 n1 c1) (.slice A2 n2 c2)) 40)).alloc (.cells (bcs b (.slice A3 n3 c3) (.slice A4 n4 c4)) 40) = V at *
  rw [hG] at aa
  have HG := Lib.hid aa.1
  have HG2 := Lib.hid aa.2
  have HQ0 := Lib.hid q0
  obtain ⟨x0, x1, x2, -, -, -, -, x7, x8⟩ := bcells aa.1
  obtain ⟨y0, y1, y2, -, -, -, -, y7, y8⟩ := bcells aa.2
  clear aa q0
  go_wp2_with first
    | (go_at_call 260; refine (HE.out _ HR2.out HR4.out).mono ?_; rintro e w1 ⟨rfl, b1⟩; have r1 := block_range (o := 3) (l := (ccs b.justify (.slice A1 n1 c1)).toList) (block_below b1 HG.out) (by kernel_rfl); have r3 := block_range (o := 3) (l := (ccs b.justify (.slice A3 n3 c3)).toList) (block_below b1 HG2.out) (by kernel_rfl))
    | (refine wpList_loadg (by rfl) 37 (.tmp 39) rfl G 3 rfl (ccs b.justify (.slice A1 n1 c1)) _ r1 Tryz.underlying37 rfl size37 ?_)
    | (refine wpList_loadg (by rfl) 37 (.tmp 41) rfl (G + 1) 3 rfl (ccs b.justify (.slice A3 n3 c3)) _ r3 Tryz.underlying37 rfl size37 ?_)
    | (go_at_call 218; refine (HS.out _ (Kd.row_below b1 HR1.out) (Kd.row_below b1 HR3.out)).mono ?_; rintro e w2 ⟨rfl, b2⟩)
  go_ret
  exact ⟨rfl, bl_trans (bl_trans HQ0.out b1) b2⟩
end Go.Proofs.YtcbfpdenjdgnlaaGreat
/- Package message: Same (of what is one), certified. No claim of its own; no condition. -/
namespace Go.Proofs.YtcbfpdenjdgnlaaGreat
open Go.ChangeShapes Go.WideShapes Go.ChangeAt Go.RowKit
set_option linter.unusedVariables false
set_option linter.unusedSimpArgs false
/-- A message's rows, as they are read. -/
def MsgRow (w : World) (m : Msg) (v1 v2 v3 v4 : Value) : Prop := ∃ (A1 : Option Addr) (c1 : Nat) (A2 : Option Addr) (c2 : Nat) (A3 : Option Addr) (c3 : Nat) (A4 : Option Addr) (c4 B : Nat),
  v1 = .slice A1 m.block.justify.votes.length c1 ∧ v2 = .slice A2 m.block.txs.length c2 ∧ v3 = .slice A3 m.cert.votes.length c3 ∧ v4 = .slice A4 m.blames.length c4 ∧
  kVote.Row 52 B w A1 m.block.justify.votes ∧ kTx.Row 77 B w A2 m.block.txs ∧ kVote.Row 52 B w A3 m.cert.votes ∧ kVote.Row 52 B w A4 m.blames
def MsgLen (m : Msg) : Prop := m.block.justify.votes.length ≤ 2097152 ∧ m.block.txs.length ≤ 2097152 ∧ m.cert.votes.length ≤ 2097152 ∧ m.blames.length ≤ 2097152
theorem msgrow_below {w w' : World} {m : Msg} {v1 v2 v3 v4 : Value} (h : MsgRow w m v1 v2 v3 v4) (k : Below w.heap.size w w') : MsgRow w' m v1 v2 v3 v4 := by
  obtain ⟨A1, c1, A2, c2, A3, c3, A4, c4, B, h1, h2, h3, h4, r1, r2, r3, r4⟩ := h
  exact ⟨A1, c1, A2, c2, A3, c3, A4, c4, B, h1, h2, h3, h4, Kd.row_below k r1, Kd.row_below k r2, Kd.row_below k r3, Kd.row_below k r4⟩
theorem msgrow_own {B : Nat} {w : World} {m : Msg} {v1 v2 v3 v4 : Value} (h : MsgOwn B w m v1 v2 v3 v4) : MsgRow w m v1 v2 v3 v4 := by
  obtain ⟨h1, h2, h3, h4⟩ := h
  obtain ⟨A1, c1, e1, _, _, r1, _⟩ := Kd.own_row h1
  obtain ⟨A2, c2, e2, _, _, r2, _⟩ := Kd.own_row h2
  obtain ⟨A3, c3, e3, _, _, r3, _⟩ := Kd.own_row h3
  obtain ⟨A4, c4, e4, _, _, r4, _⟩ := Kd.own_row h4
  exact ⟨A1, c1, A2, c2, A3, c3, A4, c4, B, e1, e2, e3, e4, r1, r2, r3, r4⟩
theorem mcells {W : World} {g : Nat} {m : Msg} {v1 v2 v3 v4 : Value} {t : TypeId} {f : Nat × Nat} (h : W.heap[g]? = some (.cells (mcs m v1 v2 v3 v4) t f)) :
    W.cell? ⟨g, 0, none⟩ = some (.int .i64 m.kind) ∧ W.rangeAt g 1 (bcs m.block v1 v2).toList ∧ W.rangeAt g 10 (vcs m.vote).toList ∧ W.rangeAt g 17 (ccs m.cert v3).toList ∧ W.cell? ⟨g, 21, none⟩ = some v4 ∧ W.cell? ⟨g, 22, none⟩ = some (.string m.asked) ∧ W.rangeAt g 23 (tcs m.tx).toList :=
  ⟨block_cell h (by kernel_rfl), block_range h (by kernel_rfl), block_range h (by kernel_rfl), block_range h (by kernel_rfl), block_cell h (by kernel_rfl), block_cell h (by kernel_rfl), block_range h (by kernel_rfl)⟩
set_option maxHeartbeats 3200000 in
set_option maxRecDepth 100000 in
theorem same_calls (m : Msg) (v1 v2 v3 v4 u1 u2 u3 u4 : Value) (w : World) (hL : MsgLen m) (hv : MsgRow w m v1 v2 v3 v4) (hu : MsgRow w m u1 u2 u3 u4) :
    Calls Tryz.prog 151 #[.agg (mcs m v1 v2 v3 v4), .agg (mcs m u1 u2 u3 u4)] w fun e w' => e = .returned (.bool true) ∧ Below w.heap.size w w' := by
  obtain ⟨A1, c1, A2, c2, A3, c3, A4, c4, B, rfl, rfl, rfl, rfl, r1, r2, r3, r4⟩ := hv
  obtain ⟨D1, d1, D2, d2, D3, d3, D4, d4, D, rfl, rfl, rfl, rfl, s1, s2, s3, s4⟩ := hu
  obtain ⟨l1, l2, l3, l4⟩ := hL
  obtain ⟨n1, hn1⟩ : ∃ n, n = m.block.justify.votes.length := ⟨_, rfl⟩
  obtain ⟨n2, hn2⟩ : ∃ n, n = m.block.txs.length := ⟨_, rfl⟩
  obtain ⟨n3, hn3⟩ : ∃ n, n = m.cert.votes.length := ⟨_, rfl⟩
  obtain ⟨n4, hn4⟩ : ∃ n, n = m.blames.length := ⟨_, rfl⟩
  rw [← hn1, ← hn2, ← hn3, ← hn4]
  have q0 := bl_alloc (bl_alloc (Below.refl w.heap.size w) (.cells (mcs m (.slice A1 n1 c1) (.slice A2 n2 c2) (.slice A3 n3 c3) (.slice A4 n4 c4)) 79)) (.cells (mcs m (.slice D1 n1 d1) (.slice D2 n2 d2) (.slice D3 n3 d3) (.slice D4 n4 d4)) 79)
  have aa := alloc2_new w (.cells (mcs m (.slice A1 n1 c1) (.slice A2 n2 c2) (.slice A3 n3 c3) (.slice A4 n4 c4)) 79) (.cells (mcs m (.slice D1 n1 d1) (.slice D2 n2 d2) (.slice D3 n3 d3) (.slice D4 n4 d4)) 79)
  have hB := fun W h1 h2 h3 h4 => sameblock_calls m.block A1 A2 D1 D2 n1 c1 n2 c2 n1 d1 n2 d2 B B D D W hn1 hn2 hn1 hn2 l1 l2 h1 h2 h3 h4
  have hC := fun W h1 h2 => samecert_calls m.cert A3 D3 n3 c3 n3 d3 B D W hn3 hn3 l3 h1 h2
  have hE := fun W h1 h2 => equal_kVote m.blames m.blames A4 D4 n4 c4 n4 d4 B D W hn4 hn4 l4 l4 h1 h2
  rw [decide_eq_true rfl] at hE
  have hqv : ∀ W, (binOp .eql 52 (.agg (vcs m.vote)) (.agg (vcs m.vote))).run Tryz.prog W = .ok (.bool true) W := fun W => by
    have := eqlVote m.vote m.vote W
    rwa [decide_eq_true rfl] at this
  have hqt : ∀ W, (binOp .eql 77 (.agg (tcs m.tx)) (.agg (tcs m.tx))).run Tryz.prog W = .ok (.bool true) W := fun W => by
    have := eqlTx m.tx m.tx W
    rwa [decide_eq_true rfl] at this
  have HB := Lib.hid hB
  have HC := Lib.hid hC
  have HE := Lib.hid hE
  have H1 := Lib.hid (Kd.row_below q0 r1)
  have H2 := Lib.hid (Kd.row_below q0 r2)
  have H3 := Lib.hid (Kd.row_below q0 r3)
  have H4 := Lib.hid (Kd.row_below q0 r4)
  have K1 := Lib.hid (Kd.row_below q0 s1)
  have K2 := Lib.hid (Kd.row_below q0 s2)
  have K3 := Lib.hid (Kd.row_below q0 s3)
  have K4 := Lib.hid (Kd.row_below q0 s4)
  obtain ⟨G, hG⟩ : ∃ G, w.heap.size = G := ⟨_, rfl⟩
  clear hn1 hn2 hn3 hn4 l1 l2 l3 l4 r1 r2 r3 r4 s1 s2 s3 s4 hB hC hE
  go_enter Tryz.func151, Tryz.ntmps151
  go_upto_region 1 with fail
  generalize (w.alloc (.cells (mcs m (.slice A1 n1 c1) (.slice A2 n2 c2) (.slice A3 n3 c3) (.slice A4 n4 c4)) 79)).alloc (.cells (mcs m (.slice D1 n1 d1) (.slice D2 n2 d2) (.slice D3 n3 d3) (.slice D4 n4 d4)) 79) = V at *
  rw [hG] at aa
  have HG := Lib.hid aa.1
  have HG2 := Lib.hid aa.2
  have HQ0 := Lib.hid q0
  obtain ⟨x0, x1, -, -, -, -, -⟩ := mcells aa.1
  obtain ⟨y0, y1, -, -, -, -, -⟩ := mcells aa.2
  clear aa q0
  go_wp2_with first
    | (go_at_call 217; refine (HB.out _ H1.out H2.out K1.out K2.out).mono ?_; rintro e w1 ⟨rfl, b1⟩; obtain ⟨-, -, x2, x3, -, -, -⟩ := mcells (block_below b1 HG.out); obtain ⟨-, -, y2, y3, -, -, -⟩ := mcells (block_below b1 HG2.out))
    | (go_at_call 218; refine (HC.out _ (Kd.row_below b1 H3.out) (Kd.row_below b1 K3.out)).mono ?_; rintro e w2 ⟨rfl, b2⟩; have b12 := bl_trans b1 b2; obtain ⟨-, -, -, -, x4, -, -⟩ := mcells (block_below b12 HG.out); obtain ⟨-, -, -, -, y4, -, -⟩ := mcells (block_below b12 HG2.out))
    | (go_at_call 219; refine (HE.out _ (Kd.row_below b12 H4.out) (Kd.row_below b12 K4.out)).mono ?_; rintro e w3 ⟨rfl, b3⟩; have b13 := bl_trans b12 b3; obtain ⟨-, -, -, -, -, x5, x6⟩ := mcells (block_below b13 HG.out); obtain ⟨-, -, -, -, -, y5, y6⟩ := mcells (block_below b13 HG2.out))
    | (refine wpList_loadg (by rfl) 40 (.tmp 11) rfl G 1 rfl (bcs m.block (.slice A1 n1 c1) (.slice A2 n2 c2)) _ x1 Tryz.underlying40 rfl size40 ?_)
    | (refine wpList_loadg (by rfl) 40 (.tmp 13) rfl (G + 1) 1 rfl (bcs m.block (.slice D1 n1 d1) (.slice D2 n2 d2)) _ y1 Tryz.underlying40 rfl size40 ?_)
    | (refine wpList_loadg (by rfl) 52 (.tmp 18) rfl G 10 rfl (vcs m.vote) _ x2 Tryz.underlying52 rfl size52 ?_)
    | (refine wpList_loadg (by rfl) 52 (.tmp 20) rfl (G + 1) 10 rfl (vcs m.vote) _ y2 Tryz.underlying52 rfl size52 ?_)
    | (refine wpList_loadg (by rfl) 37 (.tmp 25) rfl G 17 rfl (ccs m.cert (.slice A3 n3 c3)) _ x3 Tryz.underlying37 rfl size37 ?_)
    | (refine wpList_loadg (by rfl) 37 (.tmp 27) rfl (G + 1) 17 rfl (ccs m.cert (.slice D3 n3 d3)) _ y3 Tryz.underlying37 rfl size37 ?_)
    | (refine wpList_loadg (by rfl) 77 (.tmp 46) rfl G 23 rfl (tcs m.tx) _ x6 Tryz.underlying77 rfl size77 ?_)
    | (refine wpList_loadg (by rfl) 77 (.tmp 48) rfl (G + 1) 23 rfl (tcs m.tx) _ y6 Tryz.underlying77 rfl size77 ?_)
  go_ret
  exact ⟨rfl, bl_trans HQ0.out b13⟩
end Go.Proofs.YtcbfpdenjdgnlaaGreat
/- Package message: certified. No claim of its own; no condition. Printed by a program of this session. -/
namespace Go.Proofs.YtcbfpdenjdgnlaaGreat
open Go.ChangeShapes Go.WideShapes Go.ChangeAt Go.RowKit
set_option linter.unusedVariables false
set_option linter.unusedSimpArgs false
set_option maxHeartbeats 1600000 in
set_option maxRecDepth 100000 in
theorem certified_calls (c : Cert) (A : Option Addr) (n cp B : Nat) (w : World) (hn : n = c.votes.length) (hl : c.votes.length ≤ 2097152) (hr : kVote.Row 52 B w A c.votes) :
    Calls Tryz.prog 216 #[.agg (ccs c (.slice A n cp))] w fun e w' => e = .returned (.bool (certOk c)) ∧ Below w.heap.size w w' := by
  have q0 := bl_alloc (Below.refl w.heap.size w) (.cells (ccs c (.slice A n cp)) 37)
  have a0 := alloc_new w (.cells (ccs c (.slice A n cp)) 37)
  have hv := fun W (hW : kVote.Row 52 B W A c.votes) => voted_calls c.votes A n cp B W hn hl hW
  have HR := Lib.hid (Kd.row_below q0 hr)
  obtain ⟨e, he⟩ : ∃ e, e = certOk c := ⟨_, rfl⟩
  rw [← he]
  have he2 : e = (decide (0 ≤ c.view) && (decide (c.view ≤ 1048576) && (decide (0 ≤ c.height) && (decide (c.height ≤ 1048576) && (decide ((c.block.size : Int) = 32) && votedOk c.votes))))) := he
  obtain ⟨vb, hvb⟩ : ∃ x, votedOk c.votes = x := ⟨_, rfl⟩
  rw [hvb] at hv he2
  have HV := Lib.hid hv
  have HE := Lib.hid he2
  obtain ⟨G, hG⟩ : ∃ G, w.heap.size = G := ⟨_, rfl⟩
  clear hn hl hr hv he he2 hvb
  go_enter Tryz.func216, Tryz.ntmps216
  go_upto_region 1 with fail
  generalize w.alloc (.cells (ccs c (.slice A n cp)) 37) = V at *
  rw [hG] at a0
  obtain ⟨x0, x1, x2, x3⟩ := ccells a0
  obtain ⟨view, height, block, votes⟩ := c
  dsimp only at *
  have HQ := Lib.hid q0
  clear a0 q0
  by_cases d0 : 0 ≤ view
  case neg =>
    have hE : e = false := by rw [HE.out]; simp [d0]
    subst hE
    clear HE
    go_wp2_with fail
    go_ret
    first | exact ⟨rfl, HQ.out⟩ | exact ⟨rfl, hG ▸ HQ.out⟩
  by_cases d1 : view ≤ 1048576
  case neg =>
    have hE : e = false := by rw [HE.out]; simp [d1]
    subst hE
    clear HE
    go_wp2_with fail
    go_ret
    first | exact ⟨rfl, HQ.out⟩ | exact ⟨rfl, hG ▸ HQ.out⟩
  by_cases d2 : 0 ≤ height
  case neg =>
    have hE : e = false := by rw [HE.out]; simp [d2]
    subst hE
    clear HE
    go_wp2_with fail
    go_ret
    first | exact ⟨rfl, HQ.out⟩ | exact ⟨rfl, hG ▸ HQ.out⟩
  by_cases d3 : height ≤ 1048576
  case neg =>
    have hE : e = false := by rw [HE.out]; simp [d3]
    subst hE
    clear HE
    go_wp2_with fail
    go_ret
    first | exact ⟨rfl, HQ.out⟩ | exact ⟨rfl, hG ▸ HQ.out⟩
  by_cases d4 : (block.size : Int) = 32
  case neg =>
    have hE : e = false := by rw [HE.out]; simp [d4]
    subst hE
    clear HE
    go_wp2_with fail
    go_ret
    first | exact ⟨rfl, HQ.out⟩ | exact ⟨rfl, hG ▸ HQ.out⟩
  have hE : e = vb := by rw [HE.out, decide_eq_true d0, decide_eq_true d1, decide_eq_true d2, decide_eq_true d3, decide_eq_true d4]; simp
  subst hE
  clear HE
  go_wp2_with (go_at_call 214; refine (HV.out _ HR.out).mono ?_; rintro x w1 ⟨rfl, b1⟩)
  go_ret
  exact ⟨rfl, bl_trans HQ.out b1⟩
end Go.Proofs.YtcbfpdenjdgnlaaGreat
