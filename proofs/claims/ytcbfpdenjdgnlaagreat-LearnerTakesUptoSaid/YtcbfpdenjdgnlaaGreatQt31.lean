/- Package message: bare. No claim of its own; no condition. Printed by a program of this session. -/
import Derived.Test.YtcbfpdenjdgnlaaGreatQt30
import Derived.Test.YtcbfpdenjdgnlaaGreatQt21
namespace Go.Proofs.YtcbfpdenjdgnlaaGreat
open Go.ChangeShapes Go.WideShapes Go.ChangeAt Go.RowKit
set_option linter.unusedVariables false
set_option linter.unusedSimpArgs false
theorem ev_tmp {A : Act} {s : Nat} {v : Value} (h : A.tmps[s]? = some v) : A.eval (.tmp s) = v := by
  show A.tmps.getD s undef = v
  rw [Array.getD_eq_getD_getElem?, h]
  rfl
theorem wp_loadA {P : Program} {op : Oper} {a : Act} {w : World} {K : Act → World → Prop} {Q : Exit → Act → World → Prop} (ty : TypeId) (x : Operand) (ho : op.op = .load ty x)
    (b o : Nat) (hx : a.eval x = .pointer (some ⟨b, o, none⟩)) (cs : Array Value) (d : TypeDesc) (hc : w.rangeAt b o cs.toList) (hu : P.underlying ty = some d) (hd : d.isRow = true) (hi : (P.info? ty).map (·.size) = some cs.size)
    (h : K (a.put op.dst (.agg cs)) w) : op.wp P a w K Q :=
  wp_load_mid ty x ho b o hx cs.toList d hc hu hd (by rw [hi]; simp) (by simpa using h)
theorem wp_buildA {P : Program} {o : Oper} {a : Act} {w : World} {K : Act → World → Prop} {Q : Exit → Act → World → Prop} (t : TypeId) (parts : Array (Nat × Operand)) (ho : o.op = .build t parts) (cells : Array Value)
    (hf : P.built t (parts.map fun (i, x) => (i, a.eval x)).toList = some cells) (h : K (a.put o.dst (.agg cells)) w) : o.wp P a w K Q :=
  wp_build t parts ho (by rw [hf]; rfl) (by rw [hf]; exact h)
/-- What bare tells of a message: its fields by its kind, and whether they may be. -/
def bareM (m : Msg) : Msg := if m.kind = 1 then { msgZ with kind := 1, block := m.block } else if m.kind = 2 then { msgZ with kind := 2, vote := m.vote } else if m.kind = 3 then { msgZ with kind := 3, cert := m.cert } else
  if m.kind = 4 then { msgZ with kind := 4, blames := m.blames } else if m.kind = 5 then { msgZ with kind := 5, asked := m.asked } else if m.kind = 6 then { msgZ with kind := 6, tx := m.tx } else msgZ
def bareOk (m : Msg) : Bool := if m.kind = 1 then blockOk m.block && votedOk m.block.justify.votes else if m.kind = 2 then voteOk m.vote else if m.kind = 3 then certOk m.cert else
  if m.kind = 4 then votedOk m.blames else if m.kind = 5 then decide ((m.asked.size : Int) = 32) else if m.kind = 6 then txOk m.tx else false
def br1true (G : Nat) (m : Msg) (ok1 ok2 : Bool) (A1 A2 A3 A4 : Option Addr) (n1 n2 n3 n4 c1 c2 c3 c4 : Nat) : Nat → Value → World → Prop
  | 0, y, _ => y = .pointer (some ⟨G, 0, none⟩)
  | 1, y, _ => y = .int .i64 1
  | 2, y, _ => y = .pointer (some ⟨G, 1, none⟩)
  | 3, y, _ => y = .agg (bcs m.block (.slice A1 n1 c1) (.slice A2 n2 c2))
  | 4, y, _ => y = .agg (mcs { msgZ with kind := 1, block := m.block } (.slice A1 n1 c1) (.slice A2 n2 c2) nS nS)
  | 5, y, _ => y = .pointer (some ⟨G, 1, none⟩)
  | 6, y, _ => y = .agg (bcs m.block (.slice A1 n1 c1) (.slice A2 n2 c2))
  | 7, y, _ => y = .int .i64 0
  | 8, y, _ => y = .bool true
  | 9, y, _ => y = .bool true
  | 10, y, _ => y = .pointer (some ⟨G, 1, none⟩)
  | 11, y, _ => y = .pointer (some ⟨G, 4, none⟩)
  | 12, y, _ => y = .pointer (some ⟨G, 7, none⟩)
  | 13, y, _ => y = .slice A1 n1 c1
  | 14, y, _ => y = .bool ok2
  | 15, y, _ => y = .bool ok2
  | _, _, _ => True
set_option maxHeartbeats 3200000 in
set_option maxRecDepth 100000 in
theorem bare1t_calls (m : Msg) (v1 v2 v3 v4 : Value) (w : World) (hL : MsgLen m) (hv : MsgRow w m v1 v2 v3 v4) (hk : m.kind = 1) (ho1 : blockOk m.block = true) :
    Calls Tryz.prog 150 #[.agg (mcs m v1 v2 v3 v4)] w fun e w' => (∃ u1 u2 u3 u4, e = .returned (.tuple #[.agg (mcs (bareM m) u1 u2 u3 u4), .bool (bareOk m)]) ∧ MsgRow w' (bareM m) u1 u2 u3 u4) ∧ Below w.heap.size w w' := by
  have eM : bareM m = { msgZ with kind := 1, block := m.block } := by unfold bareM; rw [hk]; rfl
  have eO : bareOk m = (blockOk m.block && votedOk m.block.justify.votes) := by unfold bareOk; rw [hk]; rfl
  rw [eM, eO]
  obtain ⟨A1, c1, A2, c2, A3, c3, A4, c4, B, rfl, rfl, rfl, rfl, r1, r2, r3, r4⟩ := hv
  obtain ⟨l1, l2, l3, l4⟩ := hL
  obtain ⟨n1, hn1⟩ : ∃ n, n = m.block.justify.votes.length := ⟨_, rfl⟩
  obtain ⟨n2, hn2⟩ : ∃ n, n = m.block.txs.length := ⟨_, rfl⟩
  obtain ⟨n3, hn3⟩ : ∃ n, n = m.cert.votes.length := ⟨_, rfl⟩
  obtain ⟨n4, hn4⟩ : ∃ n, n = m.blames.length := ⟨_, rfl⟩
  rw [← hn1, ← hn2, ← hn3, ← hn4]
  obtain ⟨ok1, hok⟩ : ∃ b : Bool, b = true := ⟨_, rfl⟩
  obtain ⟨ok2, ho2⟩ : ∃ b, votedOk m.block.justify.votes = b := ⟨_, rfl⟩
  rw [ho1]
  rw [ho2]
  rw [show (true && ok2) = ok2 from by cases ok2 <;> rfl]
  have q0 := bl_alloc (bl_alloc (Below.refl w.heap.size w) (.cells (mcs m (.slice A1 n1 c1) (.slice A2 n2 c2) (.slice A3 n3 c3) (.slice A4 n4 c4)) 79)) (.cells msgC 79)
  have aa := alloc2_new w (.cells (mcs m (.slice A1 n1 c1) (.slice A2 n2 c2) (.slice A3 n3 c3) (.slice A4 n4 c4)) 79) (.cells msgC 79)
  have R1 := Lib.hid r1
  have R2 := Lib.hid r2
  have R3 := Lib.hid r3
  have R4 := Lib.hid r4
  have HN1 := Lib.hid hn1
  have HN2 := Lib.hid hn2
  have HN3 := Lib.hid hn3
  have HN4 := Lib.hid hn4
  have HK := Lib.hid hk
  have hc := fun W (hW : kTx.Row 77 B W A2 m.block.txs) => bcheck_calls m.block A1 A2 n1 c1 n2 c2 B W hn2 l2 hW
  have hb : chkB m.block = 0 := by unfold chkB; rw [ho1]; rfl
  rw [hb] at hc
  have HC := Lib.hid hc
  have hd := fun W (hW : kVote.Row 52 B W A1 m.block.justify.votes) => voted_calls m.block.justify.votes A1 n1 c1 B W hn1 l1 hW
  rw [ho2] at hd
  have HD := Lib.hid hd
  obtain ⟨G, hG⟩ : ∃ G, w.heap.size = G := ⟨_, rfl⟩
  have hz : (w.alloc (.cells (mcs m (.slice A1 n1 c1) (.slice A2 n2 c2) (.slice A3 n3 c3) (.slice A4 n4 c4)) 79)).heap.size = G + 1 := by rw [World.size_alloc, hG]
  clear eM eO l1 l2 l3 l4 hn1 hn2 hn3 hn4 r1 r2 r3 r4 ho1 ho2 hc hb hd
  go_enter Tryz.func150, Tryz.ntmps150
  go_upto_region 1 with fail
  change Code.wp _ _ _ _ ((w.alloc (.cells (mcs m (.slice A1 n1 c1) (.slice A2 n2 c2) (.slice A3 n3 c3) (.slice A4 n4 c4)) 79)).alloc (.cells msgC 79))
  generalize (w.alloc (.cells (mcs m (.slice A1 n1 c1) (.slice A2 n2 c2) (.slice A3 n3 c3) (.slice A4 n4 c4)) 79)).alloc (.cells msgC 79) = V at *
  rw [hG] at aa
  have HG := Lib.hid aa.1
  have HG2 := Lib.hid aa.2
  have HQ0 := Lib.hid q0
  have zz := (mcells aa.1).1
  clear aa q0 hz
  go_upto_region 3 with fail
  clear zz hk
  refine wp_region_any (by kernel_rfl) ?_
  refine wpAny_invlA [true, true, true, true, true, true, true, true, true, true, true, true, true, true, true, true, false, false] [false, false, false, false, false, false, false, false, false, false, false, false, false, false, false, true, false, false] [16, 17] (by kernel_rfl) (by kernel_rfl) Rb (br1true G m ok1 ok2 A1 A2 A3 A4 n1 n2 n3 n4 c1 c2 c3 c4) rb_refl rb_trans (fun c a d v w h => by cases d <;> exact h) ⟨?_, ?_, ?_, ?_, ?_, ?_, ?_, ?_, ?_, ?_, ?_, ?_, ?_, ?_, ?_, ?_, trivial⟩ ?_
  · intro Fr u w1 hTold K hK
    obtain ⟨hN, hO, hR, hdep⟩ := hTold
    rw [if_pos (by rfl)]
    have y1 : Fr.tmps[1]? = some (.pointer (some ⟨G, 0, none⟩)) := hO 1 _ rfl rfl
    clear hN hO hdep
    go_simp
    refine hK _ _ (rb_refl _) fun w3 h3 => ?_
    exact rfl
  · intro Fr u w1 hTold K hK
    obtain ⟨hN, hO, hR, hdep⟩ := hTold
    rw [if_pos (by rfl)]
    have x0 : Fr.tmps[8]? = some (u 0) := hN 0 _ 8 rfl rfl rfl
    rw [show u 0 = .pointer (some ⟨G, 0, none⟩) from hdep 0 (by kernel_rfl) w1 (rb_refl _)] at x0
    clear hN hO hdep
    obtain ⟨z0, -, -, -, -, -, -⟩ := mcells (block_below hR HG.out)
    rw [HK.out] at z0
    go_simp
    refine hK _ _ (rb_refl _) fun w3 h3 => ?_
    exact rfl
  · intro Fr u w1 hTold K hK
    obtain ⟨hN, hO, hR, hdep⟩ := hTold
    rw [if_pos (by rfl)]
    have y1 : Fr.tmps[1]? = some (.pointer (some ⟨G, 0, none⟩)) := hO 1 _ rfl rfl
    clear hN hO hdep
    go_simp
    refine hK _ _ (rb_refl _) fun w3 h3 => ?_
    exact rfl
  · intro Fr u w1 hTold K hK
    obtain ⟨hN, hO, hR, hdep⟩ := hTold
    rw [if_pos (by rfl)]
    have x2 : Fr.tmps[10]? = some (u 2) := hN 2 _ 10 rfl rfl rfl
    rw [show u 2 = .pointer (some ⟨G, 1, none⟩) from hdep 2 (by kernel_rfl) w1 (rb_refl _)] at x2
    clear hN hO hdep
    obtain ⟨z0, z1, -, -, -, -, -⟩ := mcells (block_below hR HG.out)
    refine wp_loadA 40 (.tmp 10) rfl G 1 (ev_tmp x2) (bcs m.block (.slice A1 n1 c1) (.slice A2 n2 c2)) _ z1 Tryz.underlying40 rfl size40 ?_
    refine hK _ _ (rb_refl _) fun w3 h3 => ?_
    exact rfl
  · intro Fr u w1 hTold K hK
    obtain ⟨hN, hO, hR, hdep⟩ := hTold
    rw [if_pos (by rfl)]
    have x1 : Fr.tmps[9]? = some (u 1) := hN 1 _ 9 rfl rfl rfl
    rw [show u 1 = .int .i64 1 from hdep 1 (by kernel_rfl) w1 (rb_refl _)] at x1
    have x3 : Fr.tmps[11]? = some (u 3) := hN 3 _ 11 rfl rfl rfl
    rw [show u 3 = .agg (bcs m.block (.slice A1 n1 c1) (.slice A2 n2 c2)) from hdep 3 (by kernel_rfl) w1 (rb_refl _)] at x3
    clear hN hO hdep
    refine wp_buildA 79 _ rfl (mcs { msgZ with kind := 1, block := m.block } (.slice A1 n1 c1) (.slice A2 n2 c2) nS nS) (by simp only [List.map_toArray, List.map_cons, List.map_nil]; rw [ev_tmp x1, ev_tmp x3]; kernel_rfl) ?_
    refine hK _ _ (rb_refl _) fun w3 h3 => ?_
    exact rfl
  · intro Fr u w1 hTold K hK
    obtain ⟨hN, hO, hR, hdep⟩ := hTold
    rw [if_pos (by rfl)]
    have y1 : Fr.tmps[1]? = some (.pointer (some ⟨G, 0, none⟩)) := hO 1 _ rfl rfl
    clear hN hO hdep
    go_simp
    refine hK _ _ (rb_refl _) fun w3 h3 => ?_
    exact rfl
  · intro Fr u w1 hTold K hK
    obtain ⟨hN, hO, hR, hdep⟩ := hTold
    rw [if_pos (by rfl)]
    have x5 : Fr.tmps[13]? = some (u 5) := hN 5 _ 13 rfl rfl rfl
    rw [show u 5 = .pointer (some ⟨G, 1, none⟩) from hdep 5 (by kernel_rfl) w1 (rb_refl _)] at x5
    clear hN hO hdep
    obtain ⟨z0, z1, -, -, -, -, -⟩ := mcells (block_below hR HG.out)
    refine wp_loadA 40 (.tmp 13) rfl G 1 (ev_tmp x5) (bcs m.block (.slice A1 n1 c1) (.slice A2 n2 c2)) _ z1 Tryz.underlying40 rfl size40 ?_
    refine hK _ _ (rb_refl _) fun w3 h3 => ?_
    exact rfl
  · intro Fr u w1 hTold K hK
    obtain ⟨hN, hO, hR, hdep⟩ := hTold
    rw [if_pos (by rfl)]
    have x6 : Fr.tmps[14]? = some (u 6) := hN 6 _ 14 rfl rfl rfl
    rw [show u 6 = .agg (bcs m.block (.slice A1 n1 c1) (.slice A2 n2 c2)) from hdep 6 (by kernel_rfl) w1 (rb_refl _)] at x6
    clear hN hO hdep
    go_simp
    refine (HC.out w1 (Kd.row_below (bl_trans HQ0.out (bl_trans (bl_drew (Below.refl _ _)) hR)) R2.out)).mono ?_
    rintro x w2 ⟨rfl, b2⟩
    refine hK _ _ b2 fun w3 h3 => ?_
    exact rfl
  · intro Fr u w1 hTold K hK
    obtain ⟨hN, hO, hR, hdep⟩ := hTold
    rw [if_pos (by rfl)]
    have x7 : Fr.tmps[15]? = some (u 7) := hN 7 _ 15 rfl rfl rfl
    rw [show u 7 = .int .i64 0 from hdep 7 (by kernel_rfl) w1 (rb_refl _)] at x7
    clear hN hO hdep
    go_simp
    refine hK _ _ (rb_refl _) fun w3 h3 => ?_
    exact rfl
  · intro Fr u w1 hTold K hK
    obtain ⟨hN, hO, hR, hdep⟩ := hTold
    rw [if_pos (by rfl)]
    have x8 : Fr.tmps[16]? = some (u 8) := hN 8 _ 16 rfl rfl rfl
    rw [show u 8 = .bool true from hdep 8 (by kernel_rfl) w1 (rb_refl _)] at x8
    clear hN hO hdep
    go_simp
    refine hK _ _ (rb_refl _) fun w3 h3 => ?_
    exact rfl
  · intro Fr u w1 hTold K hK
    obtain ⟨hN, hO, hR, hdep⟩ := hTold
    have gx : Fr.tmps[17]? = some (u 9) := hN 9 _ 17 rfl rfl rfl
    rw [show u 9 = .bool true from hdep 9 (by kernel_rfl) w1 (rb_refl _)] at gx
    rw [if_pos (wanted_on (s := 17) rfl (by kernel_rfl) gx)]
    have y1 : Fr.tmps[1]? = some (.pointer (some ⟨G, 0, none⟩)) := hO 1 _ rfl rfl
    clear hN hO hdep gx
    go_simp
    refine hK _ _ (rb_refl _) fun w3 h3 => ?_
    exact rfl
  · intro Fr u w1 hTold K hK
    obtain ⟨hN, hO, hR, hdep⟩ := hTold
    have gx : Fr.tmps[17]? = some (u 9) := hN 9 _ 17 rfl rfl rfl
    rw [show u 9 = .bool true from hdep 9 (by kernel_rfl) w1 (rb_refl _)] at gx
    rw [if_pos (wanted_on (s := 17) rfl (by kernel_rfl) gx)]
    have x10 : Fr.tmps[18]? = some (u 10) := hN 10 _ 18 rfl rfl rfl
    rw [show u 10 = .pointer (some ⟨G, 1, none⟩) from hdep 10 (by kernel_rfl) w1 (rb_refl _)] at x10
    clear hN hO hdep gx
    go_simp
    refine hK _ _ (rb_refl _) fun w3 h3 => ?_
    exact rfl
  · intro Fr u w1 hTold K hK
    obtain ⟨hN, hO, hR, hdep⟩ := hTold
    have gx : Fr.tmps[17]? = some (u 9) := hN 9 _ 17 rfl rfl rfl
    rw [show u 9 = .bool true from hdep 9 (by kernel_rfl) w1 (rb_refl _)] at gx
    rw [if_pos (wanted_on (s := 17) rfl (by kernel_rfl) gx)]
    have x11 : Fr.tmps[19]? = some (u 11) := hN 11 _ 19 rfl rfl rfl
    rw [show u 11 = .pointer (some ⟨G, 4, none⟩) from hdep 11 (by kernel_rfl) w1 (rb_refl _)] at x11
    clear hN hO hdep gx
    go_simp
    refine hK _ _ (rb_refl _) fun w3 h3 => ?_
    exact rfl
  · intro Fr u w1 hTold K hK
    obtain ⟨hN, hO, hR, hdep⟩ := hTold
    have gx : Fr.tmps[17]? = some (u 9) := hN 9 _ 17 rfl rfl rfl
    rw [show u 9 = .bool true from hdep 9 (by kernel_rfl) w1 (rb_refl _)] at gx
    rw [if_pos (wanted_on (s := 17) rfl (by kernel_rfl) gx)]
    have x12 : Fr.tmps[20]? = some (u 12) := hN 12 _ 20 rfl rfl rfl
    rw [show u 12 = .pointer (some ⟨G, 7, none⟩) from hdep 12 (by kernel_rfl) w1 (rb_refl _)] at x12
    clear hN hO hdep gx
    have z7 : w1.cell? ⟨G, 7, none⟩ = some (.slice A1 n1 c1) := block_cell (block_below hR HG.out) (by kernel_rfl)
    go_simp
    refine hK _ _ (rb_refl _) fun w3 h3 => ?_
    exact rfl
  · intro Fr u w1 hTold K hK
    obtain ⟨hN, hO, hR, hdep⟩ := hTold
    have gx : Fr.tmps[17]? = some (u 9) := hN 9 _ 17 rfl rfl rfl
    rw [show u 9 = .bool true from hdep 9 (by kernel_rfl) w1 (rb_refl _)] at gx
    rw [if_pos (wanted_on (s := 17) rfl (by kernel_rfl) gx)]
    have x13 : Fr.tmps[21]? = some (u 13) := hN 13 _ 21 rfl rfl rfl
    rw [show u 13 = .slice A1 n1 c1 from hdep 13 (by kernel_rfl) w1 (rb_refl _)] at x13
    clear hN hO hdep gx
    go_simp
    refine (HD.out w1 (Kd.row_below (bl_trans HQ0.out (bl_trans (bl_drew (Below.refl _ _)) hR)) R1.out)).mono ?_
    rintro x w2 ⟨rfl, b2⟩
    refine hK _ _ b2 fun w3 h3 => ?_
    exact rfl
  · intro Fr u w1 hTold
    obtain ⟨hN, hO, hR, hdep⟩ := hTold
    have x9 : Fr.tmps[17]? = some (u 9) := hN 9 _ 17 rfl rfl rfl
    rw [show u 9 = .bool true from hdep 9 (by kernel_rfl) w1 (rb_refl _)] at x9
    have x14 : Fr.tmps[22]? = some (u 14) := hN 14 _ 22 rfl rfl rfl
    rw [show u 14 = .bool ok2 from hdep 14 (by kernel_rfl) w1 (rb_refl _)] at x14
    clear hN hO hdep
    refine ⟨.bool ok2, fun w2 h2 => ?_, Or.inl ⟨by rfl, fun w => by go_simp⟩⟩
    exact rfl
  · intro u w' hR hall
    have e4 : u 4 = .agg (mcs { msgZ with kind := 1, block := m.block } (.slice A1 n1 c1) (.slice A2 n2 c2) nS nS) := hall 4 rfl
    have eL : u 15 = .bool ok2 := hall 15 rfl
    have bw : Below V.heap.size V w' := bl_trans (bl_drew (Below.refl _ _)) hR
    have g1 := block_below bw HG2.out
    clear hall
    change wpList _ _ _ ([_, _]) _ _
    simp only [frameM, frameM_nil, Act.put, List.setIfInBounds_toArray, List.set_cons_zero, List.set_cons_succ, Nat.reduceAdd, e4, eL]
    clear e4 eL
    go_wp2_with (refine wpList_store_row rfl 79 (.tmp 2) (.tmp 12) rfl (G + 1) rfl (mcs { msgZ with kind := 1, block := m.block } (.slice A1 n1 c1) (.slice A2 n2 c2) nS nS) rfl 79 msgC g1 (by kernel_rfl) (by kernel_rfl) (by kernel_rfl) ?_)
    refine bodyPost_ret (results_cell_row2 rfl _ _ (G + 1) 79 (mcs { msgZ with kind := 1, block := m.block } (.slice A1 n1 c1) (.slice A2 n2 c2) nS nS) (0, 0) _ rfl (setRow_same g1) Tryz.underlying79 rfl (by kernel_rfl)) rfl ?_
    have BF : Below w.heap.size w (w'.setRow (G + 1) (mcs { msgZ with kind := 1, block := m.block } (.slice A1 n1 c1) (.slice A2 n2 c2) nS nS)) := bl_setRow (bl_trans HQ0.out bw) (by omega)
    exact ⟨⟨.slice A1 n1 c1, .slice A2 n2 c2, nS, nS, rfl, ⟨A1, c1, A2, c2, none, 0, none, 0, B, by rw [← HN1.out], by rw [← HN2.out], rfl, rfl, Kd.row_below BF R1.out, Kd.row_below BF R2.out, Kd.row_nil _ _ _ _ _, Kd.row_nil _ _ _ _ _⟩⟩, by first | exact BF | exact hG ▸ BF⟩

def br1false (G : Nat) (m : Msg) (ok1 ok2 : Bool) (A1 A2 A3 A4 : Option Addr) (n1 n2 n3 n4 c1 c2 c3 c4 : Nat) : Nat → Value → World → Prop
  | 0, y, _ => y = .pointer (some ⟨G, 0, none⟩)
  | 1, y, _ => y = .int .i64 1
  | 2, y, _ => y = .pointer (some ⟨G, 1, none⟩)
  | 3, y, _ => y = .agg (bcs m.block (.slice A1 n1 c1) (.slice A2 n2 c2))
  | 4, y, _ => y = .agg (mcs { msgZ with kind := 1, block := m.block } (.slice A1 n1 c1) (.slice A2 n2 c2) nS nS)
  | 5, y, _ => y = .pointer (some ⟨G, 1, none⟩)
  | 6, y, _ => y = .agg (bcs m.block (.slice A1 n1 c1) (.slice A2 n2 c2))
  | 7, y, _ => y = .int .i64 9
  | 8, y, _ => y = .bool false
  | 9, y, _ => y = .bool false
  | 10, y, _ => y = undef
  | 11, y, _ => y = undef
  | 12, y, _ => y = undef
  | 13, y, _ => y = undef
  | 14, y, _ => y = undef
  | 15, y, _ => y = .bool false
  | _, _, _ => True
set_option maxHeartbeats 3200000 in
set_option maxRecDepth 100000 in
theorem bare1f_calls (m : Msg) (v1 v2 v3 v4 : Value) (w : World) (hL : MsgLen m) (hv : MsgRow w m v1 v2 v3 v4) (hk : m.kind = 1) (ho1 : blockOk m.block = false) :
    Calls Tryz.prog 150 #[.agg (mcs m v1 v2 v3 v4)] w fun e w' => (∃ u1 u2 u3 u4, e = .returned (.tuple #[.agg (mcs (bareM m) u1 u2 u3 u4), .bool (bareOk m)]) ∧ MsgRow w' (bareM m) u1 u2 u3 u4) ∧ Below w.heap.size w w' := by
  have eM : bareM m = { msgZ with kind := 1, block := m.block } := by unfold bareM; rw [hk]; rfl
  have eO : bareOk m = (blockOk m.block && votedOk m.block.justify.votes) := by unfold bareOk; rw [hk]; rfl
  rw [eM, eO]
  obtain ⟨A1, c1, A2, c2, A3, c3, A4, c4, B, rfl, rfl, rfl, rfl, r1, r2, r3, r4⟩ := hv
  obtain ⟨l1, l2, l3, l4⟩ := hL
  obtain ⟨n1, hn1⟩ : ∃ n, n = m.block.justify.votes.length := ⟨_, rfl⟩
  obtain ⟨n2, hn2⟩ : ∃ n, n = m.block.txs.length := ⟨_, rfl⟩
  obtain ⟨n3, hn3⟩ : ∃ n, n = m.cert.votes.length := ⟨_, rfl⟩
  obtain ⟨n4, hn4⟩ : ∃ n, n = m.blames.length := ⟨_, rfl⟩
  rw [← hn1, ← hn2, ← hn3, ← hn4]
  obtain ⟨ok1, hok⟩ : ∃ b : Bool, b = false := ⟨_, rfl⟩
  obtain ⟨ok2, ho2⟩ : ∃ b, votedOk m.block.justify.votes = b := ⟨_, rfl⟩
  rw [ho1]
  rw [ho2]
  rw [show (false && ok2) = false from by cases ok2 <;> rfl]
  have q0 := bl_alloc (bl_alloc (Below.refl w.heap.size w) (.cells (mcs m (.slice A1 n1 c1) (.slice A2 n2 c2) (.slice A3 n3 c3) (.slice A4 n4 c4)) 79)) (.cells msgC 79)
  have aa := alloc2_new w (.cells (mcs m (.slice A1 n1 c1) (.slice A2 n2 c2) (.slice A3 n3 c3) (.slice A4 n4 c4)) 79) (.cells msgC 79)
  have R1 := Lib.hid r1
  have R2 := Lib.hid r2
  have R3 := Lib.hid r3
  have R4 := Lib.hid r4
  have HN1 := Lib.hid hn1
  have HN2 := Lib.hid hn2
  have HN3 := Lib.hid hn3
  have HN4 := Lib.hid hn4
  have HK := Lib.hid hk
  have hc := fun W (hW : kTx.Row 77 B W A2 m.block.txs) => bcheck_calls m.block A1 A2 n1 c1 n2 c2 B W hn2 l2 hW
  have hb : chkB m.block = 9 := by unfold chkB; rw [ho1]; rfl
  rw [hb] at hc
  have HC := Lib.hid hc
  have hd := fun W (hW : kVote.Row 52 B W A1 m.block.justify.votes) => voted_calls m.block.justify.votes A1 n1 c1 B W hn1 l1 hW
  rw [ho2] at hd
  have HD := Lib.hid hd
  obtain ⟨G, hG⟩ : ∃ G, w.heap.size = G := ⟨_, rfl⟩
  have hz : (w.alloc (.cells (mcs m (.slice A1 n1 c1) (.slice A2 n2 c2) (.slice A3 n3 c3) (.slice A4 n4 c4)) 79)).heap.size = G + 1 := by rw [World.size_alloc, hG]
  clear eM eO l1 l2 l3 l4 hn1 hn2 hn3 hn4 r1 r2 r3 r4 ho1 ho2 hc hb hd
  go_enter Tryz.func150, Tryz.ntmps150
  go_upto_region 1 with fail
  change Code.wp _ _ _ _ ((w.alloc (.cells (mcs m (.slice A1 n1 c1) (.slice A2 n2 c2) (.slice A3 n3 c3) (.slice A4 n4 c4)) 79)).alloc (.cells msgC 79))
  generalize (w.alloc (.cells (mcs m (.slice A1 n1 c1) (.slice A2 n2 c2) (.slice A3 n3 c3) (.slice A4 n4 c4)) 79)).alloc (.cells msgC 79) = V at *
  rw [hG] at aa
  have HG := Lib.hid aa.1
  have HG2 := Lib.hid aa.2
  have HQ0 := Lib.hid q0
  have zz := (mcells aa.1).1
  clear aa q0 hz
  go_upto_region 3 with fail
  clear zz hk
  refine wp_region_any (by kernel_rfl) ?_
  refine wpAny_invlA [true, true, true, true, true, true, true, true, true, true, true, true, true, true, true, true, false, false] [false, false, false, false, false, false, false, false, false, false, false, false, false, false, false, true, false, false] [16, 17] (by kernel_rfl) (by kernel_rfl) Rb (br1false G m ok1 ok2 A1 A2 A3 A4 n1 n2 n3 n4 c1 c2 c3 c4) rb_refl rb_trans (fun c a d v w h => by cases d <;> exact h) ⟨?_, ?_, ?_, ?_, ?_, ?_, ?_, ?_, ?_, ?_, ?_, ?_, ?_, ?_, ?_, ?_, trivial⟩ ?_
  · intro Fr u w1 hTold K hK
    obtain ⟨hN, hO, hR, hdep⟩ := hTold
    rw [if_pos (by rfl)]
    have y1 : Fr.tmps[1]? = some (.pointer (some ⟨G, 0, none⟩)) := hO 1 _ rfl rfl
    clear hN hO hdep
    go_simp
    refine hK _ _ (rb_refl _) fun w3 h3 => ?_
    exact rfl
  · intro Fr u w1 hTold K hK
    obtain ⟨hN, hO, hR, hdep⟩ := hTold
    rw [if_pos (by rfl)]
    have x0 : Fr.tmps[8]? = some (u 0) := hN 0 _ 8 rfl rfl rfl
    rw [show u 0 = .pointer (some ⟨G, 0, none⟩) from hdep 0 (by kernel_rfl) w1 (rb_refl _)] at x0
    clear hN hO hdep
    obtain ⟨z0, -, -, -, -, -, -⟩ := mcells (block_below hR HG.out)
    rw [HK.out] at z0
    go_simp
    refine hK _ _ (rb_refl _) fun w3 h3 => ?_
    exact rfl
  · intro Fr u w1 hTold K hK
    obtain ⟨hN, hO, hR, hdep⟩ := hTold
    rw [if_pos (by rfl)]
    have y1 : Fr.tmps[1]? = some (.pointer (some ⟨G, 0, none⟩)) := hO 1 _ rfl rfl
    clear hN hO hdep
    go_simp
    refine hK _ _ (rb_refl _) fun w3 h3 => ?_
    exact rfl
  · intro Fr u w1 hTold K hK
    obtain ⟨hN, hO, hR, hdep⟩ := hTold
    rw [if_pos (by rfl)]
    have x2 : Fr.tmps[10]? = some (u 2) := hN 2 _ 10 rfl rfl rfl
    rw [show u 2 = .pointer (some ⟨G, 1, none⟩) from hdep 2 (by kernel_rfl) w1 (rb_refl _)] at x2
    clear hN hO hdep
    obtain ⟨z0, z1, -, -, -, -, -⟩ := mcells (block_below hR HG.out)
    refine wp_loadA 40 (.tmp 10) rfl G 1 (ev_tmp x2) (bcs m.block (.slice A1 n1 c1) (.slice A2 n2 c2)) _ z1 Tryz.underlying40 rfl size40 ?_
    refine hK _ _ (rb_refl _) fun w3 h3 => ?_
    exact rfl
  · intro Fr u w1 hTold K hK
    obtain ⟨hN, hO, hR, hdep⟩ := hTold
    rw [if_pos (by rfl)]
    have x1 : Fr.tmps[9]? = some (u 1) := hN 1 _ 9 rfl rfl rfl
    rw [show u 1 = .int .i64 1 from hdep 1 (by kernel_rfl) w1 (rb_refl _)] at x1
    have x3 : Fr.tmps[11]? = some (u 3) := hN 3 _ 11 rfl rfl rfl
    rw [show u 3 = .agg (bcs m.block (.slice A1 n1 c1) (.slice A2 n2 c2)) from hdep 3 (by kernel_rfl) w1 (rb_refl _)] at x3
    clear hN hO hdep
    refine wp_buildA 79 _ rfl (mcs { msgZ with kind := 1, block := m.block } (.slice A1 n1 c1) (.slice A2 n2 c2) nS nS) (by simp only [List.map_toArray, List.map_cons, List.map_nil]; rw [ev_tmp x1, ev_tmp x3]; kernel_rfl) ?_
    refine hK _ _ (rb_refl _) fun w3 h3 => ?_
    exact rfl
  · intro Fr u w1 hTold K hK
    obtain ⟨hN, hO, hR, hdep⟩ := hTold
    rw [if_pos (by rfl)]
    have y1 : Fr.tmps[1]? = some (.pointer (some ⟨G, 0, none⟩)) := hO 1 _ rfl rfl
    clear hN hO hdep
    go_simp
    refine hK _ _ (rb_refl _) fun w3 h3 => ?_
    exact rfl
  · intro Fr u w1 hTold K hK
    obtain ⟨hN, hO, hR, hdep⟩ := hTold
    rw [if_pos (by rfl)]
    have x5 : Fr.tmps[13]? = some (u 5) := hN 5 _ 13 rfl rfl rfl
    rw [show u 5 = .pointer (some ⟨G, 1, none⟩) from hdep 5 (by kernel_rfl) w1 (rb_refl _)] at x5
    clear hN hO hdep
    obtain ⟨z0, z1, -, -, -, -, -⟩ := mcells (block_below hR HG.out)
    refine wp_loadA 40 (.tmp 13) rfl G 1 (ev_tmp x5) (bcs m.block (.slice A1 n1 c1) (.slice A2 n2 c2)) _ z1 Tryz.underlying40 rfl size40 ?_
    refine hK _ _ (rb_refl _) fun w3 h3 => ?_
    exact rfl
  · intro Fr u w1 hTold K hK
    obtain ⟨hN, hO, hR, hdep⟩ := hTold
    rw [if_pos (by rfl)]
    have x6 : Fr.tmps[14]? = some (u 6) := hN 6 _ 14 rfl rfl rfl
    rw [show u 6 = .agg (bcs m.block (.slice A1 n1 c1) (.slice A2 n2 c2)) from hdep 6 (by kernel_rfl) w1 (rb_refl _)] at x6
    clear hN hO hdep
    go_simp
    refine (HC.out w1 (Kd.row_below (bl_trans HQ0.out (bl_trans (bl_drew (Below.refl _ _)) hR)) R2.out)).mono ?_
    rintro x w2 ⟨rfl, b2⟩
    refine hK _ _ b2 fun w3 h3 => ?_
    exact rfl
  · intro Fr u w1 hTold K hK
    obtain ⟨hN, hO, hR, hdep⟩ := hTold
    rw [if_pos (by rfl)]
    have x7 : Fr.tmps[15]? = some (u 7) := hN 7 _ 15 rfl rfl rfl
    rw [show u 7 = .int .i64 9 from hdep 7 (by kernel_rfl) w1 (rb_refl _)] at x7
    clear hN hO hdep
    go_simp
    refine hK _ _ (rb_refl _) fun w3 h3 => ?_
    exact rfl
  · intro Fr u w1 hTold K hK
    obtain ⟨hN, hO, hR, hdep⟩ := hTold
    rw [if_pos (by rfl)]
    have x8 : Fr.tmps[16]? = some (u 8) := hN 8 _ 16 rfl rfl rfl
    rw [show u 8 = .bool false from hdep 8 (by kernel_rfl) w1 (rb_refl _)] at x8
    clear hN hO hdep
    go_simp
    refine hK _ _ (rb_refl _) fun w3 h3 => ?_
    exact rfl
  · intro Fr u w1 hTold K hK
    obtain ⟨hN, hO, hR, hdep⟩ := hTold
    have gx : Fr.tmps[17]? = some (u 9) := hN 9 _ 17 rfl rfl rfl
    rw [show u 9 = .bool false from hdep 9 (by kernel_rfl) w1 (rb_refl _)] at gx
    rw [if_neg (wanted_off (s := 17) rfl (by kernel_rfl) gx (by decide))]
    exact hK _ _ (rb_refl _) fun w3 h3 => rfl
  · intro Fr u w1 hTold K hK
    obtain ⟨hN, hO, hR, hdep⟩ := hTold
    have gx : Fr.tmps[17]? = some (u 9) := hN 9 _ 17 rfl rfl rfl
    rw [show u 9 = .bool false from hdep 9 (by kernel_rfl) w1 (rb_refl _)] at gx
    rw [if_neg (wanted_off (s := 17) rfl (by kernel_rfl) gx (by decide))]
    exact hK _ _ (rb_refl _) fun w3 h3 => rfl
  · intro Fr u w1 hTold K hK
    obtain ⟨hN, hO, hR, hdep⟩ := hTold
    have gx : Fr.tmps[17]? = some (u 9) := hN 9 _ 17 rfl rfl rfl
    rw [show u 9 = .bool false from hdep 9 (by kernel_rfl) w1 (rb_refl _)] at gx
    rw [if_neg (wanted_off (s := 17) rfl (by kernel_rfl) gx (by decide))]
    exact hK _ _ (rb_refl _) fun w3 h3 => rfl
  · intro Fr u w1 hTold K hK
    obtain ⟨hN, hO, hR, hdep⟩ := hTold
    have gx : Fr.tmps[17]? = some (u 9) := hN 9 _ 17 rfl rfl rfl
    rw [show u 9 = .bool false from hdep 9 (by kernel_rfl) w1 (rb_refl _)] at gx
    rw [if_neg (wanted_off (s := 17) rfl (by kernel_rfl) gx (by decide))]
    exact hK _ _ (rb_refl _) fun w3 h3 => rfl
  · intro Fr u w1 hTold K hK
    obtain ⟨hN, hO, hR, hdep⟩ := hTold
    have gx : Fr.tmps[17]? = some (u 9) := hN 9 _ 17 rfl rfl rfl
    rw [show u 9 = .bool false from hdep 9 (by kernel_rfl) w1 (rb_refl _)] at gx
    rw [if_neg (wanted_off (s := 17) rfl (by kernel_rfl) gx (by decide))]
    exact hK _ _ (rb_refl _) fun w3 h3 => rfl
  · intro Fr u w1 hTold
    obtain ⟨hN, hO, hR, hdep⟩ := hTold
    have x9 : Fr.tmps[17]? = some (u 9) := hN 9 _ 17 rfl rfl rfl
    rw [show u 9 = .bool false from hdep 9 (by kernel_rfl) w1 (rb_refl _)] at x9
    have x14 : Fr.tmps[22]? = some (u 14) := hN 14 _ 22 rfl rfl rfl
    rw [show u 14 = undef from hdep 14 (by kernel_rfl) w1 (rb_refl _)] at x14
    clear hN hO hdep
    refine ⟨.bool false, fun w2 h2 => ?_, Or.inl ⟨by rfl, fun w => by go_simp⟩⟩
    exact rfl
  · intro u w' hR hall
    have e4 : u 4 = .agg (mcs { msgZ with kind := 1, block := m.block } (.slice A1 n1 c1) (.slice A2 n2 c2) nS nS) := hall 4 rfl
    have eL : u 15 = .bool false := hall 15 rfl
    have bw : Below V.heap.size V w' := bl_trans (bl_drew (Below.refl _ _)) hR
    have g1 := block_below bw HG2.out
    clear hall
    change wpList _ _ _ ([_, _]) _ _
    simp only [frameM, frameM_nil, Act.put, List.setIfInBounds_toArray, List.set_cons_zero, List.set_cons_succ, Nat.reduceAdd, e4, eL]
    clear e4 eL
    go_wp2_with (refine wpList_store_row rfl 79 (.tmp 2) (.tmp 12) rfl (G + 1) rfl (mcs { msgZ with kind := 1, block := m.block } (.slice A1 n1 c1) (.slice A2 n2 c2) nS nS) rfl 79 msgC g1 (by kernel_rfl) (by kernel_rfl) (by kernel_rfl) ?_)
    refine bodyPost_ret (results_cell_row2 rfl _ _ (G + 1) 79 (mcs { msgZ with kind := 1, block := m.block } (.slice A1 n1 c1) (.slice A2 n2 c2) nS nS) (0, 0) _ rfl (setRow_same g1) Tryz.underlying79 rfl (by kernel_rfl)) rfl ?_
    have BF : Below w.heap.size w (w'.setRow (G + 1) (mcs { msgZ with kind := 1, block := m.block } (.slice A1 n1 c1) (.slice A2 n2 c2) nS nS)) := bl_setRow (bl_trans HQ0.out bw) (by omega)
    exact ⟨⟨.slice A1 n1 c1, .slice A2 n2 c2, nS, nS, rfl, ⟨A1, c1, A2, c2, none, 0, none, 0, B, by rw [← HN1.out], by rw [← HN2.out], rfl, rfl, Kd.row_below BF R1.out, Kd.row_below BF R2.out, Kd.row_nil _ _ _ _ _, Kd.row_nil _ _ _ _ _⟩⟩, by first | exact BF | exact hG ▸ BF⟩

def br2 (G : Nat) (m : Msg) (ok1 ok2 : Bool) (A1 A2 A3 A4 : Option Addr) (n1 n2 n3 n4 c1 c2 c3 c4 : Nat) : Nat → Value → World → Prop
  | 0, y, _ => y = .pointer (some ⟨G, 0, none⟩)
  | 1, y, _ => y = .int .i64 2
  | 2, y, _ => y = .pointer (some ⟨G, 10, none⟩)
  | 3, y, _ => y = .agg (vcs m.vote)
  | 4, y, _ => y = .agg (mcs { msgZ with kind := 2, vote := m.vote } nS nS nS nS)
  | 5, y, _ => y = .pointer (some ⟨G, 10, none⟩)
  | 6, y, _ => y = .agg (vcs m.vote)
  | 7, y, _ => y = .bool (!ok1)
  | 8, y, _ => y = .bool ok1
  | _, _, _ => True
set_option maxHeartbeats 3200000 in
set_option maxRecDepth 100000 in
theorem bare2_calls (m : Msg) (v1 v2 v3 v4 : Value) (w : World) (hL : MsgLen m) (hv : MsgRow w m v1 v2 v3 v4) (hk : m.kind = 2) :
    Calls Tryz.prog 150 #[.agg (mcs m v1 v2 v3 v4)] w fun e w' => (∃ u1 u2 u3 u4, e = .returned (.tuple #[.agg (mcs (bareM m) u1 u2 u3 u4), .bool (bareOk m)]) ∧ MsgRow w' (bareM m) u1 u2 u3 u4) ∧ Below w.heap.size w w' := by
  have eM : bareM m = { msgZ with kind := 2, vote := m.vote } := by unfold bareM; rw [hk]; rfl
  have eO : bareOk m = (voteOk m.vote) := by unfold bareOk; rw [hk]; rfl
  rw [eM, eO]
  obtain ⟨A1, c1, A2, c2, A3, c3, A4, c4, B, rfl, rfl, rfl, rfl, r1, r2, r3, r4⟩ := hv
  obtain ⟨l1, l2, l3, l4⟩ := hL
  obtain ⟨n1, hn1⟩ : ∃ n, n = m.block.justify.votes.length := ⟨_, rfl⟩
  obtain ⟨n2, hn2⟩ : ∃ n, n = m.block.txs.length := ⟨_, rfl⟩
  obtain ⟨n3, hn3⟩ : ∃ n, n = m.cert.votes.length := ⟨_, rfl⟩
  obtain ⟨n4, hn4⟩ : ∃ n, n = m.blames.length := ⟨_, rfl⟩
  rw [← hn1, ← hn2, ← hn3, ← hn4]
  obtain ⟨ok1, ho1⟩ : ∃ b, voteOk m.vote = b := ⟨_, rfl⟩
  obtain ⟨ok2, ho2⟩ : ∃ b, votedOk m.block.justify.votes = b := ⟨_, rfl⟩
  rw [ho1]
  have q0 := bl_alloc (bl_alloc (Below.refl w.heap.size w) (.cells (mcs m (.slice A1 n1 c1) (.slice A2 n2 c2) (.slice A3 n3 c3) (.slice A4 n4 c4)) 79)) (.cells msgC 79)
  have aa := alloc2_new w (.cells (mcs m (.slice A1 n1 c1) (.slice A2 n2 c2) (.slice A3 n3 c3) (.slice A4 n4 c4)) 79) (.cells msgC 79)
  have R1 := Lib.hid r1
  have R2 := Lib.hid r2
  have R3 := Lib.hid r3
  have R4 := Lib.hid r4
  have HN1 := Lib.hid hn1
  have HN2 := Lib.hid hn2
  have HN3 := Lib.hid hn3
  have HN4 := Lib.hid hn4
  have HK := Lib.hid hk
  have hc := fun W => oddv_calls m.vote W
  rw [ho1] at hc
  have HC := Lib.hid hc
  obtain ⟨G, hG⟩ : ∃ G, w.heap.size = G := ⟨_, rfl⟩
  have hz : (w.alloc (.cells (mcs m (.slice A1 n1 c1) (.slice A2 n2 c2) (.slice A3 n3 c3) (.slice A4 n4 c4)) 79)).heap.size = G + 1 := by rw [World.size_alloc, hG]
  clear eM eO l1 l2 l3 l4 hn1 hn2 hn3 hn4 r1 r2 r3 r4 ho1 ho2 hc
  go_enter Tryz.func150, Tryz.ntmps150
  go_upto_region 1 with fail
  change Code.wp _ _ _ _ ((w.alloc (.cells (mcs m (.slice A1 n1 c1) (.slice A2 n2 c2) (.slice A3 n3 c3) (.slice A4 n4 c4)) 79)).alloc (.cells msgC 79))
  generalize (w.alloc (.cells (mcs m (.slice A1 n1 c1) (.slice A2 n2 c2) (.slice A3 n3 c3) (.slice A4 n4 c4)) 79)).alloc (.cells msgC 79) = V at *
  rw [hG] at aa
  have HG := Lib.hid aa.1
  have HG2 := Lib.hid aa.2
  have HQ0 := Lib.hid q0
  have zz := (mcells aa.1).1
  clear aa q0 hz
  go_upto_region 5 with fail
  clear zz hk
  refine wp_region_any (by kernel_rfl) ?_
  refine wpAny_invlA [true, true, true, true, true, true, true, true, true, false, false] [false, false, false, false, false, false, false, false, true, false, false] [9, 10] (by kernel_rfl) (by kernel_rfl) Rb (br2 G m ok1 ok2 A1 A2 A3 A4 n1 n2 n3 n4 c1 c2 c3 c4) rb_refl rb_trans (fun c a d v w h => by cases d <;> exact h) ⟨?_, ?_, ?_, ?_, ?_, ?_, ?_, ?_, ?_, trivial⟩ ?_
  · intro Fr u w1 hTold K hK
    obtain ⟨hN, hO, hR, hdep⟩ := hTold
    rw [if_pos (by rfl)]
    have y1 : Fr.tmps[1]? = some (.pointer (some ⟨G, 0, none⟩)) := hO 1 _ rfl rfl
    clear hN hO hdep
    go_simp
    refine hK _ _ (rb_refl _) fun w3 h3 => ?_
    exact rfl
  · intro Fr u w1 hTold K hK
    obtain ⟨hN, hO, hR, hdep⟩ := hTold
    rw [if_pos (by rfl)]
    have x0 : Fr.tmps[26]? = some (u 0) := hN 0 _ 26 rfl rfl rfl
    rw [show u 0 = .pointer (some ⟨G, 0, none⟩) from hdep 0 (by kernel_rfl) w1 (rb_refl _)] at x0
    clear hN hO hdep
    obtain ⟨z0, -, -, -, -, -, -⟩ := mcells (block_below hR HG.out)
    rw [HK.out] at z0
    go_simp
    refine hK _ _ (rb_refl _) fun w3 h3 => ?_
    exact rfl
  · intro Fr u w1 hTold K hK
    obtain ⟨hN, hO, hR, hdep⟩ := hTold
    rw [if_pos (by rfl)]
    have y1 : Fr.tmps[1]? = some (.pointer (some ⟨G, 0, none⟩)) := hO 1 _ rfl rfl
    clear hN hO hdep
    go_simp
    refine hK _ _ (rb_refl _) fun w3 h3 => ?_
    exact rfl
  · intro Fr u w1 hTold K hK
    obtain ⟨hN, hO, hR, hdep⟩ := hTold
    rw [if_pos (by rfl)]
    have x2 : Fr.tmps[28]? = some (u 2) := hN 2 _ 28 rfl rfl rfl
    rw [show u 2 = .pointer (some ⟨G, 10, none⟩) from hdep 2 (by kernel_rfl) w1 (rb_refl _)] at x2
    clear hN hO hdep
    obtain ⟨z0, -, z2, -, -, -, -⟩ := mcells (block_below hR HG.out)
    refine wp_loadA 52 (.tmp 28) rfl G 10 (ev_tmp x2) (vcs m.vote) _ z2 Tryz.underlying52 rfl size52 ?_
    refine hK _ _ (rb_refl _) fun w3 h3 => ?_
    exact rfl
  · intro Fr u w1 hTold K hK
    obtain ⟨hN, hO, hR, hdep⟩ := hTold
    rw [if_pos (by rfl)]
    have x1 : Fr.tmps[27]? = some (u 1) := hN 1 _ 27 rfl rfl rfl
    rw [show u 1 = .int .i64 2 from hdep 1 (by kernel_rfl) w1 (rb_refl _)] at x1
    have x3 : Fr.tmps[29]? = some (u 3) := hN 3 _ 29 rfl rfl rfl
    rw [show u 3 = .agg (vcs m.vote) from hdep 3 (by kernel_rfl) w1 (rb_refl _)] at x3
    clear hN hO hdep
    refine wp_buildA 79 _ rfl (mcs { msgZ with kind := 2, vote := m.vote } nS nS nS nS) (by simp only [List.map_toArray, List.map_cons, List.map_nil]; rw [ev_tmp x1, ev_tmp x3]; kernel_rfl) ?_
    refine hK _ _ (rb_refl _) fun w3 h3 => ?_
    exact rfl
  · intro Fr u w1 hTold K hK
    obtain ⟨hN, hO, hR, hdep⟩ := hTold
    rw [if_pos (by rfl)]
    have y1 : Fr.tmps[1]? = some (.pointer (some ⟨G, 0, none⟩)) := hO 1 _ rfl rfl
    clear hN hO hdep
    go_simp
    refine hK _ _ (rb_refl _) fun w3 h3 => ?_
    exact rfl
  · intro Fr u w1 hTold K hK
    obtain ⟨hN, hO, hR, hdep⟩ := hTold
    rw [if_pos (by rfl)]
    have x5 : Fr.tmps[31]? = some (u 5) := hN 5 _ 31 rfl rfl rfl
    rw [show u 5 = .pointer (some ⟨G, 10, none⟩) from hdep 5 (by kernel_rfl) w1 (rb_refl _)] at x5
    clear hN hO hdep
    obtain ⟨z0, -, z2, -, -, -, -⟩ := mcells (block_below hR HG.out)
    refine wp_loadA 52 (.tmp 31) rfl G 10 (ev_tmp x5) (vcs m.vote) _ z2 Tryz.underlying52 rfl size52 ?_
    refine hK _ _ (rb_refl _) fun w3 h3 => ?_
    exact rfl
  · intro Fr u w1 hTold K hK
    obtain ⟨hN, hO, hR, hdep⟩ := hTold
    rw [if_pos (by rfl)]
    have x6 : Fr.tmps[32]? = some (u 6) := hN 6 _ 32 rfl rfl rfl
    rw [show u 6 = .agg (vcs m.vote) from hdep 6 (by kernel_rfl) w1 (rb_refl _)] at x6
    clear hN hO hdep
    go_simp
    refine (HC.out w1).mono ?_
    rintro x w2 ⟨rfl, b2⟩
    refine hK _ _ b2 fun w3 h3 => ?_
    exact rfl
  · intro Fr u w1 hTold
    obtain ⟨hN, hO, hR, hdep⟩ := hTold
    have x7 : Fr.tmps[33]? = some (u 7) := hN 7 _ 33 rfl rfl rfl
    rw [show u 7 = .bool (!ok1) from hdep 7 (by kernel_rfl) w1 (rb_refl _)] at x7
    clear hN hO hdep
    refine ⟨.bool ok1, fun w2 h2 => ?_, Or.inl ⟨by rfl, fun w => by go_simp⟩⟩
    exact rfl
  · intro u w' hR hall
    have e4 : u 4 = .agg (mcs { msgZ with kind := 2, vote := m.vote } nS nS nS nS) := hall 4 rfl
    have eL : u 8 = .bool ok1 := hall 8 rfl
    have bw : Below V.heap.size V w' := bl_trans (bl_drew (Below.refl _ _)) hR
    have g1 := block_below bw HG2.out
    clear hall
    change wpList _ _ _ ([_, _]) _ _
    simp only [frameM, frameM_nil, Act.put, List.setIfInBounds_toArray, List.set_cons_zero, List.set_cons_succ, Nat.reduceAdd, e4, eL]
    clear e4 eL
    go_wp2_with (refine wpList_store_row rfl 79 (.tmp 2) (.tmp 30) rfl (G + 1) rfl (mcs { msgZ with kind := 2, vote := m.vote } nS nS nS nS) rfl 79 msgC g1 (by kernel_rfl) (by kernel_rfl) (by kernel_rfl) ?_)
    refine bodyPost_ret (results_cell_row2 rfl _ _ (G + 1) 79 (mcs { msgZ with kind := 2, vote := m.vote } nS nS nS nS) (0, 0) _ rfl (setRow_same g1) Tryz.underlying79 rfl (by kernel_rfl)) rfl ?_
    have BF : Below w.heap.size w (w'.setRow (G + 1) (mcs { msgZ with kind := 2, vote := m.vote } nS nS nS nS)) := bl_setRow (bl_trans HQ0.out bw) (by omega)
    exact ⟨⟨nS, nS, nS, nS, rfl, ⟨none, 0, none, 0, none, 0, none, 0, B, rfl, rfl, rfl, rfl, Kd.row_nil _ _ _ _ _, Kd.row_nil _ _ _ _ _, Kd.row_nil _ _ _ _ _, Kd.row_nil _ _ _ _ _⟩⟩, by first | exact BF | exact hG ▸ BF⟩

def br3 (G : Nat) (m : Msg) (ok1 ok2 : Bool) (A1 A2 A3 A4 : Option Addr) (n1 n2 n3 n4 c1 c2 c3 c4 : Nat) : Nat → Value → World → Prop
  | 0, y, _ => y = .pointer (some ⟨G, 0, none⟩)
  | 1, y, _ => y = .int .i64 3
  | 2, y, _ => y = .pointer (some ⟨G, 17, none⟩)
  | 3, y, _ => y = .agg (ccs m.cert (.slice A3 n3 c3))
  | 4, y, _ => y = .agg (mcs { msgZ with kind := 3, cert := m.cert } nS nS (.slice A3 n3 c3) nS)
  | 5, y, _ => y = .pointer (some ⟨G, 17, none⟩)
  | 6, y, _ => y = .agg (ccs m.cert (.slice A3 n3 c3))
  | 7, y, _ => y = .bool ok1
  | _, _, _ => True
set_option maxHeartbeats 3200000 in
set_option maxRecDepth 100000 in
theorem bare3_calls (m : Msg) (v1 v2 v3 v4 : Value) (w : World) (hL : MsgLen m) (hv : MsgRow w m v1 v2 v3 v4) (hk : m.kind = 3) :
    Calls Tryz.prog 150 #[.agg (mcs m v1 v2 v3 v4)] w fun e w' => (∃ u1 u2 u3 u4, e = .returned (.tuple #[.agg (mcs (bareM m) u1 u2 u3 u4), .bool (bareOk m)]) ∧ MsgRow w' (bareM m) u1 u2 u3 u4) ∧ Below w.heap.size w w' := by
  have eM : bareM m = { msgZ with kind := 3, cert := m.cert } := by unfold bareM; rw [hk]; rfl
  have eO : bareOk m = (certOk m.cert) := by unfold bareOk; rw [hk]; rfl
  rw [eM, eO]
  obtain ⟨A1, c1, A2, c2, A3, c3, A4, c4, B, rfl, rfl, rfl, rfl, r1, r2, r3, r4⟩ := hv
  obtain ⟨l1, l2, l3, l4⟩ := hL
  obtain ⟨n1, hn1⟩ : ∃ n, n = m.block.justify.votes.length := ⟨_, rfl⟩
  obtain ⟨n2, hn2⟩ : ∃ n, n = m.block.txs.length := ⟨_, rfl⟩
  obtain ⟨n3, hn3⟩ : ∃ n, n = m.cert.votes.length := ⟨_, rfl⟩
  obtain ⟨n4, hn4⟩ : ∃ n, n = m.blames.length := ⟨_, rfl⟩
  rw [← hn1, ← hn2, ← hn3, ← hn4]
  obtain ⟨ok1, ho1⟩ : ∃ b, certOk m.cert = b := ⟨_, rfl⟩
  obtain ⟨ok2, ho2⟩ : ∃ b, votedOk m.block.justify.votes = b := ⟨_, rfl⟩
  rw [ho1]
  have q0 := bl_alloc (bl_alloc (Below.refl w.heap.size w) (.cells (mcs m (.slice A1 n1 c1) (.slice A2 n2 c2) (.slice A3 n3 c3) (.slice A4 n4 c4)) 79)) (.cells msgC 79)
  have aa := alloc2_new w (.cells (mcs m (.slice A1 n1 c1) (.slice A2 n2 c2) (.slice A3 n3 c3) (.slice A4 n4 c4)) 79) (.cells msgC 79)
  have R1 := Lib.hid r1
  have R2 := Lib.hid r2
  have R3 := Lib.hid r3
  have R4 := Lib.hid r4
  have HN1 := Lib.hid hn1
  have HN2 := Lib.hid hn2
  have HN3 := Lib.hid hn3
  have HN4 := Lib.hid hn4
  have HK := Lib.hid hk
  have hc := fun W (hW : kVote.Row 52 B W A3 m.cert.votes) => certified_calls m.cert A3 n3 c3 B W hn3 l3 hW
  rw [ho1] at hc
  have HC := Lib.hid hc
  obtain ⟨G, hG⟩ : ∃ G, w.heap.size = G := ⟨_, rfl⟩
  have hz : (w.alloc (.cells (mcs m (.slice A1 n1 c1) (.slice A2 n2 c2) (.slice A3 n3 c3) (.slice A4 n4 c4)) 79)).heap.size = G + 1 := by rw [World.size_alloc, hG]
  clear eM eO l1 l2 l3 l4 hn1 hn2 hn3 hn4 r1 r2 r3 r4 ho1 ho2 hc
  go_enter Tryz.func150, Tryz.ntmps150
  go_upto_region 1 with fail
  change Code.wp _ _ _ _ ((w.alloc (.cells (mcs m (.slice A1 n1 c1) (.slice A2 n2 c2) (.slice A3 n3 c3) (.slice A4 n4 c4)) 79)).alloc (.cells msgC 79))
  generalize (w.alloc (.cells (mcs m (.slice A1 n1 c1) (.slice A2 n2 c2) (.slice A3 n3 c3) (.slice A4 n4 c4)) 79)).alloc (.cells msgC 79) = V at *
  rw [hG] at aa
  have HG := Lib.hid aa.1
  have HG2 := Lib.hid aa.2
  have HQ0 := Lib.hid q0
  have zz := (mcells aa.1).1
  clear aa q0 hz
  go_upto_region 7 with fail
  clear zz hk
  refine wp_region_any (by kernel_rfl) ?_
  refine wpAny_invtA [true, true, true, true, true, true, true, true, false, false] [8, 9] (by kernel_rfl) (by kernel_rfl) Rb (br3 G m ok1 ok2 A1 A2 A3 A4 n1 n2 n3 n4 c1 c2 c3 c4) rb_refl rb_trans ⟨?_, ?_, ?_, ?_, ?_, ?_, ?_, ?_, trivial⟩ ?_
  · intro Fr u hN hO w1 hR hdep K hK
    rw [if_pos (by rfl)]
    have y1 : Fr.tmps[1]? = some (.pointer (some ⟨G, 0, none⟩)) := hO 1 _ rfl rfl
    clear hN hO hdep
    go_simp
    refine hK _ _ (rb_refl _) fun w3 h3 => ?_
    exact rfl
  · intro Fr u hN hO w1 hR hdep K hK
    rw [if_pos (by rfl)]
    have x0 : Fr.tmps[37]? = some (u 0) := hN 0 _ 37 rfl rfl rfl
    rw [show u 0 = .pointer (some ⟨G, 0, none⟩) from hdep 0 (by kernel_rfl) w1 (rb_refl _)] at x0
    clear hN hO hdep
    obtain ⟨z0, -, -, -, -, -, -⟩ := mcells (block_below hR HG.out)
    rw [HK.out] at z0
    go_simp
    refine hK _ _ (rb_refl _) fun w3 h3 => ?_
    exact rfl
  · intro Fr u hN hO w1 hR hdep K hK
    rw [if_pos (by rfl)]
    have y1 : Fr.tmps[1]? = some (.pointer (some ⟨G, 0, none⟩)) := hO 1 _ rfl rfl
    clear hN hO hdep
    go_simp
    refine hK _ _ (rb_refl _) fun w3 h3 => ?_
    exact rfl
  · intro Fr u hN hO w1 hR hdep K hK
    rw [if_pos (by rfl)]
    have x2 : Fr.tmps[39]? = some (u 2) := hN 2 _ 39 rfl rfl rfl
    rw [show u 2 = .pointer (some ⟨G, 17, none⟩) from hdep 2 (by kernel_rfl) w1 (rb_refl _)] at x2
    clear hN hO hdep
    obtain ⟨z0, -, -, z3, -, -, -⟩ := mcells (block_below hR HG.out)
    refine wp_loadA 37 (.tmp 39) rfl G 17 (ev_tmp x2) (ccs m.cert (.slice A3 n3 c3)) _ z3 Tryz.underlying37 rfl size37 ?_
    refine hK _ _ (rb_refl _) fun w3 h3 => ?_
    exact rfl
  · intro Fr u hN hO w1 hR hdep K hK
    rw [if_pos (by rfl)]
    have x1 : Fr.tmps[38]? = some (u 1) := hN 1 _ 38 rfl rfl rfl
    rw [show u 1 = .int .i64 3 from hdep 1 (by kernel_rfl) w1 (rb_refl _)] at x1
    have x3 : Fr.tmps[40]? = some (u 3) := hN 3 _ 40 rfl rfl rfl
    rw [show u 3 = .agg (ccs m.cert (.slice A3 n3 c3)) from hdep 3 (by kernel_rfl) w1 (rb_refl _)] at x3
    clear hN hO hdep
    refine wp_buildA 79 _ rfl (mcs { msgZ with kind := 3, cert := m.cert } nS nS (.slice A3 n3 c3) nS) (by simp only [List.map_toArray, List.map_cons, List.map_nil]; rw [ev_tmp x1, ev_tmp x3]; kernel_rfl) ?_
    refine hK _ _ (rb_refl _) fun w3 h3 => ?_
    exact rfl
  · intro Fr u hN hO w1 hR hdep K hK
    rw [if_pos (by rfl)]
    have y1 : Fr.tmps[1]? = some (.pointer (some ⟨G, 0, none⟩)) := hO 1 _ rfl rfl
    clear hN hO hdep
    go_simp
    refine hK _ _ (rb_refl _) fun w3 h3 => ?_
    exact rfl
  · intro Fr u hN hO w1 hR hdep K hK
    rw [if_pos (by rfl)]
    have x5 : Fr.tmps[42]? = some (u 5) := hN 5 _ 42 rfl rfl rfl
    rw [show u 5 = .pointer (some ⟨G, 17, none⟩) from hdep 5 (by kernel_rfl) w1 (rb_refl _)] at x5
    clear hN hO hdep
    obtain ⟨z0, -, -, z3, -, -, -⟩ := mcells (block_below hR HG.out)
    refine wp_loadA 37 (.tmp 42) rfl G 17 (ev_tmp x5) (ccs m.cert (.slice A3 n3 c3)) _ z3 Tryz.underlying37 rfl size37 ?_
    refine hK _ _ (rb_refl _) fun w3 h3 => ?_
    exact rfl
  · intro Fr u hN hO w1 hR hdep K hK
    rw [if_pos (by rfl)]
    have x6 : Fr.tmps[43]? = some (u 6) := hN 6 _ 43 rfl rfl rfl
    rw [show u 6 = .agg (ccs m.cert (.slice A3 n3 c3)) from hdep 6 (by kernel_rfl) w1 (rb_refl _)] at x6
    clear hN hO hdep
    go_simp
    refine (HC.out w1 (Kd.row_below (bl_trans HQ0.out (bl_trans (bl_drew (Below.refl _ _)) hR)) R3.out)).mono ?_
    rintro x w2 ⟨rfl, b2⟩
    refine hK _ _ b2 fun w3 h3 => ?_
    exact rfl
  · intro u w' hR hall
    have e4 : u 4 = .agg (mcs { msgZ with kind := 3, cert := m.cert } nS nS (.slice A3 n3 c3) nS) := hall 4 rfl
    have eL : u 7 = .bool ok1 := hall 7 rfl
    have bw : Below V.heap.size V w' := bl_trans (bl_drew (Below.refl _ _)) hR
    have g1 := block_below bw HG2.out
    clear hall
    change wpList _ _ _ ([_, _]) _ _
    simp only [frameM, frameM_nil, Act.put, List.setIfInBounds_toArray, List.set_cons_zero, List.set_cons_succ, Nat.reduceAdd, e4, eL]
    clear e4 eL
    go_wp2_with (refine wpList_store_row rfl 79 (.tmp 2) (.tmp 41) rfl (G + 1) rfl (mcs { msgZ with kind := 3, cert := m.cert } nS nS (.slice A3 n3 c3) nS) rfl 79 msgC g1 (by kernel_rfl) (by kernel_rfl) (by kernel_rfl) ?_)
    refine bodyPost_ret (results_cell_row2 rfl _ _ (G + 1) 79 (mcs { msgZ with kind := 3, cert := m.cert } nS nS (.slice A3 n3 c3) nS) (0, 0) _ rfl (setRow_same g1) Tryz.underlying79 rfl (by kernel_rfl)) rfl ?_
    have BF : Below w.heap.size w (w'.setRow (G + 1) (mcs { msgZ with kind := 3, cert := m.cert } nS nS (.slice A3 n3 c3) nS)) := bl_setRow (bl_trans HQ0.out bw) (by omega)
    exact ⟨⟨nS, nS, .slice A3 n3 c3, nS, rfl, ⟨none, 0, none, 0, A3, c3, none, 0, B, rfl, rfl, by rw [← HN3.out], rfl, Kd.row_nil _ _ _ _ _, Kd.row_nil _ _ _ _ _, Kd.row_below BF R3.out, Kd.row_nil _ _ _ _ _⟩⟩, by first | exact BF | exact hG ▸ BF⟩

def br4 (G : Nat) (m : Msg) (ok1 ok2 : Bool) (A1 A2 A3 A4 : Option Addr) (n1 n2 n3 n4 c1 c2 c3 c4 : Nat) : Nat → Value → World → Prop
  | 0, y, _ => y = .pointer (some ⟨G, 0, none⟩)
  | 1, y, _ => y = .int .i64 4
  | 2, y, _ => y = .pointer (some ⟨G, 21, none⟩)
  | 3, y, _ => y = .slice A4 n4 c4
  | 4, y, _ => y = .agg (mcs { msgZ with kind := 4, blames := m.blames } nS nS nS (.slice A4 n4 c4))
  | 5, y, _ => y = .pointer (some ⟨G, 21, none⟩)
  | 6, y, _ => y = .slice A4 n4 c4
  | 7, y, _ => y = .bool ok1
  | _, _, _ => True
set_option maxHeartbeats 3200000 in
set_option maxRecDepth 100000 in
theorem bare4_calls (m : Msg) (v1 v2 v3 v4 : Value) (w : World) (hL : MsgLen m) (hv : MsgRow w m v1 v2 v3 v4) (hk : m.kind = 4) :
    Calls Tryz.prog 150 #[.agg (mcs m v1 v2 v3 v4)] w fun e w' => (∃ u1 u2 u3 u4, e = .returned (.tuple #[.agg (mcs (bareM m) u1 u2 u3 u4), .bool (bareOk m)]) ∧ MsgRow w' (bareM m) u1 u2 u3 u4) ∧ Below w.heap.size w w' := by
  have eM : bareM m = { msgZ with kind := 4, blames := m.blames } := by unfold bareM; rw [hk]; rfl
  have eO : bareOk m = (votedOk m.blames) := by unfold bareOk; rw [hk]; rfl
  rw [eM, eO]
  obtain ⟨A1, c1, A2, c2, A3, c3, A4, c4, B, rfl, rfl, rfl, rfl, r1, r2, r3, r4⟩ := hv
  obtain ⟨l1, l2, l3, l4⟩ := hL
  obtain ⟨n1, hn1⟩ : ∃ n, n = m.block.justify.votes.length := ⟨_, rfl⟩
  obtain ⟨n2, hn2⟩ : ∃ n, n = m.block.txs.length := ⟨_, rfl⟩
  obtain ⟨n3, hn3⟩ : ∃ n, n = m.cert.votes.length := ⟨_, rfl⟩
  obtain ⟨n4, hn4⟩ : ∃ n, n = m.blames.length := ⟨_, rfl⟩
  rw [← hn1, ← hn2, ← hn3, ← hn4]
  obtain ⟨ok1, ho1⟩ : ∃ b, votedOk m.blames = b := ⟨_, rfl⟩
  obtain ⟨ok2, ho2⟩ : ∃ b, votedOk m.block.justify.votes = b := ⟨_, rfl⟩
  rw [ho1]
  have q0 := bl_alloc (bl_alloc (Below.refl w.heap.size w) (.cells (mcs m (.slice A1 n1 c1) (.slice A2 n2 c2) (.slice A3 n3 c3) (.slice A4 n4 c4)) 79)) (.cells msgC 79)
  have aa := alloc2_new w (.cells (mcs m (.slice A1 n1 c1) (.slice A2 n2 c2) (.slice A3 n3 c3) (.slice A4 n4 c4)) 79) (.cells msgC 79)
  have R1 := Lib.hid r1
  have R2 := Lib.hid r2
  have R3 := Lib.hid r3
  have R4 := Lib.hid r4
  have HN1 := Lib.hid hn1
  have HN2 := Lib.hid hn2
  have HN3 := Lib.hid hn3
  have HN4 := Lib.hid hn4
  have HK := Lib.hid hk
  have hc := fun W (hW : kVote.Row 52 B W A4 m.blames) => voted_calls m.blames A4 n4 c4 B W hn4 l4 hW
  rw [ho1] at hc
  have HC := Lib.hid hc
  obtain ⟨G, hG⟩ : ∃ G, w.heap.size = G := ⟨_, rfl⟩
  have hz : (w.alloc (.cells (mcs m (.slice A1 n1 c1) (.slice A2 n2 c2) (.slice A3 n3 c3) (.slice A4 n4 c4)) 79)).heap.size = G + 1 := by rw [World.size_alloc, hG]
  clear eM eO l1 l2 l3 l4 hn1 hn2 hn3 hn4 r1 r2 r3 r4 ho1 ho2 hc
  go_enter Tryz.func150, Tryz.ntmps150
  go_upto_region 1 with fail
  change Code.wp _ _ _ _ ((w.alloc (.cells (mcs m (.slice A1 n1 c1) (.slice A2 n2 c2) (.slice A3 n3 c3) (.slice A4 n4 c4)) 79)).alloc (.cells msgC 79))
  generalize (w.alloc (.cells (mcs m (.slice A1 n1 c1) (.slice A2 n2 c2) (.slice A3 n3 c3) (.slice A4 n4 c4)) 79)).alloc (.cells msgC 79) = V at *
  rw [hG] at aa
  have HG := Lib.hid aa.1
  have HG2 := Lib.hid aa.2
  have HQ0 := Lib.hid q0
  have zz := (mcells aa.1).1
  clear aa q0 hz
  go_upto_region 9 with fail
  clear zz hk
  refine wp_region_any (by kernel_rfl) ?_
  refine wpAny_invtA [true, true, true, true, true, true, true, true, false, false] [8, 9] (by kernel_rfl) (by kernel_rfl) Rb (br4 G m ok1 ok2 A1 A2 A3 A4 n1 n2 n3 n4 c1 c2 c3 c4) rb_refl rb_trans ⟨?_, ?_, ?_, ?_, ?_, ?_, ?_, ?_, trivial⟩ ?_
  · intro Fr u hN hO w1 hR hdep K hK
    rw [if_pos (by rfl)]
    have y1 : Fr.tmps[1]? = some (.pointer (some ⟨G, 0, none⟩)) := hO 1 _ rfl rfl
    clear hN hO hdep
    go_simp
    refine hK _ _ (rb_refl _) fun w3 h3 => ?_
    exact rfl
  · intro Fr u hN hO w1 hR hdep K hK
    rw [if_pos (by rfl)]
    have x0 : Fr.tmps[47]? = some (u 0) := hN 0 _ 47 rfl rfl rfl
    rw [show u 0 = .pointer (some ⟨G, 0, none⟩) from hdep 0 (by kernel_rfl) w1 (rb_refl _)] at x0
    clear hN hO hdep
    obtain ⟨z0, -, -, -, -, -, -⟩ := mcells (block_below hR HG.out)
    rw [HK.out] at z0
    go_simp
    refine hK _ _ (rb_refl _) fun w3 h3 => ?_
    exact rfl
  · intro Fr u hN hO w1 hR hdep K hK
    rw [if_pos (by rfl)]
    have y1 : Fr.tmps[1]? = some (.pointer (some ⟨G, 0, none⟩)) := hO 1 _ rfl rfl
    clear hN hO hdep
    go_simp
    refine hK _ _ (rb_refl _) fun w3 h3 => ?_
    exact rfl
  · intro Fr u hN hO w1 hR hdep K hK
    rw [if_pos (by rfl)]
    have x2 : Fr.tmps[49]? = some (u 2) := hN 2 _ 49 rfl rfl rfl
    rw [show u 2 = .pointer (some ⟨G, 21, none⟩) from hdep 2 (by kernel_rfl) w1 (rb_refl _)] at x2
    clear hN hO hdep
    obtain ⟨z0, -, -, -, z4, -, -⟩ := mcells (block_below hR HG.out)
    go_simp
    refine hK _ _ (rb_refl _) fun w3 h3 => ?_
    exact rfl
  · intro Fr u hN hO w1 hR hdep K hK
    rw [if_pos (by rfl)]
    have x1 : Fr.tmps[48]? = some (u 1) := hN 1 _ 48 rfl rfl rfl
    rw [show u 1 = .int .i64 4 from hdep 1 (by kernel_rfl) w1 (rb_refl _)] at x1
    have x3 : Fr.tmps[50]? = some (u 3) := hN 3 _ 50 rfl rfl rfl
    rw [show u 3 = .slice A4 n4 c4 from hdep 3 (by kernel_rfl) w1 (rb_refl _)] at x3
    clear hN hO hdep
    refine wp_buildA 79 _ rfl (mcs { msgZ with kind := 4, blames := m.blames } nS nS nS (.slice A4 n4 c4)) (by simp only [List.map_toArray, List.map_cons, List.map_nil]; rw [ev_tmp x1, ev_tmp x3]; kernel_rfl) ?_
    refine hK _ _ (rb_refl _) fun w3 h3 => ?_
    exact rfl
  · intro Fr u hN hO w1 hR hdep K hK
    rw [if_pos (by rfl)]
    have y1 : Fr.tmps[1]? = some (.pointer (some ⟨G, 0, none⟩)) := hO 1 _ rfl rfl
    clear hN hO hdep
    go_simp
    refine hK _ _ (rb_refl _) fun w3 h3 => ?_
    exact rfl
  · intro Fr u hN hO w1 hR hdep K hK
    rw [if_pos (by rfl)]
    have x5 : Fr.tmps[52]? = some (u 5) := hN 5 _ 52 rfl rfl rfl
    rw [show u 5 = .pointer (some ⟨G, 21, none⟩) from hdep 5 (by kernel_rfl) w1 (rb_refl _)] at x5
    clear hN hO hdep
    obtain ⟨z0, -, -, -, z4, -, -⟩ := mcells (block_below hR HG.out)
    go_simp
    refine hK _ _ (rb_refl _) fun w3 h3 => ?_
    exact rfl
  · intro Fr u hN hO w1 hR hdep K hK
    rw [if_pos (by rfl)]
    have x6 : Fr.tmps[53]? = some (u 6) := hN 6 _ 53 rfl rfl rfl
    rw [show u 6 = .slice A4 n4 c4 from hdep 6 (by kernel_rfl) w1 (rb_refl _)] at x6
    clear hN hO hdep
    go_simp
    refine (HC.out w1 (Kd.row_below (bl_trans HQ0.out (bl_trans (bl_drew (Below.refl _ _)) hR)) R4.out)).mono ?_
    rintro x w2 ⟨rfl, b2⟩
    refine hK _ _ b2 fun w3 h3 => ?_
    exact rfl
  · intro u w' hR hall
    have e4 : u 4 = .agg (mcs { msgZ with kind := 4, blames := m.blames } nS nS nS (.slice A4 n4 c4)) := hall 4 rfl
    have eL : u 7 = .bool ok1 := hall 7 rfl
    have bw : Below V.heap.size V w' := bl_trans (bl_drew (Below.refl _ _)) hR
    have g1 := block_below bw HG2.out
    clear hall
    change wpList _ _ _ ([_, _]) _ _
    simp only [frameM, frameM_nil, Act.put, List.setIfInBounds_toArray, List.set_cons_zero, List.set_cons_succ, Nat.reduceAdd, e4, eL]
    clear e4 eL
    go_wp2_with (refine wpList_store_row rfl 79 (.tmp 2) (.tmp 51) rfl (G + 1) rfl (mcs { msgZ with kind := 4, blames := m.blames } nS nS nS (.slice A4 n4 c4)) rfl 79 msgC g1 (by kernel_rfl) (by kernel_rfl) (by kernel_rfl) ?_)
    refine bodyPost_ret (results_cell_row2 rfl _ _ (G + 1) 79 (mcs { msgZ with kind := 4, blames := m.blames } nS nS nS (.slice A4 n4 c4)) (0, 0) _ rfl (setRow_same g1) Tryz.underlying79 rfl (by kernel_rfl)) rfl ?_
    have BF : Below w.heap.size w (w'.setRow (G + 1) (mcs { msgZ with kind := 4, blames := m.blames } nS nS nS (.slice A4 n4 c4))) := bl_setRow (bl_trans HQ0.out bw) (by omega)
    exact ⟨⟨nS, nS, nS, .slice A4 n4 c4, rfl, ⟨none, 0, none, 0, none, 0, A4, c4, B, rfl, rfl, rfl, by rw [← HN4.out], Kd.row_nil _ _ _ _ _, Kd.row_nil _ _ _ _ _, Kd.row_nil _ _ _ _ _, Kd.row_below BF R4.out⟩⟩, by first | exact BF | exact hG ▸ BF⟩

def br6true (G : Nat) (m : Msg) (ok1 ok2 : Bool) (A1 A2 A3 A4 : Option Addr) (n1 n2 n3 n4 c1 c2 c3 c4 : Nat) : Nat → Value → World → Prop
  | 0, y, _ => y = .pointer (some ⟨G, 0, none⟩)
  | 1, y, _ => y = .int .i64 6
  | 2, y, _ => y = .pointer (some ⟨G, 23, none⟩)
  | 3, y, _ => y = .agg (tcs m.tx)
  | 4, y, _ => y = .agg (mcs { msgZ with kind := 6, tx := m.tx } nS nS nS nS)
  | 5, y, _ => y = .pointer (some ⟨G, 23, none⟩)
  | 6, y, _ => y = .agg (tcs m.tx)
  | 7, y, _ => y = .int .i64 0
  | 8, y, _ => y = .bool true
  | _, _, _ => True
set_option maxHeartbeats 3200000 in
set_option maxRecDepth 100000 in
theorem bare6t_calls (m : Msg) (v1 v2 v3 v4 : Value) (w : World) (hL : MsgLen m) (hv : MsgRow w m v1 v2 v3 v4) (hk : m.kind = 6) (ho1 : txOk m.tx = true) :
    Calls Tryz.prog 150 #[.agg (mcs m v1 v2 v3 v4)] w fun e w' => (∃ u1 u2 u3 u4, e = .returned (.tuple #[.agg (mcs (bareM m) u1 u2 u3 u4), .bool (bareOk m)]) ∧ MsgRow w' (bareM m) u1 u2 u3 u4) ∧ Below w.heap.size w w' := by
  have eM : bareM m = { msgZ with kind := 6, tx := m.tx } := by unfold bareM; rw [hk]; rfl
  have eO : bareOk m = (txOk m.tx) := by unfold bareOk; rw [hk]; rfl
  rw [eM, eO]
  obtain ⟨A1, c1, A2, c2, A3, c3, A4, c4, B, rfl, rfl, rfl, rfl, r1, r2, r3, r4⟩ := hv
  obtain ⟨l1, l2, l3, l4⟩ := hL
  obtain ⟨n1, hn1⟩ : ∃ n, n = m.block.justify.votes.length := ⟨_, rfl⟩
  obtain ⟨n2, hn2⟩ : ∃ n, n = m.block.txs.length := ⟨_, rfl⟩
  obtain ⟨n3, hn3⟩ : ∃ n, n = m.cert.votes.length := ⟨_, rfl⟩
  obtain ⟨n4, hn4⟩ : ∃ n, n = m.blames.length := ⟨_, rfl⟩
  rw [← hn1, ← hn2, ← hn3, ← hn4]
  obtain ⟨ok1, hok⟩ : ∃ b : Bool, b = true := ⟨_, rfl⟩
  obtain ⟨ok2, ho2⟩ : ∃ b, votedOk m.block.justify.votes = b := ⟨_, rfl⟩
  rw [ho1]
  have q0 := bl_alloc (bl_alloc (Below.refl w.heap.size w) (.cells (mcs m (.slice A1 n1 c1) (.slice A2 n2 c2) (.slice A3 n3 c3) (.slice A4 n4 c4)) 79)) (.cells msgC 79)
  have aa := alloc2_new w (.cells (mcs m (.slice A1 n1 c1) (.slice A2 n2 c2) (.slice A3 n3 c3) (.slice A4 n4 c4)) 79) (.cells msgC 79)
  have R1 := Lib.hid r1
  have R2 := Lib.hid r2
  have R3 := Lib.hid r3
  have R4 := Lib.hid r4
  have HN1 := Lib.hid hn1
  have HN2 := Lib.hid hn2
  have HN3 := Lib.hid hn3
  have HN4 := Lib.hid hn4
  have HK := Lib.hid hk
  have hc := fun W => tcheck_calls m.tx W
  have hb : chkT m.tx = 0 := by unfold chkT; rw [ho1]; rfl
  rw [hb] at hc
  have HC := Lib.hid hc
  obtain ⟨G, hG⟩ : ∃ G, w.heap.size = G := ⟨_, rfl⟩
  have hz : (w.alloc (.cells (mcs m (.slice A1 n1 c1) (.slice A2 n2 c2) (.slice A3 n3 c3) (.slice A4 n4 c4)) 79)).heap.size = G + 1 := by rw [World.size_alloc, hG]
  clear eM eO l1 l2 l3 l4 hn1 hn2 hn3 hn4 r1 r2 r3 r4 ho1 ho2 hc hb
  go_enter Tryz.func150, Tryz.ntmps150
  go_upto_region 1 with fail
  change Code.wp _ _ _ _ ((w.alloc (.cells (mcs m (.slice A1 n1 c1) (.slice A2 n2 c2) (.slice A3 n3 c3) (.slice A4 n4 c4)) 79)).alloc (.cells msgC 79))
  generalize (w.alloc (.cells (mcs m (.slice A1 n1 c1) (.slice A2 n2 c2) (.slice A3 n3 c3) (.slice A4 n4 c4)) 79)).alloc (.cells msgC 79) = V at *
  rw [hG] at aa
  have HG := Lib.hid aa.1
  have HG2 := Lib.hid aa.2
  have HQ0 := Lib.hid q0
  have zz := (mcells aa.1).1
  clear aa q0 hz
  go_upto_region 13 with fail
  clear zz hk
  refine wp_region_any (by kernel_rfl) ?_
  refine wpAny_invlA [true, true, true, true, true, true, true, true, true, false, false] [false, false, false, false, false, false, false, false, true, false, false] [9, 10] (by kernel_rfl) (by kernel_rfl) Rb (br6true G m ok1 ok2 A1 A2 A3 A4 n1 n2 n3 n4 c1 c2 c3 c4) rb_refl rb_trans (fun c a d v w h => by cases d <;> exact h) ⟨?_, ?_, ?_, ?_, ?_, ?_, ?_, ?_, ?_, trivial⟩ ?_
  · intro Fr u w1 hTold K hK
    obtain ⟨hN, hO, hR, hdep⟩ := hTold
    rw [if_pos (by rfl)]
    have y1 : Fr.tmps[1]? = some (.pointer (some ⟨G, 0, none⟩)) := hO 1 _ rfl rfl
    clear hN hO hdep
    go_simp
    refine hK _ _ (rb_refl _) fun w3 h3 => ?_
    exact rfl
  · intro Fr u w1 hTold K hK
    obtain ⟨hN, hO, hR, hdep⟩ := hTold
    rw [if_pos (by rfl)]
    have x0 : Fr.tmps[68]? = some (u 0) := hN 0 _ 68 rfl rfl rfl
    rw [show u 0 = .pointer (some ⟨G, 0, none⟩) from hdep 0 (by kernel_rfl) w1 (rb_refl _)] at x0
    clear hN hO hdep
    obtain ⟨z0, -, -, -, -, -, -⟩ := mcells (block_below hR HG.out)
    rw [HK.out] at z0
    go_simp
    refine hK _ _ (rb_refl _) fun w3 h3 => ?_
    exact rfl
  · intro Fr u w1 hTold K hK
    obtain ⟨hN, hO, hR, hdep⟩ := hTold
    rw [if_pos (by rfl)]
    have y1 : Fr.tmps[1]? = some (.pointer (some ⟨G, 0, none⟩)) := hO 1 _ rfl rfl
    clear hN hO hdep
    go_simp
    refine hK _ _ (rb_refl _) fun w3 h3 => ?_
    exact rfl
  · intro Fr u w1 hTold K hK
    obtain ⟨hN, hO, hR, hdep⟩ := hTold
    rw [if_pos (by rfl)]
    have x2 : Fr.tmps[70]? = some (u 2) := hN 2 _ 70 rfl rfl rfl
    rw [show u 2 = .pointer (some ⟨G, 23, none⟩) from hdep 2 (by kernel_rfl) w1 (rb_refl _)] at x2
    clear hN hO hdep
    obtain ⟨z0, -, -, -, -, -, z6⟩ := mcells (block_below hR HG.out)
    refine wp_loadA 77 (.tmp 70) rfl G 23 (ev_tmp x2) (tcs m.tx) _ z6 Tryz.underlying77 rfl size77 ?_
    refine hK _ _ (rb_refl _) fun w3 h3 => ?_
    exact rfl
  · intro Fr u w1 hTold K hK
    obtain ⟨hN, hO, hR, hdep⟩ := hTold
    rw [if_pos (by rfl)]
    have x1 : Fr.tmps[69]? = some (u 1) := hN 1 _ 69 rfl rfl rfl
    rw [show u 1 = .int .i64 6 from hdep 1 (by kernel_rfl) w1 (rb_refl _)] at x1
    have x3 : Fr.tmps[71]? = some (u 3) := hN 3 _ 71 rfl rfl rfl
    rw [show u 3 = .agg (tcs m.tx) from hdep 3 (by kernel_rfl) w1 (rb_refl _)] at x3
    clear hN hO hdep
    refine wp_buildA 79 _ rfl (mcs { msgZ with kind := 6, tx := m.tx } nS nS nS nS) (by simp only [List.map_toArray, List.map_cons, List.map_nil]; rw [ev_tmp x1, ev_tmp x3]; kernel_rfl) ?_
    refine hK _ _ (rb_refl _) fun w3 h3 => ?_
    exact rfl
  · intro Fr u w1 hTold K hK
    obtain ⟨hN, hO, hR, hdep⟩ := hTold
    rw [if_pos (by rfl)]
    have y1 : Fr.tmps[1]? = some (.pointer (some ⟨G, 0, none⟩)) := hO 1 _ rfl rfl
    clear hN hO hdep
    go_simp
    refine hK _ _ (rb_refl _) fun w3 h3 => ?_
    exact rfl
  · intro Fr u w1 hTold K hK
    obtain ⟨hN, hO, hR, hdep⟩ := hTold
    rw [if_pos (by rfl)]
    have x5 : Fr.tmps[73]? = some (u 5) := hN 5 _ 73 rfl rfl rfl
    rw [show u 5 = .pointer (some ⟨G, 23, none⟩) from hdep 5 (by kernel_rfl) w1 (rb_refl _)] at x5
    clear hN hO hdep
    obtain ⟨z0, -, -, -, -, -, z6⟩ := mcells (block_below hR HG.out)
    refine wp_loadA 77 (.tmp 73) rfl G 23 (ev_tmp x5) (tcs m.tx) _ z6 Tryz.underlying77 rfl size77 ?_
    refine hK _ _ (rb_refl _) fun w3 h3 => ?_
    exact rfl
  · intro Fr u w1 hTold K hK
    obtain ⟨hN, hO, hR, hdep⟩ := hTold
    rw [if_pos (by rfl)]
    have x6 : Fr.tmps[74]? = some (u 6) := hN 6 _ 74 rfl rfl rfl
    rw [show u 6 = .agg (tcs m.tx) from hdep 6 (by kernel_rfl) w1 (rb_refl _)] at x6
    clear hN hO hdep
    go_simp
    refine (HC.out w1).mono ?_
    rintro x w2 ⟨rfl, b2⟩
    refine hK _ _ b2 fun w3 h3 => ?_
    exact rfl
  · intro Fr u w1 hTold
    obtain ⟨hN, hO, hR, hdep⟩ := hTold
    have x7 : Fr.tmps[75]? = some (u 7) := hN 7 _ 75 rfl rfl rfl
    rw [show u 7 = .int .i64 0 from hdep 7 (by kernel_rfl) w1 (rb_refl _)] at x7
    clear hN hO hdep
    refine ⟨.bool true, fun w2 h2 => ?_, Or.inl ⟨by rfl, fun w => by go_simp⟩⟩
    exact rfl
  · intro u w' hR hall
    have e4 : u 4 = .agg (mcs { msgZ with kind := 6, tx := m.tx } nS nS nS nS) := hall 4 rfl
    have eL : u 8 = .bool true := hall 8 rfl
    have bw : Below V.heap.size V w' := bl_trans (bl_drew (Below.refl _ _)) hR
    have g1 := block_below bw HG2.out
    clear hall
    change wpList _ _ _ ([_, _]) _ _
    simp only [frameM, frameM_nil, Act.put, List.setIfInBounds_toArray, List.set_cons_zero, List.set_cons_succ, Nat.reduceAdd, e4, eL]
    clear e4 eL
    go_wp2_with (refine wpList_store_row rfl 79 (.tmp 2) (.tmp 72) rfl (G + 1) rfl (mcs { msgZ with kind := 6, tx := m.tx } nS nS nS nS) rfl 79 msgC g1 (by kernel_rfl) (by kernel_rfl) (by kernel_rfl) ?_)
    refine bodyPost_ret (results_cell_row2 rfl _ _ (G + 1) 79 (mcs { msgZ with kind := 6, tx := m.tx } nS nS nS nS) (0, 0) _ rfl (setRow_same g1) Tryz.underlying79 rfl (by kernel_rfl)) rfl ?_
    have BF : Below w.heap.size w (w'.setRow (G + 1) (mcs { msgZ with kind := 6, tx := m.tx } nS nS nS nS)) := bl_setRow (bl_trans HQ0.out bw) (by omega)
    exact ⟨⟨nS, nS, nS, nS, rfl, ⟨none, 0, none, 0, none, 0, none, 0, B, rfl, rfl, rfl, rfl, Kd.row_nil _ _ _ _ _, Kd.row_nil _ _ _ _ _, Kd.row_nil _ _ _ _ _, Kd.row_nil _ _ _ _ _⟩⟩, by first | exact BF | exact hG ▸ BF⟩

def br6false (G : Nat) (m : Msg) (ok1 ok2 : Bool) (A1 A2 A3 A4 : Option Addr) (n1 n2 n3 n4 c1 c2 c3 c4 : Nat) : Nat → Value → World → Prop
  | 0, y, _ => y = .pointer (some ⟨G, 0, none⟩)
  | 1, y, _ => y = .int .i64 6
  | 2, y, _ => y = .pointer (some ⟨G, 23, none⟩)
  | 3, y, _ => y = .agg (tcs m.tx)
  | 4, y, _ => y = .agg (mcs { msgZ with kind := 6, tx := m.tx } nS nS nS nS)
  | 5, y, _ => y = .pointer (some ⟨G, 23, none⟩)
  | 6, y, _ => y = .agg (tcs m.tx)
  | 7, y, _ => y = .int .i64 9
  | 8, y, _ => y = .bool false
  | _, _, _ => True
set_option maxHeartbeats 3200000 in
set_option maxRecDepth 100000 in
theorem bare6f_calls (m : Msg) (v1 v2 v3 v4 : Value) (w : World) (hL : MsgLen m) (hv : MsgRow w m v1 v2 v3 v4) (hk : m.kind = 6) (ho1 : txOk m.tx = false) :
    Calls Tryz.prog 150 #[.agg (mcs m v1 v2 v3 v4)] w fun e w' => (∃ u1 u2 u3 u4, e = .returned (.tuple #[.agg (mcs (bareM m) u1 u2 u3 u4), .bool (bareOk m)]) ∧ MsgRow w' (bareM m) u1 u2 u3 u4) ∧ Below w.heap.size w w' := by
  have eM : bareM m = { msgZ with kind := 6, tx := m.tx } := by unfold bareM; rw [hk]; rfl
  have eO : bareOk m = (txOk m.tx) := by unfold bareOk; rw [hk]; rfl
  rw [eM, eO]
  obtain ⟨A1, c1, A2, c2, A3, c3, A4, c4, B, rfl, rfl, rfl, rfl, r1, r2, r3, r4⟩ := hv
  obtain ⟨l1, l2, l3, l4⟩ := hL
  obtain ⟨n1, hn1⟩ : ∃ n, n = m.block.justify.votes.length := ⟨_, rfl⟩
  obtain ⟨n2, hn2⟩ : ∃ n, n = m.block.txs.length := ⟨_, rfl⟩
  obtain ⟨n3, hn3⟩ : ∃ n, n = m.cert.votes.length := ⟨_, rfl⟩
  obtain ⟨n4, hn4⟩ : ∃ n, n = m.blames.length := ⟨_, rfl⟩
  rw [← hn1, ← hn2, ← hn3, ← hn4]
  obtain ⟨ok1, hok⟩ : ∃ b : Bool, b = false := ⟨_, rfl⟩
  obtain ⟨ok2, ho2⟩ : ∃ b, votedOk m.block.justify.votes = b := ⟨_, rfl⟩
  rw [ho1]
  have q0 := bl_alloc (bl_alloc (Below.refl w.heap.size w) (.cells (mcs m (.slice A1 n1 c1) (.slice A2 n2 c2) (.slice A3 n3 c3) (.slice A4 n4 c4)) 79)) (.cells msgC 79)
  have aa := alloc2_new w (.cells (mcs m (.slice A1 n1 c1) (.slice A2 n2 c2) (.slice A3 n3 c3) (.slice A4 n4 c4)) 79) (.cells msgC 79)
  have R1 := Lib.hid r1
  have R2 := Lib.hid r2
  have R3 := Lib.hid r3
  have R4 := Lib.hid r4
  have HN1 := Lib.hid hn1
  have HN2 := Lib.hid hn2
  have HN3 := Lib.hid hn3
  have HN4 := Lib.hid hn4
  have HK := Lib.hid hk
  have hc := fun W => tcheck_calls m.tx W
  have hb : chkT m.tx = 9 := by unfold chkT; rw [ho1]; rfl
  rw [hb] at hc
  have HC := Lib.hid hc
  obtain ⟨G, hG⟩ : ∃ G, w.heap.size = G := ⟨_, rfl⟩
  have hz : (w.alloc (.cells (mcs m (.slice A1 n1 c1) (.slice A2 n2 c2) (.slice A3 n3 c3) (.slice A4 n4 c4)) 79)).heap.size = G + 1 := by rw [World.size_alloc, hG]
  clear eM eO l1 l2 l3 l4 hn1 hn2 hn3 hn4 r1 r2 r3 r4 ho1 ho2 hc hb
  go_enter Tryz.func150, Tryz.ntmps150
  go_upto_region 1 with fail
  change Code.wp _ _ _ _ ((w.alloc (.cells (mcs m (.slice A1 n1 c1) (.slice A2 n2 c2) (.slice A3 n3 c3) (.slice A4 n4 c4)) 79)).alloc (.cells msgC 79))
  generalize (w.alloc (.cells (mcs m (.slice A1 n1 c1) (.slice A2 n2 c2) (.slice A3 n3 c3) (.slice A4 n4 c4)) 79)).alloc (.cells msgC 79) = V at *
  rw [hG] at aa
  have HG := Lib.hid aa.1
  have HG2 := Lib.hid aa.2
  have HQ0 := Lib.hid q0
  have zz := (mcells aa.1).1
  clear aa q0 hz
  go_upto_region 13 with fail
  clear zz hk
  refine wp_region_any (by kernel_rfl) ?_
  refine wpAny_invlA [true, true, true, true, true, true, true, true, true, false, false] [false, false, false, false, false, false, false, false, true, false, false] [9, 10] (by kernel_rfl) (by kernel_rfl) Rb (br6false G m ok1 ok2 A1 A2 A3 A4 n1 n2 n3 n4 c1 c2 c3 c4) rb_refl rb_trans (fun c a d v w h => by cases d <;> exact h) ⟨?_, ?_, ?_, ?_, ?_, ?_, ?_, ?_, ?_, trivial⟩ ?_
  · intro Fr u w1 hTold K hK
    obtain ⟨hN, hO, hR, hdep⟩ := hTold
    rw [if_pos (by rfl)]
    have y1 : Fr.tmps[1]? = some (.pointer (some ⟨G, 0, none⟩)) := hO 1 _ rfl rfl
    clear hN hO hdep
    go_simp
    refine hK _ _ (rb_refl _) fun w3 h3 => ?_
    exact rfl
  · intro Fr u w1 hTold K hK
    obtain ⟨hN, hO, hR, hdep⟩ := hTold
    rw [if_pos (by rfl)]
    have x0 : Fr.tmps[68]? = some (u 0) := hN 0 _ 68 rfl rfl rfl
    rw [show u 0 = .pointer (some ⟨G, 0, none⟩) from hdep 0 (by kernel_rfl) w1 (rb_refl _)] at x0
    clear hN hO hdep
    obtain ⟨z0, -, -, -, -, -, -⟩ := mcells (block_below hR HG.out)
    rw [HK.out] at z0
    go_simp
    refine hK _ _ (rb_refl _) fun w3 h3 => ?_
    exact rfl
  · intro Fr u w1 hTold K hK
    obtain ⟨hN, hO, hR, hdep⟩ := hTold
    rw [if_pos (by rfl)]
    have y1 : Fr.tmps[1]? = some (.pointer (some ⟨G, 0, none⟩)) := hO 1 _ rfl rfl
    clear hN hO hdep
    go_simp
    refine hK _ _ (rb_refl _) fun w3 h3 => ?_
    exact rfl
  · intro Fr u w1 hTold K hK
    obtain ⟨hN, hO, hR, hdep⟩ := hTold
    rw [if_pos (by rfl)]
    have x2 : Fr.tmps[70]? = some (u 2) := hN 2 _ 70 rfl rfl rfl
    rw [show u 2 = .pointer (some ⟨G, 23, none⟩) from hdep 2 (by kernel_rfl) w1 (rb_refl _)] at x2
    clear hN hO hdep
    obtain ⟨z0, -, -, -, -, -, z6⟩ := mcells (block_below hR HG.out)
    refine wp_loadA 77 (.tmp 70) rfl G 23 (ev_tmp x2) (tcs m.tx) _ z6 Tryz.underlying77 rfl size77 ?_
    refine hK _ _ (rb_refl _) fun w3 h3 => ?_
    exact rfl
  · intro Fr u w1 hTold K hK
    obtain ⟨hN, hO, hR, hdep⟩ := hTold
    rw [if_pos (by rfl)]
    have x1 : Fr.tmps[69]? = some (u 1) := hN 1 _ 69 rfl rfl rfl
    rw [show u 1 = .int .i64 6 from hdep 1 (by kernel_rfl) w1 (rb_refl _)] at x1
    have x3 : Fr.tmps[71]? = some (u 3) := hN 3 _ 71 rfl rfl rfl
    rw [show u 3 = .agg (tcs m.tx) from hdep 3 (by kernel_rfl) w1 (rb_refl _)] at x3
    clear hN hO hdep
    refine wp_buildA 79 _ rfl (mcs { msgZ with kind := 6, tx := m.tx } nS nS nS nS) (by simp only [List.map_toArray, List.map_cons, List.map_nil]; rw [ev_tmp x1, ev_tmp x3]; kernel_rfl) ?_
    refine hK _ _ (rb_refl _) fun w3 h3 => ?_
    exact rfl
  · intro Fr u w1 hTold K hK
    obtain ⟨hN, hO, hR, hdep⟩ := hTold
    rw [if_pos (by rfl)]
    have y1 : Fr.tmps[1]? = some (.pointer (some ⟨G, 0, none⟩)) := hO 1 _ rfl rfl
    clear hN hO hdep
    go_simp
    refine hK _ _ (rb_refl _) fun w3 h3 => ?_
    exact rfl
  · intro Fr u w1 hTold K hK
    obtain ⟨hN, hO, hR, hdep⟩ := hTold
    rw [if_pos (by rfl)]
    have x5 : Fr.tmps[73]? = some (u 5) := hN 5 _ 73 rfl rfl rfl
    rw [show u 5 = .pointer (some ⟨G, 23, none⟩) from hdep 5 (by kernel_rfl) w1 (rb_refl _)] at x5
    clear hN hO hdep
    obtain ⟨z0, -, -, -, -, -, z6⟩ := mcells (block_below hR HG.out)
    refine wp_loadA 77 (.tmp 73) rfl G 23 (ev_tmp x5) (tcs m.tx) _ z6 Tryz.underlying77 rfl size77 ?_
    refine hK _ _ (rb_refl _) fun w3 h3 => ?_
    exact rfl
  · intro Fr u w1 hTold K hK
    obtain ⟨hN, hO, hR, hdep⟩ := hTold
    rw [if_pos (by rfl)]
    have x6 : Fr.tmps[74]? = some (u 6) := hN 6 _ 74 rfl rfl rfl
    rw [show u 6 = .agg (tcs m.tx) from hdep 6 (by kernel_rfl) w1 (rb_refl _)] at x6
    clear hN hO hdep
    go_simp
    refine (HC.out w1).mono ?_
    rintro x w2 ⟨rfl, b2⟩
    refine hK _ _ b2 fun w3 h3 => ?_
    exact rfl
  · intro Fr u w1 hTold
    obtain ⟨hN, hO, hR, hdep⟩ := hTold
    have x7 : Fr.tmps[75]? = some (u 7) := hN 7 _ 75 rfl rfl rfl
    rw [show u 7 = .int .i64 9 from hdep 7 (by kernel_rfl) w1 (rb_refl _)] at x7
    clear hN hO hdep
    refine ⟨.bool false, fun w2 h2 => ?_, Or.inl ⟨by rfl, fun w => by go_simp⟩⟩
    exact rfl
  · intro u w' hR hall
    have e4 : u 4 = .agg (mcs { msgZ with kind := 6, tx := m.tx } nS nS nS nS) := hall 4 rfl
    have eL : u 8 = .bool false := hall 8 rfl
    have bw : Below V.heap.size V w' := bl_trans (bl_drew (Below.refl _ _)) hR
    have g1 := block_below bw HG2.out
    clear hall
    change wpList _ _ _ ([_, _]) _ _
    simp only [frameM, frameM_nil, Act.put, List.setIfInBounds_toArray, List.set_cons_zero, List.set_cons_succ, Nat.reduceAdd, e4, eL]
    clear e4 eL
    go_wp2_with (refine wpList_store_row rfl 79 (.tmp 2) (.tmp 72) rfl (G + 1) rfl (mcs { msgZ with kind := 6, tx := m.tx } nS nS nS nS) rfl 79 msgC g1 (by kernel_rfl) (by kernel_rfl) (by kernel_rfl) ?_)
    refine bodyPost_ret (results_cell_row2 rfl _ _ (G + 1) 79 (mcs { msgZ with kind := 6, tx := m.tx } nS nS nS nS) (0, 0) _ rfl (setRow_same g1) Tryz.underlying79 rfl (by kernel_rfl)) rfl ?_
    have BF : Below w.heap.size w (w'.setRow (G + 1) (mcs { msgZ with kind := 6, tx := m.tx } nS nS nS nS)) := bl_setRow (bl_trans HQ0.out bw) (by omega)
    exact ⟨⟨nS, nS, nS, nS, rfl, ⟨none, 0, none, 0, none, 0, none, 0, B, rfl, rfl, rfl, rfl, Kd.row_nil _ _ _ _ _, Kd.row_nil _ _ _ _ _, Kd.row_nil _ _ _ _ _, Kd.row_nil _ _ _ _ _⟩⟩, by first | exact BF | exact hG ▸ BF⟩

end Go.Proofs.YtcbfpdenjdgnlaaGreat
