/- Package message: bare, of an asked block and of no kind. No claim of its own; no condition. -/
import Derived.Test.YtcbfpdenjdgnlaaGreatQt31
import Derived.Test.YtcbfpdenjdgnlaaGreatQt22
namespace Go.Proofs.YtcbfpdenjdgnlaaGreat
open Go.ChangeShapes Go.WideShapes Go.ChangeAt Go.RowKit
set_option linter.unusedVariables false
set_option linter.unusedSimpArgs false
theorem bareOther_calls (m : Msg) (v1 v2 v3 v4 : Value) (w : World) (h1 : m.kind ≠ 1) (h2 : m.kind ≠ 2) (h3 : m.kind ≠ 3) (h4 : m.kind ≠ 4) (h5 : m.kind ≠ 5) (h6 : m.kind ≠ 6) :
    Calls Tryz.prog 150 #[.agg (mcs m v1 v2 v3 v4)] w fun e w' => (∃ u1 u2 u3 u4, e = .returned (.tuple #[.agg (mcs (bareM m) u1 u2 u3 u4), .bool (bareOk m)]) ∧ MsgRow w' (bareM m) u1 u2 u3 u4) ∧ Below w.heap.size w w' := by
  have eM : bareM m = msgZ := by unfold bareM; rw [if_neg h1, if_neg h2, if_neg h3, if_neg h4, if_neg h5, if_neg h6]
  have eO : bareOk m = false := by unfold bareOk; rw [if_neg h1, if_neg h2, if_neg h3, if_neg h4, if_neg h5, if_neg h6]
  rw [eM, eO]
  have q0 := bl_alloc (bl_alloc (Below.refl w.heap.size w) (.cells (mcs m v1 v2 v3 v4) 79)) (.cells msgC 79)
  have aa := alloc2_new w (.cells (mcs m v1 v2 v3 v4) 79) (.cells msgC 79)
  obtain ⟨G, hG⟩ : ∃ G, w.heap.size = G := ⟨_, rfl⟩
  have hz : (w.alloc (.cells (mcs m v1 v2 v3 v4) 79)).heap.size = G + 1 := by rw [World.size_alloc, hG]
  obtain ⟨k, hk⟩ : ∃ k, m.kind = k := ⟨_, rfl⟩
  have HK := Lib.hid hk
  rw [hk] at h1 h2 h3 h4 h5 h6
  clear eM eO
  go_enter Tryz.func150, Tryz.ntmps150
  go_upto_region 1 with fail
  change Code.wp _ _ _ _ ((w.alloc (.cells (mcs m v1 v2 v3 v4) 79)).alloc (.cells msgC 79))
  generalize (w.alloc (.cells (mcs m v1 v2 v3 v4) 79)).alloc (.cells msgC 79) = V at *
  rw [hG] at aa
  have HG2 := Lib.hid aa.2
  have HQ0 := Lib.hid q0
  have zz := (mcells aa.1).1
  clear aa q0 hz
  go_wp2_with first
    | (refine wpList_buildTo rfl 79 _ rfl _ rfl msgC (by kernel_rfl) ?_)
    | (refine wpList_store_row rfl 79 (.tmp 2) (.tmp 77) rfl (G + 1) rfl msgC rfl 79 msgC HG2.out (by kernel_rfl) (by kernel_rfl) (by kernel_rfl) ?_)
  refine bodyPost_ret (results_cell_row2 rfl _ _ (G + 1) 79 msgC (0, 0) _ rfl (setRow_same HG2.out) Tryz.underlying79 rfl (by kernel_rfl)) rfl ?_
  have BF : Below w.heap.size w (V.setRow (G + 1) msgC) := bl_setRow HQ0.out (by omega)
  exact ⟨⟨nS, nS, nS, nS, rfl, ⟨none, 0, none, 0, none, 0, none, 0, 0, rfl, rfl, rfl, rfl, Kd.row_nil _ _ _ _ _, Kd.row_nil _ _ _ _ _, Kd.row_nil _ _ _ _ _, Kd.row_nil _ _ _ _ _⟩⟩, by first | exact BF | exact hG ▸ BF⟩
def br5 (G : Nat) (a : ByteArray) (ok : Bool) : Nat → Value → World → Prop
  | 0, y, _ => y = .pointer (some ⟨G, 0, none⟩)
  | 1, y, _ => y = .int .i64 5
  | 2, y, _ => y = .pointer (some ⟨G, 22, none⟩)
  | 3, y, _ => y = .string a
  | 4, y, _ => y = .agg (mcs { msgZ with kind := 5, asked := a } nS nS nS nS)
  | 5, y, _ => y = .pointer (some ⟨G, 22, none⟩)
  | 6, y, _ => y = .string a
  | 7, y, _ => y = .int .i64 (a.size : Int)
  | 8, y, _ => y = .bool ok
  | 9, y, w => w.heap[G + 1]? = some (.cells (mcs { msgZ with kind := 5, asked := a } nS nS nS nS) 79 (0, 0))
  | _, _, _ => True
theorem rk_setRowN (w : World) (N : Nat) (cs : Array Value) : RK N w (w.setRow N cs) :=
  ⟨rfl, rfl, rfl, by show _ ≤ (w.heap.modify N _).size; rw [Array.size_modify]; exact Nat.le_refl _, fun k _ hn => setRow_far hn⟩
set_option maxHeartbeats 1600000 in
set_option maxRecDepth 100000 in
theorem bare5_calls (m : Msg) (v1 v2 v3 v4 : Value) (w : World) (hk : m.kind = 5) :
    Calls Tryz.prog 150 #[.agg (mcs m v1 v2 v3 v4)] w fun e w' => (∃ u1 u2 u3 u4, e = .returned (.tuple #[.agg (mcs (bareM m) u1 u2 u3 u4), .bool (bareOk m)]) ∧ MsgRow w' (bareM m) u1 u2 u3 u4) ∧ Below w.heap.size w w' := by
  have eM : bareM m = { msgZ with kind := 5, asked := m.asked } := by unfold bareM; rw [hk]; rfl
  have eO : bareOk m = decide ((m.asked.size : Int) = 32) := by unfold bareOk; rw [hk]; rfl
  rw [eM, eO]
  have q0 := bl_alloc (bl_alloc (Below.refl w.heap.size w) (.cells (mcs m v1 v2 v3 v4) 79)) (.cells msgC 79)
  have aa := alloc2_new w (.cells (mcs m v1 v2 v3 v4) 79) (.cells msgC 79)
  obtain ⟨G, hG⟩ : ∃ G, w.heap.size = G := ⟨_, rfl⟩
  have hz : (w.alloc (.cells (mcs m v1 v2 v3 v4) 79)).heap.size = G + 1 := by rw [World.size_alloc, hG]
  obtain ⟨a, ha⟩ : ∃ a, m.asked = a := ⟨_, rfl⟩
  obtain ⟨ok, hok⟩ : ∃ b, decide ((a.size : Int) = 32) = b := ⟨_, rfl⟩
  rw [ha, hok]
  have HK := Lib.hid hk
  have HA := Lib.hid ha
  have HE5 := Lib.hid (show ((a.size : Int) == 32) = ok from by rw [← hok]; exact Bool.eq_iff_iff.2 (by simp))
  clear eM eO ha hok
  go_enter Tryz.func150, Tryz.ntmps150
  go_upto_region 1 with fail
  change Code.wp _ _ _ _ ((w.alloc (.cells (mcs m v1 v2 v3 v4) 79)).alloc (.cells msgC 79))
  generalize (w.alloc (.cells (mcs m v1 v2 v3 v4) 79)).alloc (.cells msgC 79) = V at *
  rw [hG] at aa
  have HQ0 := Lib.hid q0
  obtain ⟨zz, -, -, -, -, -, -⟩ := mcells aa.1
  have HG := Lib.hid aa.1
  have HG2 := Lib.hid aa.2
  have HLT := Lib.hid (show G < V.drew.heap.size from blk_lt aa.1)
  clear aa q0 hz
  go_upto_region 11 with fail
  clear zz hk
  refine wp_region_any (by kernel_rfl) ?_
  refine wpAny_invcA [true, true, true, true, true, true, true, true, true, true, false] [10] (by kernel_rfl) (by kernel_rfl) 9 (by kernel_rfl) Rb (RK (G + 1)) (br5 G a ok) rb_refl rb_trans (fun _ _ h => rk_below h) (fun _ _ _ h k => rk_trans h k) ⟨?_, ?_, ?_, ?_, ?_, ?_, ?_, ?_, ?_, ?_, trivial⟩ ?_
  · intro Fr u hN hO w1 hR hdep K hK
    rw [if_pos (by rfl)]
    have y1 : Fr.tmps[1]? = some (.pointer (some ⟨G, 0, none⟩)) := hO 1 _ rfl rfl
    clear hN hO hdep
    go_simp
    refine hK _ _ (rb_refl _) fun w3 h3 => ?_
    exact rfl
  · intro Fr u hN hO w1 hR hdep K hK
    rw [if_pos (by rfl)]
    have x0 : Fr.tmps[57]? = some (u 0) := hN 0 _ 57 rfl rfl rfl
    rw [show u 0 = .pointer (some ⟨G, 0, none⟩) from hdep 0 (by kernel_rfl) w1 (rk_refl _ _)] at x0
    clear hN hO hdep
    have hR : RK (G + 1) V.drew w1 := hR
    obtain ⟨z0, -, -, -, -, z5, -⟩ := mcells ((hR.block G HLT.out (by omega)).trans HG.out)
    rw [HK.out] at z0
    rw [HA.out] at z5
    go_simp
    refine hK _ _ (rb_refl _) fun w3 h3 => ?_
    exact rfl
  · intro Fr u hN hO w1 hR hdep K hK
    rw [if_pos (by rfl)]
    have y1 : Fr.tmps[1]? = some (.pointer (some ⟨G, 0, none⟩)) := hO 1 _ rfl rfl
    clear hN hO hdep
    go_simp
    refine hK _ _ (rb_refl _) fun w3 h3 => ?_
    exact rfl
  · intro Fr u hN hO w1 hR hdep K hK
    rw [if_pos (by rfl)]
    have x2 : Fr.tmps[59]? = some (u 2) := hN 2 _ 59 rfl rfl rfl
    rw [show u 2 = .pointer (some ⟨G, 22, none⟩) from hdep 2 (by kernel_rfl) w1 (rk_refl _ _)] at x2
    clear hN hO hdep
    have hR : RK (G + 1) V.drew w1 := hR
    obtain ⟨z0, -, -, -, -, z5, -⟩ := mcells ((hR.block G HLT.out (by omega)).trans HG.out)
    rw [HK.out] at z0
    rw [HA.out] at z5
    go_simp
    refine hK _ _ (rb_refl _) fun w3 h3 => ?_
    exact rfl
  · intro Fr u hN hO w1 hR hdep K hK
    rw [if_pos (by rfl)]
    have x1 : Fr.tmps[58]? = some (u 1) := hN 1 _ 58 rfl rfl rfl
    rw [show u 1 = .int .i64 5 from hdep 1 (by kernel_rfl) w1 (rk_refl _ _)] at x1
    have x3 : Fr.tmps[60]? = some (u 3) := hN 3 _ 60 rfl rfl rfl
    rw [show u 3 = .string a from hdep 3 (by kernel_rfl) w1 (rk_refl _ _)] at x3
    clear hN hO hdep
    refine wp_buildA 79 _ rfl (mcs { msgZ with kind := 5, asked := a } nS nS nS nS) (by simp only [List.map_toArray, List.map_cons, List.map_nil]; rw [ev_tmp x1, ev_tmp x3]; kernel_rfl) ?_
    refine hK _ _ (rb_refl _) fun w3 h3 => ?_
    exact rfl
  · intro Fr u hN hO w1 hR hdep K hK
    rw [if_pos (by rfl)]
    have y1 : Fr.tmps[1]? = some (.pointer (some ⟨G, 0, none⟩)) := hO 1 _ rfl rfl
    clear hN hO hdep
    go_simp
    refine hK _ _ (rb_refl _) fun w3 h3 => ?_
    exact rfl
  · intro Fr u hN hO w1 hR hdep K hK
    rw [if_pos (by rfl)]
    have x5 : Fr.tmps[62]? = some (u 5) := hN 5 _ 62 rfl rfl rfl
    rw [show u 5 = .pointer (some ⟨G, 22, none⟩) from hdep 5 (by kernel_rfl) w1 (rk_refl _ _)] at x5
    clear hN hO hdep
    have hR : RK (G + 1) V.drew w1 := hR
    obtain ⟨z0, -, -, -, -, z5, -⟩ := mcells ((hR.block G HLT.out (by omega)).trans HG.out)
    rw [HK.out] at z0
    rw [HA.out] at z5
    go_simp
    refine hK _ _ (rb_refl _) fun w3 h3 => ?_
    exact rfl
  · intro Fr u hN hO w1 hR hdep K hK
    rw [if_pos (by rfl)]
    have x6 : Fr.tmps[63]? = some (u 6) := hN 6 _ 63 rfl rfl rfl
    rw [show u 6 = .string a from hdep 6 (by kernel_rfl) w1 (rk_refl _ _)] at x6
    clear hN hO hdep
    go_simp
    refine hK _ _ (rb_refl _) fun w3 h3 => ?_
    exact rfl
  · intro Fr u hN hO w1 hR hdep K hK
    rw [if_pos (by rfl)]
    have x7 : Fr.tmps[64]? = some (u 7) := hN 7 _ 64 rfl rfl rfl
    rw [show u 7 = .int .i64 (a.size : Int) from hdep 7 (by kernel_rfl) w1 (rk_refl _ _)] at x7
    clear hN hO hdep
    have e5 := HE5.out
    go_simp
    refine hK _ _ (rb_refl _) fun w3 h3 => ?_
    exact rfl
  · intro Fr u hN hO w1 hR hdep K hK
    rw [if_pos (by rfl)]
    have y2 : Fr.tmps[2]? = some (.pointer (some ⟨G + 1, 0, none⟩)) := hO 2 _ rfl rfl
    have x4 : Fr.tmps[61]? = some (u 4) := hN 4 _ 61 rfl rfl rfl
    rw [show u 4 = .agg (mcs { msgZ with kind := 5, asked := a } nS nS nS nS) from hdep 4 (by kernel_rfl) w1 (rk_refl _ _)] at x4
    clear hN hO hdep
    have hR : Rb V.drew w1 := hR
    refine wp_store_row 79 (.tmp 2) (.tmp 61) rfl (G + 1) (mcs { msgZ with kind := 5, asked := a } nS nS nS nS) (ev_tmp y2) (ev_tmp x4) 79 msgC (block_below hR HG2.out) (by kernel_rfl) (by kernel_rfl) (by kernel_rfl) ?_
    refine hK _ _ (rk_setRowN w1 _ _) fun w3 h3 => ?_
    exact block_below h3 (setRow_same (block_below hR HG2.out))
  · intro u w' hR hall
    have e8 : u 8 = .bool ok := hall 8 rfl
    have g1 : w'.heap[G + 1]? = some (.cells (mcs { msgZ with kind := 5, asked := a } nS nS nS nS) 79 (0, 0)) := hall 9 rfl
    have hR : RK (G + 1) V.drew w' := hR
    change wpList _ _ _ ([_]) _ _
    simp only [frameM, frameM_nil, Act.put, List.setIfInBounds_toArray, List.set_cons_zero, List.set_cons_succ, Nat.reduceAdd, e8]
    clear e8 hall
    go_wp2_with fail
    refine bodyPost_ret (results_cell_row2 rfl _ _ (G + 1) 79 (mcs { msgZ with kind := 5, asked := a } nS nS nS nS) (0, 0) _ rfl g1 Tryz.underlying79 rfl (by kernel_rfl)) rfl ?_
    have BV : Below w.heap.size V.drew w' := rk_to hR (by omega) (by have := HQ0.out.size; exact this)
    have BF : Below w.heap.size w w' := (bl_drew HQ0.out).trans BV
    exact ⟨⟨nS, nS, nS, nS, rfl, ⟨none, 0, none, 0, none, 0, none, 0, 0, rfl, rfl, rfl, rfl, Kd.row_nil _ _ _ _ _, Kd.row_nil _ _ _ _ _, Kd.row_nil _ _ _ _ _, Kd.row_nil _ _ _ _ _⟩⟩, by first | exact BF | exact hG ▸ BF⟩
end Go.Proofs.YtcbfpdenjdgnlaaGreat
/- Package message: Check. No claim of its own; no condition. -/
namespace Go.Proofs.YtcbfpdenjdgnlaaGreat
open Go.ChangeShapes Go.WideShapes Go.ChangeAt Go.RowKit
set_option linter.unusedVariables false
set_option linter.unusedSimpArgs false
theorem bare_calls (m : Msg) (v1 v2 v3 v4 : Value) (w : World) (hL : MsgLen m) (hv : MsgRow w m v1 v2 v3 v4) :
    Calls Tryz.prog 150 #[.agg (mcs m v1 v2 v3 v4)] w fun e w' => (∃ u1 u2 u3 u4, e = .returned (.tuple #[.agg (mcs (bareM m) u1 u2 u3 u4), .bool (bareOk m)]) ∧ MsgRow w' (bareM m) u1 u2 u3 u4) ∧ Below w.heap.size w w' := by
  by_cases h1 : m.kind = 1
  · cases h : blockOk m.block
    · exact bare1f_calls m v1 v2 v3 v4 w hL hv h1 h
    · exact bare1t_calls m v1 v2 v3 v4 w hL hv h1 h
  by_cases h2 : m.kind = 2
  · exact bare2_calls m v1 v2 v3 v4 w hL hv h2
  by_cases h3 : m.kind = 3
  · exact bare3_calls m v1 v2 v3 v4 w hL hv h3
  by_cases h4 : m.kind = 4
  · exact bare4_calls m v1 v2 v3 v4 w hL hv h4
  by_cases h5 : m.kind = 5
  · exact bare5_calls m v1 v2 v3 v4 w h5
  by_cases h6 : m.kind = 6
  · cases h : txOk m.tx
    · exact bare6f_calls m v1 v2 v3 v4 w hL hv h6 h
    · exact bare6t_calls m v1 v2 v3 v4 w hL hv h6 h
  exact bareOther_calls m v1 v2 v3 v4 w h1 h2 h3 h4 h5 h6
theorem mcs_one {w : World} {m : Msg} {v1 v2 v3 v4 : Value} (h : MsgRow w m v1 v2 v3 v4) : (mcs m v1 v2 v3 v4).all (·.oneCell') = true := by
  obtain ⟨A1, c1, A2, c2, A3, c3, A4, c4, B, rfl, rfl, rfl, rfl, -⟩ := h
  kernel_rfl
/-- What Check tells of a message that has no fields but its kind's. -/
def chkM (m : Msg) : Int := if bareOk m = true then 0 else 9
set_option maxHeartbeats 1600000 in
set_option maxRecDepth 100000 in
theorem mcheck_calls (m : Msg) (v1 v2 v3 v4 : Value) (w : World) (hL : MsgLen m) (hv : MsgRow w m v1 v2 v3 v4) (hs : bareOk m = true → bareM m = m) :
    Calls Tryz.prog 79 #[.agg (mcs m v1 v2 v3 v4)] w fun e w' => e = .returned (.int .i64 (chkM m)) ∧ Below w.heap.size w w' := by
  have q0 := bl_alloc (Below.refl w.heap.size w) (.cells (mcs m v1 v2 v3 v4) 79)
  have a0 := alloc_new w (.cells (mcs m v1 v2 v3 v4) 79)
  have HV := Lib.hid (msgrow_below hv q0)
  obtain ⟨G, hG⟩ : ∃ G, w.heap.size = G := ⟨_, rfl⟩
  have hb := fun W hW => bare_calls m v1 v2 v3 v4 W hL hW
  cases hok : bareOk m with
  | false =>
    have hc : chkM m = 9 := by unfold chkM; rw [hok]; rfl
    rw [hc]
    rw [hok] at hb
    have HB := Lib.hid hb
    clear hb hv hs hok hc hL
    go_enter Tryz.func79, Tryz.ntmps79
    go_upto_region 1 with fail
    generalize w.alloc (.cells (mcs m v1 v2 v3 v4) 79) = V at *
    rw [hG] at a0
    have HQ := Lib.hid q0
    have HA := Lib.hid a0
    clear a0 q0
    go_wp2_with first
      | (refine wpList_load_row rfl 79 (.tmp 1) rfl G rfl 79 (mcs m v1 v2 v3 v4) (0, 0) _ HA.out Tryz.underlying79 rfl (by kernel_rfl) ?_)
      | (go_at_call 150; refine (HB.out _ HV.out).mono ?_; rintro e w1 ⟨⟨u1, u2, u3, u4, rfl, ru⟩, b1⟩)
      | (refine wpList_allocTo rfl _ rfl (.pointer (some ⟨_, 0, none⟩)) (.cells msgC 79) (by kernel_rfl) ?_)
      | (refine wpList_store_new msgC 79 _ rfl rfl 79 (.tmp 3) (.tmp 8) rfl rfl (mcs (bareM m) u1 u2 u3 u4) rfl (by kernel_rfl) (by kernel_rfl) (mcs_one ru) ?_)
    go_ret
    have BF := bl_alloc (bl_trans HQ.out b1) (.cells (mcs (bareM m) u1 u2 u3 u4) 79)
    exact ⟨rfl, by first | exact BF | exact hG ▸ BF⟩
  | true =>
    have hc : chkM m = 0 := by unfold chkM; rw [hok]; rfl
    have hm := hs hok
    rw [hc]
    rw [hok, hm] at hb
    have hsm := fun W (u1 u2 u3 u4 : Value) (h1 : MsgRow W m u1 u2 u3 u4) (h2 : MsgRow W m v1 v2 v3 v4) => same_calls m u1 u2 u3 u4 v1 v2 v3 v4 W hL h1 h2
    have HB := Lib.hid hb
    have HS := Lib.hid hsm
    clear hb hv hs hok hc hL hsm hm
    go_enter Tryz.func79, Tryz.ntmps79
    go_upto_region 1 with fail
    generalize w.alloc (.cells (mcs m v1 v2 v3 v4) 79) = V at *
    rw [hG] at a0
    have HQ := Lib.hid q0
    have HA := Lib.hid a0
    clear a0 q0
    go_upto_region 2 with first
      | (refine wpList_load_row rfl 79 (.tmp 1) rfl G rfl 79 (mcs m v1 v2 v3 v4) (0, 0) _ HA.out Tryz.underlying79 rfl (by kernel_rfl) ?_)
      | (go_at_call 150; refine (HB.out _ HV.out).mono ?_; rintro e w1 ⟨⟨u1, u2, u3, u4, rfl, ru⟩, b1⟩)
      | (refine wpList_allocTo rfl _ rfl (.pointer (some ⟨_, 0, none⟩)) (.cells msgC 79) (by kernel_rfl) ?_)
      | (refine wpList_store_new msgC 79 _ rfl rfl 79 (.tmp 3) (.tmp 8) rfl rfl (mcs m u1 u2 u3 u4) rfl (by kernel_rfl) (by kernel_rfl) (mcs_one ru) ?_)
    have B1 := bl_alloc (bl_trans HQ.out b1) (.cells (mcs m u1 u2 u3 u4) 79)
    have bq := bl_alloc (Below.refl w1.heap.size w1) (.cells (mcs m u1 u2 u3 u4) 79)
    have g1 := block_below bq (block_below b1 HA.out)
    have f1 := alloc_new w1 (.cells (mcs m u1 u2 u3 u4) 79)
    have ru1 := msgrow_below ru bq
    have rv1 := msgrow_below (msgrow_below HV.out b1) bq
    obtain ⟨G2, hG2⟩ : ∃ G2, w1.heap.size = G2 := ⟨_, rfl⟩
    rw [hG2] at f1
    simp only [hG2]
    clear hG2 bq
    generalize w1.alloc (.cells (mcs m u1 u2 u3 u4) 79) = V2 at *
    have z1 := block_range (o := 0) (l := (mcs m v1 v2 v3 v4).toList) g1 (by rw [List.drop_zero, List.take_length])
    have z2 := block_range (o := 0) (l := (mcs m u1 u2 u3 u4).toList) f1 (by rw [List.drop_zero, List.take_length])
    go_wp2_with first
      | (refine wpList_loadg (by rfl) 79 (.tmp 3) rfl G2 0 rfl (mcs m u1 u2 u3 u4) _ z2 Tryz.underlying79 rfl (by kernel_rfl) ?_)
      | (refine wpList_loadg (by rfl) 79 (.tmp 1) rfl G 0 rfl (mcs m v1 v2 v3 v4) _ z1 Tryz.underlying79 rfl (by kernel_rfl) ?_)
      | (go_at_call 151; refine (HS.out _ _ _ _ _ ru1 rv1).mono ?_; rintro e w2 ⟨rfl, b2⟩)
    go_ret
    have BF := bl_trans B1 b2
    exact ⟨rfl, by first | exact BF | exact hG ▸ BF⟩
end Go.Proofs.YtcbfpdenjdgnlaaGreat
