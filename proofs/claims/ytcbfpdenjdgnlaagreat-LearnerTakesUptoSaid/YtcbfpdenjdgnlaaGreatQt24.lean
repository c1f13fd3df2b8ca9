/- Package block: fields. No claim of its own; no condition. -/
import Derived.Test.YtcbfpdenjdgnlaaGreatQt23
namespace Go.Proofs.YtcbfpdenjdgnlaaGreat
open Go.ChangeShapes Go.WideShapes Go.ChangeAt Go.RowKit
set_option linter.unusedVariables false
set_option linter.unusedSimpArgs false
def bcs (b : Block) (v1 v2 : Value) : Array Value := #[.int .i64 b.view, .int .i64 b.height, .string b.parent, .int .i64 b.justify.view, .int .i64 b.justify.height, .string b.justify.block, v1, v2, .string b.sig]
def bzC : Array Value := #[.int .i64 0, .int .i64 0, .string ⟨#[]⟩, .int .i64 0, .int .i64 0, .string ⟨#[]⟩, .slice none 0 0, .slice none 0 0, .string ⟨#[]⟩]
theorem size40 : (Tryz.prog.info? 40).map (·.size) = some 9 := by kernel_rfl
theorem tinfo : (Tryz.prog.info? 77).map (fun i => (i.zero, i.size, i.bytes)) = some (some (.agg #[.int .i64 0, .int .i64 0, .int .i64 0, .int .i64 0, .string ⟨#[]⟩]), 5, 48) := by kernel_rfl
theorem flatTx : Kd.Flat kTx := Kd.flat_iso (Kd.flat_pair Kd.flat_int (Kd.flat_pair Kd.flat_int (Kd.flat_pair Kd.flat_int (Kd.flat_pair Kd.flat_int Kd.flat_str))))
theorem rdTx_bd (r : Rst) : IntOk (rdTx r).1.frm ∧ IntOk (rdTx r).1.to ∧ IntOk (rdTx r).1.amount ∧ IntOk (rdTx r).1.nonce ∧ (rdTx r).1.sig.size ≤ 4096 := by
  have hz : IntOk txZ.frm ∧ IntOk txZ.to ∧ IntOk txZ.amount ∧ IntOk txZ.nonce ∧ txZ.sig.size ≤ 4096 := by
    simp [txZ, IntOk, ByteArray.size]
  have hN : ∀ r m, IntOk (gN r m).1 := fun r m => by have := gN_bd r m; unfold IntOk; omega
  simp only [rdTx]
  split
  · split
    · simp only [rdTxF]
      exact ⟨hN _ _, hN _ _, hN _ _, hN _ _, gT_bd _ _⟩
    · exact hz
  · exact hz
theorem rdTx_k (B : Nat) (w : World) (r : Rst) : kTx.K B w (rdTx r).1 (tcs (rdTx r).1).toList := by
  obtain ⟨h0, h1, h2, h3, h4⟩ := rdTx_bd r
  exact kTx_mk _ h0 h1 h2 h3 (by omega)
theorem rdTxs_succ : ∀ (k : Nat) (r : Rst), rdTxs (k + 1) r = ((rdTxs k r).1 ++ [(rdTx (rdTxs k r).2).1], (rdTx (rdTxs k r).2).2)
  | 0, r => rfl
  | k + 1, r => by
    have ih := rdTxs_succ k (rdTx r).2
    rw [rdTxs, ih]
    rfl
theorem rdTxs_len : ∀ (k : Nat) (r : Rst), (rdTxs k r).1.length = k
  | 0, _ => rfl
  | k + 1, r => by
    rw [rdTxs]
    simp [rdTxs_len k]
def blA (N G3 : Nat) (v0 : Value) (cells : Array Value) (s6 : Rst) : Nat → Value → World → Prop
  | 0, y, _ => y = .pointer (some ⟨G3, 7, none⟩)
  | 1, y, _ => y = v0
  | 2, y, _ => y = .pointer (some ⟨N, 0, none⟩)
  | 3, y, w => y = .agg cells ∧ RdS w N s6
  | 4, y, w => ∃ g, y = .slice (some ⟨g, 0, none⟩) 1 1 ∧ w.heap[g]? = some (.cells cells 77 (0, 0)) ∧ g ≠ N
  | _, _, _ => True
set_option maxHeartbeats 1600000 in
set_option maxRecDepth 100000 in
theorem bfields_calls (w : World) (N : Nat) (r : Rst) (h : RdS w N r) :
    Calls Tryz.prog 237 #[.pointer (some ⟨N, 0, none⟩)] w fun x w' => (∃ v1 v2, x = .returned (.tuple #[.agg (bcs (rdBlockF r).1.1 v1 v2), .int .i64 (rdBlockF r).1.2]) ∧ kVote.Own 52 w.heap.size w' w.heap.size v1 (rdBlockF r).1.1.justify.votes ∧ kTx.Own 77 w.heap.size w' w.heap.size v2 (rdBlockF r).1.1.txs) ∧ RdS w' N (rdBlockF r).2 ∧ RK N w w' := by
  have q : RK N w (w.alloc (.cells bzC 40)) := rk_below (bl_alloc (Below.refl _ _) _)
  have h0 : RdS (w.alloc (.cells bzC 40)) N r := rds_below h (bl_alloc (Below.refl _ _) _)
  have g0 := alloc_new w (.cells bzC 40)
  obtain ⟨G2, hG2⟩ : ∃ G2, w.heap.size = G2 := ⟨_, rfl⟩
  have HQ := Lib.hid q
  have HG := Lib.hid g0
  have H0 := Lib.hid h0
  clear q g0 h0 h
  obtain ⟨P, hP⟩ : ∃ P, P = rdBlockF r := ⟨_, rfl⟩
  rw [← hP]
  have HP := Lib.hid hP
  clear hP
  obtain ⟨i0, hi, hz0, hz1, hz2⟩ := info_parts tinfo
  go_enter Tryz.func237, Tryz.ntmps237
  go_upto_region 1 with fail
  change Code.wp _ _ _ _ (w.alloc (.cells bzC 40))
  generalize w.alloc (.cells bzC 40) = W0 at *
  rw [hG2] at HG
  have c0 := block_cell HG.out (i := 0) rfl
  have h1 := H0.out
  have q1 := HQ.out
  have g1 := HG.out
  go_upto_region 2 with first
    | (go_at_call 181; with_reducible refine (num_z 1048576 h1).mono ?_; rintro x w2 ⟨a2, r2, e2, rfl, h2, k2⟩)
    | (go_at_call 181; with_reducible refine (num_z 1048576 h2).mono ?_; rintro x w3 ⟨a3, r3, e3, rfl, h3, k3⟩)
    | (go_at_call 185; with_reducible refine (text_z 32 h3).mono ?_; rintro x w4 ⟨a4, r4, e4, rfl, h4, k4⟩)
  have g4 := rk_block k4 h3 (rk_block k3 h2 (rk_block k2 h1 g1 (by decide)) (by decide)) (by decide)
  have q4 := rk_trans (rk_trans (rk_trans q1 k2) k3) k4
  have zz : G2 ≤ w4.heap.size := by have := q4.size; omega
  have Q := rk_alloc q4 (.cells #[.int .i64 a2, .int .i64 a3, .string a4, .int .i64 0, .int .i64 0, .string ⟨#[]⟩, .slice none 0 0, .slice none 0 0, .string ⟨#[]⟩] 40)
  have H := rds_below h4 (bl_alloc (Below.refl _ _) (.cells #[.int .i64 a2, .int .i64 a3, .string a4, .int .i64 0, .int .i64 0, .string ⟨#[]⟩, .slice none 0 0, .slice none 0 0, .string ⟨#[]⟩] 40))
  have G := alloc_old g4 (.cells #[.int .i64 a2, .int .i64 a3, .string a4, .int .i64 0, .int .i64 0, .string ⟨#[]⟩, .slice none 0 0, .slice none 0 0, .string ⟨#[]⟩] 40)
  have Fv := alloc_new w4 (.cells #[.int .i64 a2, .int .i64 a3, .string a4, .int .i64 0, .int .i64 0, .string ⟨#[]⟩, .slice none 0 0, .slice none 0 0, .string ⟨#[]⟩] 40)
  obtain ⟨G3, hG3⟩ : ∃ G3, w4.heap.size = G3 := ⟨_, rfl⟩
  rw [hG3] at Fv zz
  have ne : G2 ≠ G3 := by have := blk_lt g4; omega
  have zG : w.heap.size ≤ G3 := by omega
  simp only [hG3]
  clear q1 g1 h1 g4 q4 h2 h3 h4 k2 k3 k4 hG3 HQ HG H0 c0
  generalize w4.alloc (.cells _ 40) = W4 at *
  go_upto_region 3 with (go_at_call 181; with_reducible refine (num_z 1048576 H).mono ?_; rintro x w6 ⟨a6, r6, e6, rfl, h6, k6⟩)
  have f6 := rk_block k6 H Fv (by decide)
  have g6 := rk_block k6 H G (by decide)
  have q6 := rk_trans Q k6
  clear H Fv G Q k6
  go_upto_region 4 with (go_at_call 181; with_reducible refine (num_z 4 h6).mono ?_; rintro x w5 ⟨n5, r5, e5, rfl, h5, k5⟩)
  obtain ⟨n, hn, rfl⟩ : ∃ n : Nat, n ≤ 4 ∧ n5 = (n : Int) := by
    have := gN_bd r6 4
    have h7 := gN_le r6 4 (by omega)
    rw [e5] at this h7
    exact ⟨n5.toNat, by simp only at h7; omega, by simp only at this; omega⟩
  have f5 := rk_block k5 h6 f6 (by decide)
  have g5 := rk_block k5 h6 g6 (by decide)
  have q5 := rk_trans q6 k5
  have HN := Lib.hid hn
  have HI := Lib.hid hi
  clear h6 f6 g6 q6 k5 hn
  go_loopw [17] (fun kv wr => ∃ k : Nat, k ≤ n ∧ kv = .int .i64 k ∧ ∃ v, wr.heap[G3]? = some (.cells #[.int .i64 a2, .int .i64 a3, .string a4, .int .i64 0, .int .i64 0, .string ⟨#[]⟩, .slice none 0 0, v, .string ⟨#[]⟩] 40 (0, 0)) ∧ kTx.Own 77 G2 wr G2 v (rdTxs k r5).1 ∧ RdS wr N (rdTxs k r5).2 ∧ RK N w wr ∧ wr.heap[G2]? = some (.cells bzC 40 (0, 0))) (fun kv _ => n - (intOf kv).toNat)
  case atStart => exact ⟨0, by omega, rfl, _, f5, Kd.own_nil _ _ _ _ _, h5, q5, g5⟩
  case round =>
    obtain ⟨k, hk, rfl, v, f, own, hr, qk, g⟩ := hrel
    have hsz := qk.size
    by_cases hlt : k < n
    · have b1 : decide (k < n) = true := decide_eq_true hlt
      have HKN := Lib.hid hlt
      have hk7 : k < 4 := by have := HN.out; omega
      obtain ⟨A, c, rfl, lc, mc, _, _⟩ := Kd.own_row own
      have hlen := rdTxs_len k r5
      obtain ⟨L, hL⟩ : ∃ L, (rdTxs k r5).1 = L := ⟨_, rfl⟩
      obtain ⟨rk, hrk⟩ : ∃ rk, (rdTxs k r5).2 = rk := ⟨_, rfl⟩
      have hsc := rdTxs_succ k r5
      rw [hL, hrk] at hsc
      rw [hlen] at f
      rw [hL] at own hlen
      rw [hrk] at hr
      rw [hlen] at own
      have own0 := Kd.own_flat (B' := 0) flatTx (Kd.own_below own (bl_drew (Below.refl wr.heap.size wr))) (Nat.le_refl _)
      obtain ⟨x0, hx⟩ : ∃ x0, rdTx rk = x0 := ⟨_, rfl⟩
      have hkv : ∀ (B : Nat) (W : World), kTx.K B W x0.1 (tcs x0.1).toList := fun B W => by rw [← hx]; exact rdTx_k B W rk
      have hrd : RdS wr.drew N rk := rds_below hr (bl_drew (Below.refl wr.heap.size wr))
      have hv := fun W (hW : RdS W N rk) => tread_calls W N rk hW
      rw [hx] at hv hsc
      obtain ⟨⟨y0, y1, y2, y3, y4⟩, s6⟩ := x0
      simp only [tcs] at hv
      have HV := Lib.hid hv
      have HSC := Lib.hid hsc
      have HLEN := Lib.hid hlen
      have HZ := Lib.hid (show G2 ≤ wr.heap.size by omega)
      have HKV := Lib.hid hkv
      have HF := Lib.hid f
      have HG := Lib.hid g
      have HR := Lib.hid hrd
      have HZN := Lib.hid (show N < wr.heap.size from rds_lt hr)
      have HO := Lib.hid own0
      have HQK := Lib.hid qk
      clear hsc hlen hL hrk hx hkv hrd hv own lc f g own0 qk hr
      go_wp2_with fail
      refine wp_region_any (by kernel_rfl) ?_
      refine wpAny_invcA [true, true, true, true, true, false, false, false] [5, 6, 7] (by kernel_rfl) (by kernel_rfl) 3 (by kernel_rfl) Rb (RK N) (blA N G3 (.slice A k c) #[.int .i64 y0, .int .i64 y1, .int .i64 y2, .int .i64 y3, .string y4] s6) rb_refl rb_trans (fun _ _ h => rk_below h) (fun _ _ _ h k => rk_trans h k) ⟨?_, ?_, ?_, ?_, ?_, trivial⟩ ?_
      · intro Fr u hN hO w1 hR hdep K hK
        rw [if_pos (by rfl)]
        have x3 : Fr.tmps[4]? = some (.pointer (some ⟨G3, 0, none⟩)) := hO 4 _ rfl rfl
        clear hN hO hdep
        go_simp
        refine hK _ _ (rb_refl _) fun w3 h3 => ?_
        exact rfl
      · intro Fr u hN hO w1 hR hdep K hK
        rw [if_pos (by rfl)]
        have hR : RK N wr.drew w1 := hR
        have x0 : Fr.tmps[19]? = some (u 0) := hN 0 _ 19 rfl rfl rfl
        have hu0 : u 0 = .pointer (some ⟨G3, 7, none⟩) := hdep 0 (by kernel_rfl) w1 (rk_refl _ _)
        rw [hu0] at x0
        have cc := block_cell (rk_block hR HR.out HF.out (by decide)) (i := 7) rfl
        clear hN hO hdep
        go_simp
        refine hK _ _ (rb_refl _) fun w3 h3 => ?_
        exact rfl
      · intro Fr u hN hO w1 hR hdep K hK
        rw [if_pos (by rfl)]
        have x3 : Fr.tmps[0]? = some (.pointer (some ⟨N, 0, none⟩)) := hO 0 _ rfl rfl
        clear hN hO hdep
        go_simp
        refine hK _ _ (rb_refl _) fun w3 h3 => ?_
        exact rfl
      · intro Fr u hN hO w1 hR hdep K hK
        rw [if_pos (by rfl)]
        have hR : Rb wr.drew w1 := hR
        have x0 : Fr.tmps[21]? = some (u 2) := hN 2 _ 21 rfl rfl rfl
        have hu0 : u 2 = .pointer (some ⟨N, 0, none⟩) := hdep 2 (by kernel_rfl) w1 (rk_refl _ _)
        rw [hu0] at x0
        have hrd := rds_below HR.out hR
        clear hN hO hdep
        go_simp
        refine (HV.out _ hrd).mono ?_
        rintro x w2 ⟨rfl, h2, k2⟩
        refine hK _ _ k2 fun w3 h3 => ?_
        exact ⟨rfl, rds_below h2 h3⟩
      · intro Fr u hN hO w1 hR hdep K hK
        rw [if_pos (by rfl)]
        have hR : RK N wr.drew w1 := hR
        have x0 : Fr.tmps[22]? = some (u 3) := hN 3 _ 22 rfl rfl rfl
        obtain ⟨hu0, hrd⟩ : u 3 = .agg #[.int .i64 y0, .int .i64 y1, .int .i64 y2, .int .i64 y3, .string y4] ∧ RdS w1 N s6 := hdep 3 (by kernel_rfl) w1 (rb_refl _)
        rw [hu0] at x0
        have hn : w1.heap.size ≠ N := by have := rds_lt hrd; omega
        clear hN hO hdep
        go_simp
        refine hK _ _ (bl_alloc (Below.refl _ _) _) fun w3 h3 => ?_
        have h3 : RK N _ w3 := h3
        exact ⟨_, rfl, (h3.block _ (by simp) hn).trans (alloc_new w1 _), hn⟩
      · intro u w1 hR hall
        have e1 : u 1 = .slice A k c := hall 1 rfl
        obtain ⟨e3, hrd⟩ : u 3 = .agg _ ∧ RdS w1 N s6 := hall 3 rfl
        obtain ⟨g, e4, hg, hgn⟩ := hall 4 rfl
        have hR : RK N wr.drew w1 := hR
        have own4 := Kd.own_keep HO.out (rds_keeps hR HR.out (Nat.zero_le _) (by decide))
        have f4 := rk_block hR HR.out HF.out (by decide)
        have g4 := rk_block hR HR.out HG.out (by decide)
        have q4 : RK N w w1 := rk_trans HQK.out (rk_trans (rk_below (bl_drew (Below.refl _ _))) hR)
        have hz4 : G2 ≤ w1.heap.size := by have := HZ.out; have z : wr.heap.size ≤ w1.heap.size := hR.size; omega
        have hrow : kTx.Row 77 0 w1 (some ⟨g, 0, none⟩) [⟨y0, y1, y2, y3, y4⟩] := row_block1 (HKV.out 0 w1) hg
        change wpList _ _ _ ([_, _, _]) _ _
        simp only [frameM, frameM_nil, Act.put, List.setIfInBounds_toArray, List.set_cons_zero, List.set_cons_succ, Nat.reduceAdd, e1, e4]
        clear hall e1 e4 e3
        have c4 := block_cell f4 (i := 7) rfl
        go_wp2_with (at_builtin; refine wpList_append_row _ rfl (.tmp 20) (.tmp 23) 38 rfl kTx 0 G2 77 i0 _ 48 Tryz.underlying38 HI.out hz0 hz1 hz2 rfl (by decide) _ L rfl own4 _ _ _ [⟨y0, y1, y2, y3, y4⟩] rfl rfl hrow (by rw [HLEN.out]; have := HN.out; simp; omega) (by decide) hz4 (Nat.zero_le _) (by decide) ?_; intro v4 w4 own5 grw4 at4; have kp4 : Keeps 0 [40, 5, 239] w1 w4 := Kd.own_keeps own4 grw4 (Nat.zero_le _) (by decide); have f5 := (kp4.2 G3 ⟨blk_lt f4, .inr ⟨_, _, _, f4, by simp⟩⟩).trans f4; have c5 := block_cell f5 (i := 7) rfl; have z5 : w4.frozen? ⟨G3, 7, none⟩ = false := block_free f5; obtain ⟨A5, n5, c5', rfl⟩ := k_some (k_own own5))
        have g5 := (kp4.2 G2 ⟨blk_lt g4, .inr ⟨_, _, _, g4, by simp⟩⟩).trans g4
        have h5 := rds_keep hrd (kp4.mono (by simp))
        have q5 := rk_grown q4 grw4 (fun m hm => by have := (Kd.own_block own4 m hm).1; omega)
        go_roundw
        case rel =>
          refine ⟨k + 1, by have := HKN.out; omega, by go_num, .slice A5 n5 c5', by simpa using block_set (i := 7) (u := .slice A5 n5 c5') f5, ?_, ?_, rk_cell q5 (by omega), block_far g5 ne⟩
          · rw [HSC.out]
            exact Kd.own_flat flatTx (Kd.own_keep own5 (Keeps.set (p := ⟨G3, 7, none⟩) f5 (Nat.zero_le _) (by decide) _)) (Nat.le_refl _)
          · rw [HSC.out]
            exact rds_farc h5 f5 (by decide) (by decide)
        case measure => have := HKN.out; simp [intOf]; omega
    · obtain rfl : k = n := by omega
      have b1 : decide (k < k) = false := by simp
      obtain ⟨A, c, rfl, lc, mc, _, _⟩ := Kd.own_row own
      have hC : rdBlockF r = ((⟨a2, a3, a4, (rdCert (rdTxs k r5).2).1, (rdTxs k r5).1, (gT (rdCert (rdTxs k r5).2).2 4096).1⟩, a6), (gT (rdCert (rdTxs k r5).2).2 4096).2) := by
        simp only [rdBlockF, e2, e3, e4, e5, e6, Int.toNat_natCast]
      rw [← HP.out] at hC
      obtain ⟨⟨L, rL⟩, hx⟩ : ∃ x, rdTxs k r5 = x := ⟨_, rfl⟩
      rw [hx] at own f hr hC
      dsimp only at own f hr hC
      have hcr := cread_calls wr N rL hr
      obtain ⟨⟨cc, rc⟩, hcc⟩ : ∃ x, rdCert rL = x := ⟨_, rfl⟩
      rw [hcc] at hcr hC
      dsimp only at hC
      obtain ⟨⟨sg, rs⟩, hgs⟩ : ∃ x, gT rc 4096 = x := ⟨_, rfl⟩
      rw [hgs] at hC
      simp only [ccs] at hcr
      have HO := Lib.hid own
      have HCR := Lib.hid hcr
      have HGS := Lib.hid hgs
      have HC := Lib.hid hC
      have HZ := Lib.hid (show G2 ≤ wr.heap.size by omega)
      obtain ⟨m, hm⟩ : ∃ m, L.length = m := ⟨_, rfl⟩
      rw [hm] at f
      have HM := Lib.hid hm
      clear hx own lc HP hcr hgs hcc hC hm
      go_upto_region 8 with (go_at_call 184; refine (HCR.out).mono ?_; rintro x w6 ⟨⟨v1, rfl, own1⟩, h6, k6⟩; have f6 := rk_block k6 hr f (by decide); have c3 := block_cell f6 (i := 3) rfl; have c4 := block_cell f6 (i := 4) rfl; have c5 := block_cell f6 (i := 5) rfl; have c6 := block_cell f6 (i := 6) rfl; have z3 : w6.frozen? ⟨G3, 3, none⟩ = false := block_free f6; have z4 : w6.frozen? ⟨G3, 4, none⟩ = false := block_free f6; have z5 : w6.frozen? ⟨G3, 5, none⟩ = false := block_free f6; have z6 : w6.frozen? ⟨G3, 6, none⟩ = false := block_free f6; obtain ⟨A1, n1, c1, rfl⟩ := k_some (k_own own1))
      have f60 : (w6.setCell ⟨G3, 3, none⟩ (.int .i64 cc.view)).heap[G3]? = some (.cells #[.int .i64 a2, .int .i64 a3, .string a4, .int .i64 cc.view, .int .i64 0, .string ⟨#[]⟩, .slice none 0 0, .slice A m c, .string ⟨#[]⟩] 40 (0, 0)) := by simpa using block_set (i := 3) (u := .int .i64 cc.view) f6
      have f61 : ((w6.setCell ⟨G3, 3, none⟩ (.int .i64 cc.view)).setCell ⟨G3, 4, none⟩ (.int .i64 cc.height)).heap[G3]? = some (.cells #[.int .i64 a2, .int .i64 a3, .string a4, .int .i64 cc.view, .int .i64 cc.height, .string ⟨#[]⟩, .slice none 0 0, .slice A m c, .string ⟨#[]⟩] 40 (0, 0)) := by simpa using block_set (i := 4) (u := .int .i64 cc.height) f60
      have f62 : (((w6.setCell ⟨G3, 3, none⟩ (.int .i64 cc.view)).setCell ⟨G3, 4, none⟩ (.int .i64 cc.height)).setCell ⟨G3, 5, none⟩ (.string cc.block)).heap[G3]? = some (.cells #[.int .i64 a2, .int .i64 a3, .string a4, .int .i64 cc.view, .int .i64 cc.height, .string cc.block, .slice none 0 0, .slice A m c, .string ⟨#[]⟩] 40 (0, 0)) := by simpa using block_set (i := 5) (u := .string cc.block) f61
      have f63 : ((((w6.setCell ⟨G3, 3, none⟩ (.int .i64 cc.view)).setCell ⟨G3, 4, none⟩ (.int .i64 cc.height)).setCell ⟨G3, 5, none⟩ (.string cc.block)).setCell ⟨G3, 6, none⟩ (.slice A1 n1 c1)).heap[G3]? = some (.cells #[.int .i64 a2, .int .i64 a3, .string a4, .int .i64 cc.view, .int .i64 cc.height, .string cc.block, .slice A1 n1 c1, .slice A m c, .string ⟨#[]⟩] 40 (0, 0)) := by simpa using block_set (i := 6) (u := .slice A1 n1 c1) f62
      have g7 := (block_far (i := 6) (u := .slice A1 n1 c1) (block_far (i := 5) (u := .string cc.block) (block_far (i := 4) (u := .int .i64 cc.height) (block_far (i := 3) (u := .int .i64 cc.view) (rk_block k6 hr g (by decide)) ne) ne) ne) ne)
      have h7 := (rds_farc (i := 6) (u := .slice A1 n1 c1) (rds_farc (i := 5) (u := .string cc.block) (rds_farc (i := 4) (u := .int .i64 cc.height) (rds_farc (i := 3) (u := .int .i64 cc.view) h6 f6 (by decide) (by decide)) f60 (by decide) (by decide)) f61 (by decide) (by decide)) f62 (by decide) (by decide))
      have q7 := (rk_cell (i := 6) (u := .slice A1 n1 c1) (rk_cell (i := 5) (u := .string cc.block) (rk_cell (i := 4) (u := .int .i64 cc.height) (rk_cell (i := 3) (u := .int .i64 cc.view) (rk_trans qk k6) zG) zG) zG) zG)
      have kp7 : Keeps 0 [52, 77, 5, 239] w6 ((((w6.setCell ⟨G3, 3, none⟩ (.int .i64 cc.view)).setCell ⟨G3, 4, none⟩ (.int .i64 cc.height)).setCell ⟨G3, 5, none⟩ (.string cc.block)).setCell ⟨G3, 6, none⟩ (.slice A1 n1 c1)) := ((((Keeps.refl 0 [52, 77, 5, 239] _).trans (Keeps.set (p := ⟨G3, 3, none⟩) f6 (Nat.zero_le _) (by decide) (.int .i64 cc.view))).trans (Keeps.set (p := ⟨G3, 4, none⟩) f60 (Nat.zero_le _) (by decide) (.int .i64 cc.height))).trans (Keeps.set (p := ⟨G3, 5, none⟩) f61 (Nat.zero_le _) (by decide) (.string cc.block))).trans (Keeps.set (p := ⟨G3, 6, none⟩) f62 (Nat.zero_le _) (by decide) (.slice A1 n1 c1))
      have o1 := Kd.own_keep (Kd.own_flat (B' := 0) (base' := G2) flatVote own1 HZ.out) (kp7.mono (by simp [kVote, Kd.iso, Kd.pair, Kd.int, Kd.str]))
      have o2 := Kd.own_keep (Kd.own_flat (B' := 0) (base' := G2) flatTx HO.out (Nat.le_refl _)) ((rds_keeps k6 hr (Nat.zero_le _) (by decide)).trans (kp7.mono (by simp [kTx, Kd.iso, Kd.pair, Kd.int, Kd.str])))
      have HO1 := Lib.hid o1
      have HO2 := Lib.hid o2
      clear c3 c4 c5 c6 z3 z4 z5 z6 f6 f60 f61 f62 h6 own1 HO kp7 o1 o2 k6 hr qk g f
      generalize (((w6.setCell ⟨G3, 3, none⟩ (.int .i64 cc.view)).setCell ⟨G3, 4, none⟩ (.int .i64 cc.height)).setCell ⟨G3, 5, none⟩ (.string cc.block)).setCell ⟨G3, 6, none⟩ (.slice A1 n1 c1) = W7 at *
      go_upto_region 9 with (go_at_call 185; with_reducible refine (text_z 4096 h7).mono ?_; rintro x w8 ⟨a8, r8, e8, rfl, h8, k8⟩; have f8 := rk_block k8 h7 f63 (by decide); have c8 := block_cell f8 (i := 8) rfl; have z8 : w8.frozen? ⟨G3, 8, none⟩ = false := block_free f8)
      have f9 : (w8.setCell ⟨G3, 8, none⟩ (.string a8)).heap[G3]? = some (.cells #[.int .i64 a2, .int .i64 a3, .string a4, .int .i64 cc.view, .int .i64 cc.height, .string cc.block, .slice A1 n1 c1, .slice A m c, .string a8] 40 (0, 0)) := by simpa using block_set (i := 8) (u := .string a8) f8
      have g9 := block_far (i := 8) (u := .string a8) (rk_block k8 h7 g7 (by decide)) ne
      have h9 := rds_farc (i := 8) (u := .string a8) h8 f8 (by decide) (by decide)
      have q9 := rk_cell (i := 8) (u := .string a8) (rk_trans q7 k8) zG
      have o1 := Kd.own_keep HO1.out ((rds_keeps k8 h7 (Nat.zero_le _) (by decide)).trans (Keeps.set (p := ⟨G3, 8, none⟩) f8 (Nat.zero_le _) (by decide) (.string a8)))
      have o2 := Kd.own_keep HO2.out ((rds_keeps k8 h7 (Nat.zero_le _) (by decide)).trans (Keeps.set (p := ⟨G3, 8, none⟩) f8 (Nat.zero_le _) (by decide) (.string a8)))
      have HO3 := Lib.hid o1
      have HO4 := Lib.hid o2
      clear c8 z8 f8 h8 q7 g7 h7 f63 HO1 HO2 o1 o2 k8
      generalize w8.setCell ⟨G3, 8, none⟩ (.string a8) = W9 at *
      rw [HGS.out] at e8
      obtain ⟨rfl, rfl⟩ : sg = a8 ∧ rs = r8 := by simpa using e8
      have hP := HC.out
      subst hP
      go_wp2_with first
        | (refine wpList_load_row rfl 40 (.tmp 4) rfl G3 rfl 40 _ (0, 0) _ f9 Tryz.underlying40 rfl size40 ?_)
        | (refine wpList_store_rowOf rfl 40 (.tmp 2) (.tmp 33) rfl G2 rfl rfl 40 _ g9 size40 rfl (by kernel_rfl) ?_)
      refine bodyPost_ret (results_cell_row2 rfl _ _ G2 40 _ (0, 0) _ rfl (setRow_same g9) Tryz.underlying40 rfl size40) rfl ?_
      refine ⟨⟨.slice A1 n1 c1, .slice A m c, rfl, ?_, ?_⟩, rds_far h9 g9 (by decide) (by decide), rk_setRow q9 (by omega)⟩
      · exact Kd.own_flat flatVote (Kd.own_keep HO3.out (keeps_setRow g9 (Nat.zero_le _) (by decide))) (Nat.le_refl _)
      · rw [← HM.out]
        have := HO4.out
        rw [HM.out] at this
        rw [HM.out]
        exact Kd.own_flat flatTx (Kd.own_keep this (keeps_setRow g9 (Nat.zero_le _) (by decide))) (Nat.le_refl _)
end Go.Proofs.YtcbfpdenjdgnlaaGreat
