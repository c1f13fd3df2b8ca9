/- Package cert: Read. No claim of its own; no condition. -/
import Derived.Test.YtcbfpdenjdgnlaaGreatQt20
import Derived.Test.YtcbfpdenjdgnlaaGreatQt07
import Derived.Test.YtcbfpdenjdgnlaaGreatQt22
namespace Go.Proofs.YtcbfpdenjdgnlaaGreat
open Go.ChangeShapes Go.WideShapes Go.ChangeAt Go.RowKit
set_option linter.unusedVariables false
set_option linter.unusedSimpArgs false
theorem rds_keep {w w' : World} {N : Nat} {r : Rst} (h : RdS w N r) (k : Keeps 0 [5, 239] w w') : RdS w' N r := by
  obtain ⟨A, c, h1, h2, h3, h4, h5⟩ := h
  exact ⟨A, c, (k.2 N ⟨blk_lt h1, .inr ⟨_, _, _, h1, by simp⟩⟩).trans h1, Kd.row_keep (k.mono (by simp [Kd.u8])) h2, h3, h4, h5⟩
theorem rk_grown {N : Nat} {a w w' : World} {row : Option Nat} (h : RK N a w) (hg : w.grownBy w' row) (hr : ∀ k, row = some k → a.heap.size ≤ k) : RK N a w' := by
  have hb := Below.grown (Below.refl 0 w) hg (Nat.zero_le _) (fun _ _ => Nat.zero_le _)
  refine ⟨hb.os.trans h.os, hb.tape.trans h.tape, hb.output.trans h.output, Nat.le_trans h.size hb.size, fun k hk hn => ?_⟩
  refine (hg.block k (Nat.lt_of_lt_of_le hk h.size) ?_).trans (h.block k hk hn)
  intro e
  have := hr k e.symm
  omega
theorem gN_bd (r : Rst) (most : Int) : 0 ≤ (gN r most).1 ∧ (gN r most).1 ≤ 1099511627776 := by
  unfold gN
  split
  · split
    · simp
    · split
      · simp
      · have : 0 ≤ octN (r.1.take 6) := by unfold octN; omega
        simp only; omega
  · simp
theorem gN_le (r : Rst) (most : Int) (h : 0 ≤ most) : (gN r most).1 ≤ most := by
  unfold gN
  split
  · split
    · exact h
    · split
      · exact h
      · simp only; omega
  · exact h
theorem gT_bd (r : Rst) (most : Int) : (gT r most).1.size ≤ 4096 := by
  unfold gT
  split
  · split
    · simp [ByteArray.size]
    · split
      · simp [ByteArray.size]
      · split
        · simp [ByteArray.size]
        · simp only [sb_size, List.length_take]
          omega
  · simp [ByteArray.size]
theorem rdVote_bd (r : Rst) : (IntOk (rdVote r).1.kind ∧ IntOk (rdVote r).1.view ∧ IntOk (rdVote r).1.height ∧ (rdVote r).1.block.size ≤ 4096 ∧ IntOk (rdVote r).1.ticks ∧ IntOk (rdVote r).1.signer ∧ (rdVote r).1.sig.size ≤ 4096) := by
  have hz : (IntOk votZ.kind ∧ IntOk votZ.view ∧ IntOk votZ.height ∧ votZ.block.size ≤ 4096 ∧ IntOk votZ.ticks ∧ IntOk votZ.signer ∧ votZ.sig.size ≤ 4096) := by
    simp [votZ, IntOk, ByteArray.size]
  have hN : ∀ r m, IntOk (gN r m).1 := fun r m => by have := gN_bd r m; unfold IntOk; omega
  simp only [rdVote]
  split
  · split
    · simp only [rdVoteF]
      exact ⟨hN _ _, hN _ _, hN _ _, gT_bd _ _, hN _ _, hN _ _, gT_bd _ _⟩
    · exact hz
  · exact hz
theorem rdVote_k (B : Nat) (w : World) (r : Rst) : kVote.K B w (rdVote r).1 (vcs (rdVote r).1).toList := by
  obtain ⟨h0, h1, h2, h3, h4, h5, h6⟩ := rdVote_bd r
  exact kVote_mk _ h0 h1 h2 (by omega) h4 h5 (by omega)
theorem rdVotes_succ : ∀ (k : Nat) (r : Rst), rdVotes (k + 1) r = ((rdVotes k r).1 ++ [(rdVote (rdVotes k r).2).1], (rdVote (rdVotes k r).2).2)
  | 0, r => rfl
  | k + 1, r => by
    have ih := rdVotes_succ k (rdVote r).2
    rw [rdVotes, ih]
    rfl
theorem rdVotes_len : ∀ (k : Nat) (r : Rst), (rdVotes k r).1.length = k
  | 0, _ => rfl
  | k + 1, r => by
    rw [rdVotes]
    simp [rdVotes_len k]
theorem flatVote : Kd.Flat kVote := Kd.flat_iso (Kd.flat_pair Kd.flat_int (Kd.flat_pair Kd.flat_int (Kd.flat_pair Kd.flat_int (Kd.flat_pair Kd.flat_str (Kd.flat_pair Kd.flat_int (Kd.flat_pair Kd.flat_int Kd.flat_str))))))
theorem vinfo : (Tryz.prog.info? 52).map (fun i => (i.zero, i.size, i.bytes)) = some (some (.agg #[.int .i64 0, .int .i64 0, .int .i64 0, .string ⟨#[]⟩, .int .i64 0, .int .i64 0, .string ⟨#[]⟩]), 7, 72) := by kernel_rfl
theorem size37 : (Tryz.prog.info? 37).map (·.size) = some 4 := by kernel_rfl
def ccs (c : Cert) (v : Value) : Array Value := #[.int .i64 c.view, .int .i64 c.height, .string c.block, v]
theorem row_block1 {α : Type} {d : Kd α} {e : TypeId} {B : Nat} {w : World} {g : Nat} {x : α} {cs : Array Value} (h : d.K B w x cs.toList) (hg : w.heap[g]? = some (.cells cs e (0, 0))) : d.Row e B w (some ⟨g, 0, none⟩) [x] := by
  intro _
  refine ⟨_, rfl, ⟨blk_lt hg, .inr ⟨_, _, _, hg, by simp⟩⟩, fun i y hi => ?_⟩
  cases i with
  | zero =>
    cases hi
    refine ⟨_, h, fun j u hu => ?_⟩
    have hj : (⟨g, 0, none⟩ : Addr).add (0 * d.sz + j) = ⟨g, j, none⟩ := by
      rw [Nat.zero_mul, Nat.zero_add]
      unfold Addr.add
      split
      · rename_i h0; rw [h0]
      · simp
    rw [hj]
    exact block_cell hg (by simpa using hu)
  | succ i => simp at hi
theorem keeps_setRow {B g : Nat} {E : List TypeId} {w : World} {c cs' : Array Value} {t : TypeId} {f : Nat × Nat} (hg : w.heap[g]? = some (.cells c t f)) (hB : B ≤ g) (ht : t ∉ E) : Keeps B E w (w.setRow g cs') := by
  refine ⟨by show _ ≤ (w.heap.modify g _).size; rw [Array.size_modify]; exact Nat.le_refl _, fun b hb => setRow_far ?_⟩
  rintro rfl
  rcases hb.2 with h | ⟨c', t', f', h1, h2⟩
  · omega
  · rw [hg] at h1
    cases h1
    exact ht h2
def crA (N G3 : Nat) (v0 : Value) (cells : Array Value) (s6 : Rst) : Nat → Value → World → Prop
  | 0, y, _ => y = .pointer (some ⟨G3, 3, none⟩)
  | 1, y, _ => y = v0
  | 2, y, _ => y = .pointer (some ⟨N, 0, none⟩)
  | 3, y, w => y = .agg cells ∧ RdS w N s6
  | 4, y, w => ∃ g, y = .slice (some ⟨g, 0, none⟩) 1 1 ∧ w.heap[g]? = some (.cells cells 52 (0, 0)) ∧ g ≠ N
  | _, _, _ => True
set_option maxHeartbeats 1600000 in
set_option maxRecDepth 100000 in
theorem cread_calls (w : World) (N : Nat) (r : Rst) (h : RdS w N r) :
    Calls Tryz.prog 184 #[.pointer (some ⟨N, 0, none⟩)] w fun x w' => (∃ v, x = .returned (.agg (ccs (rdCert r).1 v)) ∧ kVote.Own 52 w.heap.size w' w.heap.size v (rdCert r).1.votes) ∧ RdS w' N (rdCert r).2 ∧ RK N w w' := by
  have q : RK N w (w.alloc (.cells #[.int .i64 0, .int .i64 0, .string ⟨#[]⟩, .slice none 0 0] 37)) := rk_below (bl_alloc (Below.refl _ _) _)
  have h0 : RdS (w.alloc (.cells #[.int .i64 0, .int .i64 0, .string ⟨#[]⟩, .slice none 0 0] 37)) N r := rds_below h (bl_alloc (Below.refl _ _) _)
  have g0 := alloc_new w (.cells #[.int .i64 0, .int .i64 0, .string ⟨#[]⟩, .slice none 0 0] 37)
  obtain ⟨G2, hG2⟩ : ∃ G2, w.heap.size = G2 := ⟨_, rfl⟩
  have HQ := Lib.hid q
  have HG := Lib.hid g0
  have H0 := Lib.hid h0
  clear q g0 h0 h
  obtain ⟨P, hP⟩ : ∃ P, P = rdCert r := ⟨_, rfl⟩
  rw [← hP]
  have HP := Lib.hid hP
  clear hP
  obtain ⟨i0, hi, hz0, hz1, hz2⟩ := info_parts vinfo
  go_enter Tryz.func184, Tryz.ntmps184
  go_upto_region 1 with fail
  generalize w.alloc (.cells _ 37) = W0 at *
  rw [hG2] at HG
  have c0 := block_cell HG.out (i := 0) rfl
  have h1 := H0.out
  have q1 := HQ.out
  have g1 := HG.out
  go_upto_region 2 with first
    | (go_at_call 181; with_reducible refine (num_z 1048576 h1).mono ?_; rintro x w2 ⟨a2, r2, e2, rfl, h2, k2⟩)
    | (go_at_call 181; with_reducible refine (num_z 1048576 h2).mono ?_; rintro x w3 ⟨a3, r3, e3, rfl, h3, k3⟩)
    | (go_at_call 185; with_reducible refine (text_z 32 h3).mono ?_; rintro x w4 ⟨a4, r4, e4, rfl, h4, k4⟩)
  have g4 := rk_block k4 h3 (rk_block k3 h2 (rk_block k2 h1 g1 (by decide)) (by decide)) (by decide)
  have q4 := rk_trans (rk_trans (rk_trans q1 k2) k3) k4
  have zz : G2 ≤ w4.heap.size := by have := q4.size; omega
  have Q := rk_alloc q4 (.cells #[.int .i64 a2, .int .i64 a3, .string a4, .slice none 0 0] 37)
  have H := rds_below h4 (bl_alloc (Below.refl _ _) (.cells #[.int .i64 a2, .int .i64 a3, .string a4, .slice none 0 0] 37))
  have G := alloc_old g4 (.cells #[.int .i64 a2, .int .i64 a3, .string a4, .slice none 0 0] 37)
  have Fv := alloc_new w4 (.cells #[.int .i64 a2, .int .i64 a3, .string a4, .slice none 0 0] 37)
  obtain ⟨G3, hG3⟩ : ∃ G3, w4.heap.size = G3 := ⟨_, rfl⟩
  rw [hG3] at Fv zz
  have ne : G2 ≠ G3 := by have := blk_lt g4; omega
  have zG : w.heap.size ≤ G3 := by omega
  simp only [hG3]
  clear q1 g1 h1 g4 q4 h2 h3 h4 k2 k3 k4 hG3 HQ HG H0 c0
  generalize w4.alloc (.cells _ 37) = W4 at *
  go_upto_region 3 with (go_at_call 181; with_reducible refine (num_z 7 H).mono ?_; rintro x w5 ⟨n5, r5, e5, rfl, h5, k5⟩)
  obtain ⟨n, hn, rfl⟩ : ∃ n : Nat, n ≤ 7 ∧ n5 = (n : Int) := by
    have := gN_bd r4 7
    have h7 := gN_le r4 7 (by omega)
    rw [e5] at this h7
    exact ⟨n5.toNat, by simp only at h7; omega, by simp only at this; omega⟩
  have f5 := rk_block k5 H Fv (by decide)
  have g5 := rk_block k5 H G (by decide)
  have q5 := rk_trans Q k5
  have HN := Lib.hid hn
  have HI := Lib.hid hi
  clear H Fv G Q k5 hn
  go_loopw [13] (fun kv wr => ∃ k : Nat, k ≤ n ∧ kv = .int .i64 k ∧ ∃ v, wr.heap[G3]? = some (.cells #[.int .i64 a2, .int .i64 a3, .string a4, v] 37 (0, 0)) ∧ kVote.Own 52 G2 wr G2 v (rdVotes k r5).1 ∧ RdS wr N (rdVotes k r5).2 ∧ RK N w wr ∧ wr.heap[G2]? = some (.cells #[.int .i64 0, .int .i64 0, .string ⟨#[]⟩, .slice none 0 0] 37 (0, 0))) (fun kv _ => n - (intOf kv).toNat)
  case atStart => exact ⟨0, by omega, rfl, _, f5, Kd.own_nil _ _ _ _ _, h5, q5, g5⟩
  case round =>
    obtain ⟨k, hk, rfl, v, f, own, hr, qk, g⟩ := hrel
    have hsz := qk.size
    by_cases hlt : k < n
    · have b1 : decide (k < n) = true := decide_eq_true hlt
      have HKN := Lib.hid hlt
      have hk7 : k < 7 := by have := HN.out; omega
      obtain ⟨A, c, rfl, lc, mc, _, _⟩ := Kd.own_row own
      have hlen := rdVotes_len k r5
      obtain ⟨L, hL⟩ : ∃ L, (rdVotes k r5).1 = L := ⟨_, rfl⟩
      obtain ⟨rk, hrk⟩ : ∃ rk, (rdVotes k r5).2 = rk := ⟨_, rfl⟩
      have hsc := rdVotes_succ k r5
      rw [hL, hrk] at hsc
      rw [hlen] at f
      rw [hL] at own hlen
      rw [hrk] at hr
      rw [hlen] at own
      have own0 := Kd.own_flat (B' := 0) flatVote (Kd.own_below own (bl_drew (Below.refl wr.heap.size wr))) (Nat.le_refl _)
      obtain ⟨x0, hx⟩ : ∃ x0, rdVote rk = x0 := ⟨_, rfl⟩
      have hkv : ∀ (B : Nat) (W : World), kVote.K B W x0.1 (vcs x0.1).toList := fun B W => by rw [← hx]; exact rdVote_k B W rk
      have hrd : RdS wr.drew N rk := rds_below hr (bl_drew (Below.refl wr.heap.size wr))
      have hv := fun W (hW : RdS W N rk) => vread_calls W N rk hW
      rw [hx] at hv hsc
      obtain ⟨⟨y0, y1, y2, y3, y4, y5, y6⟩, s6⟩ := x0
      simp only [vcs] at hv
      have HV := Lib.hid hv
      have HSC := Lib.hid hsc
      have HLEN := Lib.hid hlen
      have HZ := Lib.hid (show G2 ≤ wr.heap.size by omega)
      have HKV := Lib.hid hkv
      have HF := Lib.hid f
      have HG := Lib.hid g
      have HR := Lib.hid hrd
      have HZN := Lib.hid (show N < wr.heap.size from rds_lt hr)
      have HO := Lib.hid own0
      have HQK := Lib.hid qk
      clear hsc hlen hL hrk hx hkv hrd hv own lc f g own0 qk hr
      go_wp2_with fail
      refine wp_region_any (by kernel_rfl) ?_
      refine wpAny_invcA [true, true, true, true, true, false, false, false] [5, 6, 7] (by kernel_rfl) (by kernel_rfl) 3 (by kernel_rfl) Rb (RK N) (crA N G3 (.slice A k c) #[.int .i64 y0, .int .i64 y1, .int .i64 y2, .string y3, .int .i64 y4, .int .i64 y5, .string y6] s6) rb_refl rb_trans (fun _ _ h => rk_below h) (fun _ _ _ h k => rk_trans h k) ⟨?_, ?_, ?_, ?_, ?_, trivial⟩ ?_
      · intro Fr u hN hO w1 hR hdep K hK
        rw [if_pos (by rfl)]
        have x3 : Fr.tmps[3]? = some (.pointer (some ⟨G3, 0, none⟩)) := hO 3 _ rfl rfl
        clear hN hO hdep
        go_simp
        refine hK _ _ (rb_refl _) fun w3 h3 => ?_
        exact rfl
      · intro Fr u hN hO w1 hR hdep K hK
        rw [if_pos (by rfl)]
        have hR : RK N wr.drew w1 := hR
        have x0 : Fr.tmps[15]? = some (u 0) := hN 0 _ 15 rfl rfl rfl
        have hu0 : u 0 = .pointer (some ⟨G3, 3, none⟩) := hdep 0 (by kernel_rfl) w1 (rk_refl _ _)
        rw [hu0] at x0
        have cc := block_cell (rk_block hR HR.out HF.out (by decide)) (i := 3) rfl
        clear hN hO hdep
        go_simp
        refine hK _ _ (rb_refl _) fun w3 h3 => ?_
        exact rfl
      · intro Fr u hN hO w1 hR hdep K hK
        rw [if_pos (by rfl)]
        have x3 : Fr.tmps[0]? = some (.pointer (some ⟨N, 0, none⟩)) := hO 0 _ rfl rfl
        clear hN hO hdep
        go_simp
        refine hK _ _ (rb_refl _) fun w3 h3 => ?_
        exact rfl
      · intro Fr u hN hO w1 hR hdep K hK
        rw [if_pos (by rfl)]
        have hR : Rb wr.drew w1 := hR
        have x0 : Fr.tmps[17]? = some (u 2) := hN 2 _ 17 rfl rfl rfl
        have hu0 : u 2 = .pointer (some ⟨N, 0, none⟩) := hdep 2 (by kernel_rfl) w1 (rk_refl _ _)
        rw [hu0] at x0
        have hrd := rds_below HR.out hR
        clear hN hO hdep
        go_simp
        refine (HV.out _ hrd).mono ?_
        rintro x w2 ⟨rfl, h2, k2⟩
        refine hK _ _ k2 fun w3 h3 => ?_
        exact ⟨rfl, rds_below h2 h3⟩
      · intro Fr u hN hO w1 hR hdep K hK
        rw [if_pos (by rfl)]
        have hR : RK N wr.drew w1 := hR
        have x0 : Fr.tmps[18]? = some (u 3) := hN 3 _ 18 rfl rfl rfl
        obtain ⟨hu0, hrd⟩ : u 3 = .agg #[.int .i64 y0, .int .i64 y1, .int .i64 y2, .string y3, .int .i64 y4, .int .i64 y5, .string y6] ∧ RdS w1 N s6 := hdep 3 (by kernel_rfl) w1 (rb_refl _)
        rw [hu0] at x0
        have hn : w1.heap.size ≠ N := by have := rds_lt hrd; omega
        clear hN hO hdep
        go_simp
        refine hK _ _ (bl_alloc (Below.refl _ _) _) fun w3 h3 => ?_
        have h3 : RK N _ w3 := h3
        exact ⟨_, rfl, (h3.block _ (by simp) hn).trans (alloc_new w1 _), hn⟩
      · intro u w1 hR hall
        have e1 : u 1 = .slice A k c := hall 1 rfl
        obtain ⟨e3, hrd⟩ : u 3 = .agg _ ∧ RdS w1 N s6 := hall 3 rfl
        obtain ⟨g, e4, hg, hgn⟩ := hall 4 rfl
        have hR : RK N wr.drew w1 := hR
        have own4 := Kd.own_keep HO.out (rds_keeps hR HR.out (Nat.zero_le _) (by decide))
        have f4 := rk_block hR HR.out HF.out (by decide)
        have g4 := rk_block hR HR.out HG.out (by decide)
        have q4 : RK N w w1 := rk_trans HQK.out (rk_trans (rk_below (bl_drew (Below.refl _ _))) hR)
        have hz4 : G2 ≤ w1.heap.size := by have := HZ.out; have z : wr.heap.size ≤ w1.heap.size := hR.size; omega
        have hrow : kVote.Row 52 0 w1 (some ⟨g, 0, none⟩) [⟨y0, y1, y2, y3, y4, y5, y6⟩] := row_block1 (HKV.out 0 w1) hg
        change wpList _ _ _ ([_, _, _]) _ _
        simp only [frameM, frameM_nil, Act.put, List.setIfInBounds_toArray, List.set_cons_zero, List.set_cons_succ, Nat.reduceAdd, e1, e4]
        clear hall e1 e4 e3
        have c4 := block_cell f4 (i := 3) rfl
        go_wp2_with (at_builtin; refine wpList_append_row _ rfl (.tmp 16) (.tmp 19) 28 rfl kVote 0 G2 52 i0 _ 72 Tryz.underlying28 HI.out hz0 hz1 hz2 rfl (by decide) _ L rfl own4 _ _ _ [⟨y0, y1, y2, y3, y4, y5, y6⟩] rfl rfl hrow (by rw [HLEN.out]; have := HN.out; simp; omega) (by decide) hz4 (Nat.zero_le _) (by decide) ?_; intro v4 w4 own5 grw4 at4; have kp4 : Keeps 0 [37, 5, 239] w1 w4 := Kd.own_keeps own4 grw4 (Nat.zero_le _) (by decide); have f5 := (kp4.2 G3 ⟨blk_lt f4, .inr ⟨_, _, _, f4, by simp⟩⟩).trans f4; have c5 := block_cell f5 (i := 3) rfl; have z5 : w4.frozen? ⟨G3, 3, none⟩ = false := block_free f5; obtain ⟨A5, n5, c5', rfl⟩ := k_some (k_own own5))
        have g5 := (kp4.2 G2 ⟨blk_lt g4, .inr ⟨_, _, _, g4, by simp⟩⟩).trans g4
        have h5 := rds_keep hrd (kp4.mono (by simp))
        have q5 := rk_grown q4 grw4 (fun m hm => by have := (Kd.own_block own4 m hm).1; omega)
        go_roundw
        case rel =>
          refine ⟨k + 1, by have := HKN.out; omega, by go_num, .slice A5 n5 c5', by simpa using block_set (i := 3) (u := .slice A5 n5 c5') f5, ?_, ?_, rk_cell q5 (by omega), block_far g5 ne⟩
          · rw [HSC.out]
            exact Kd.own_flat flatVote (Kd.own_keep own5 (Keeps.set (p := ⟨G3, 3, none⟩) f5 (Nat.zero_le _) (by decide) _)) (Nat.le_refl _)
          · rw [HSC.out]
            exact rds_farc h5 f5 (by decide) (by decide)
        case measure => have := HKN.out; simp [intOf]; omega
    · obtain rfl : k = n := by omega
      have b1 : decide (k < k) = false := by simp
      obtain ⟨A, c, rfl, lc, mc, _, _⟩ := Kd.own_row own
      have hC : rdCert r = if ((rdVotes k r5).2.2 == 0) = true then (⟨a2, a3, a4, (rdVotes k r5).1⟩, (rdVotes k r5).2) else (certZ, (rdVotes k r5).2) := by
        simp only [rdCert, e2, e3, e4, e5, Int.toNat_natCast]
      rw [← HP.out] at hC
      obtain ⟨⟨L, ⟨l8, t8⟩⟩, hx⟩ : ∃ x, rdVotes k r5 = x := ⟨_, rfl⟩
      rw [hx] at own f hr hC
      dsimp only at own f hr hC
      have HO := Lib.hid own
      clear hx own lc HP
      by_cases hz : (t8 == 0) = true
      · rw [if_pos hz] at hC
        subst hC
        have hr0 : t8 = 0 := by simpa using hz
        subst hr0
        clear hz
        go_wp2_with first
          | (go_at_call 120; with_reducible refine (err_z hr).mono ?_; rintro x w13 ⟨rfl, rfl⟩)
          | (refine wpList_load_row rfl 37 (.tmp 3) rfl G3 rfl 37 _ (0, 0) _ f Tryz.underlying37 rfl size37 ?_)
          | (refine wpList_store_rowOf rfl 37 (.tmp 2) (.tmp 27) rfl G2 rfl rfl 37 _ g size37 rfl (by kernel_rfl) ?_)
        refine bodyPost_ret (results_cell_row rfl _ _ G2 37 _ (0, 0) _ rfl (setRow_same g) Tryz.underlying37 rfl size37) rfl ?_
        exact ⟨⟨_, rfl, Kd.own_keep HO.out (keeps_setRow g (Nat.le_refl _) (by decide))⟩, rds_far hr g (by decide) (by decide), rk_setRow qk (by omega)⟩
      · rw [if_neg hz] at hC
        subst hC
        have hr0 : ¬ (t8 = 0) := by simpa using hz
        clear hz
        go_wp2_with first
          | (go_at_call 120; with_reducible refine (err_z hr).mono ?_; rintro x w13 ⟨rfl, rfl⟩)
          | (refine wpList_store_rowOf rfl 37 (.tmp 2) (.tmp 26) rfl G2 rfl rfl 37 _ g size37 rfl (by kernel_rfl) ?_)
        refine bodyPost_ret (results_cell_row rfl _ _ G2 37 _ (0, 0) _ rfl (setRow_same g) Tryz.underlying37 rfl size37) rfl ?_
        exact ⟨⟨_, rfl, Kd.own_nil _ _ _ _ _⟩, rds_far hr g (by decide) (by decide), rk_setRow qk (by omega)⟩
end Go.Proofs.YtcbfpdenjdgnlaaGreat
