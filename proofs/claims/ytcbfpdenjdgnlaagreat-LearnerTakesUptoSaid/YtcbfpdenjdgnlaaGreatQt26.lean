/- Package block: Check. No claim of its own; no condition. -/
import Derived.Test.YtcbfpdenjdgnlaaGreatQt25
namespace Go.Proofs.YtcbfpdenjdgnlaaGreat
open Go.ChangeShapes Go.WideShapes Go.ChangeAt Go.RowKit
set_option linter.unusedVariables false
set_option linter.unusedSimpArgs false
theorem bcells {W : World} {g : Nat} {b : Block} {v1 v2 : Value} {t : TypeId} {f : Nat × Nat} (h : W.heap[g]? = some (.cells (bcs b v1 v2) t f)) :
    W.cell? ⟨g, 0, none⟩ = some (.int .i64 b.view) ∧ W.cell? ⟨g, 1, none⟩ = some (.int .i64 b.height) ∧ W.cell? ⟨g, 2, none⟩ = some (.string b.parent) ∧ W.cell? ⟨g, 3, none⟩ = some (.int .i64 b.justify.view) ∧ W.cell? ⟨g, 4, none⟩ = some (.int .i64 b.justify.height) ∧
    W.cell? ⟨g, 5, none⟩ = some (.string b.justify.block) ∧ W.cell? ⟨g, 6, none⟩ = some v1 ∧ W.cell? ⟨g, 7, none⟩ = some v2 ∧ W.cell? ⟨g, 8, none⟩ = some (.string b.sig) :=
  ⟨block_cell h rfl, block_cell h rfl, block_cell h rfl, block_cell h rfl, block_cell h rfl, block_cell h rfl, block_cell h rfl, block_cell h rfl, block_cell h rfl⟩
def chkB (b : Block) : Int := if blockOk b = true then 0 else 9
def blkC1 (b : Block) : Bool := decide (0 ≤ b.view) && (decide (b.view ≤ 1048576) && (decide (1 ≤ b.height) && (decide (b.height ≤ 1048576) && decide ((b.parent.size : Int) = 32))))
def blkC2 (b : Block) : Bool := decide (b.justify.block = b.parent) && (decide (b.justify.height = b.height - 1) && (decide (0 ≤ b.justify.view) && decide (b.justify.view ≤ b.view)))
def blkC3 (b : Block) : Bool := decide (b.txs.length ≤ 4) && (b.txs.all txOk && decide (b.sig.size ≤ 4096))
theorem blockOk_eq (b : Block) : blockOk b = (blkC1 b && (blkC2 b && blkC3 b)) := rfl
set_option maxHeartbeats 3200000 in
set_option maxRecDepth 100000 in
theorem bcheck_calls (b : Block) (A1 A : Option Addr) (n1 c1 n c B : Nat) (w : World) (hn : n = b.txs.length) (hl : b.txs.length ≤ 2097152) (hr : kTx.Row 77 B w A b.txs) :
    Calls Tryz.prog 124 #[.agg (bcs b (.slice A1 n1 c1) (.slice A n c))] w fun e w' => e = .returned (.int .i64 (chkB b)) ∧ Below w.heap.size w w' := by
  have hct := fun W (hW : kTx.Row 77 B W A b.txs) => contains_kTx b.txs A n c W B 188 #[] (fun x => !txOk x) (enters_of Tryz.func188 (by kernel_rfl) rfl) hn hl hW (fun x W' _ => oddt_calls x W')
  rw [any_not] at hct
  have q0 := bl_alloc (Below.refl w.heap.size w) (.cells (bcs b (.slice A1 n1 c1) (.slice A n c)) 40)
  have a0 : (w.alloc (.cells (bcs b (.slice A1 n1 c1) (.slice A n c)) 40)).heap[w.heap.size]? = some (.cells (bcs b (.slice A1 n1 c1) (.slice A n c)) 40 (0, 0)) := alloc_new w _
  have r0 := Kd.row_below q0 hr
  obtain ⟨e, he⟩ : ∃ e, e = chkB b := ⟨_, rfl⟩
  rw [← he]
  unfold chkB at he
  rw [blockOk_eq] at he
  have h3 : blkC3 b = (decide (n ≤ 4) && (b.txs.all txOk && decide (b.sig.size ≤ 4096))) := by rw [hn]; rfl
  obtain ⟨ta, hta⟩ : ∃ x, b.txs.all txOk = x := ⟨_, rfl⟩
  rw [hta] at hct h3
  have HCT := Lib.hid hct
  have HR := Lib.hid r0
  have HE := Lib.hid he
  have H3 := Lib.hid h3
  obtain ⟨view, height, parent, ⟨jv, jh, jb, jl⟩, txs, sig⟩ := b
  unfold bcs at *
  clear hct hr hn hl hta r0 he h3
  dsimp only at *
  obtain ⟨G, hG⟩ : ∃ G, w.heap.size = G := ⟨_, rfl⟩
  go_enter Tryz.func124, Tryz.ntmps124
  go_upto_region 1 with fail
  change Code.wp _ _ _ _ (w.alloc (.cells #[.int .i64 view, .int .i64 height, .string parent, .int .i64 jv, .int .i64 jh, .string jb, .slice A1 n1 c1, .slice A n c, .string sig] 40))
  have hz : (w.alloc (.cells #[.int .i64 view, .int .i64 height, .string parent, .int .i64 jv, .int .i64 jh, .string jb, .slice A1 n1 c1, .slice A n c, .string sig] 40)).heap.size = G + 1 := by rw [World.size_alloc, hG]
  generalize w.alloc (.cells #[.int .i64 view, .int .i64 height, .string parent, .int .i64 jv, .int .i64 jh, .string jb, .slice A1 n1 c1, .slice A n c, .string sig] 40) = W at *
  rw [hG] at a0
  have x3 := block_cell a0 (i := 3) rfl
  have x4 := block_cell a0 (i := 4) rfl
  have x5 := block_cell a0 (i := 5) rfl
  have x6 := block_cell a0 (i := 6) rfl
  go_upto_region 2 with fail
  change Code.wp _ _ _ _ (W.alloc (.cells #[.int .i64 jv, .int .i64 jh, .string jb, .slice A1 n1 c1] 37))
  have q1 := bl_alloc q0 (.cells #[.int .i64 jv, .int .i64 jh, .string jb, .slice A1 n1 c1] 37)
  have a1 := alloc_old a0 (.cells #[.int .i64 jv, .int .i64 jh, .string jb, .slice A1 n1 c1] 37)
  have j1 := alloc_new W (.cells #[.int .i64 jv, .int .i64 jh, .string jb, .slice A1 n1 c1] 37)
  have HR1 := Lib.hid (Kd.row_below (bl_alloc (Below.refl _ _) (.cells #[.int .i64 jv, .int .i64 jh, .string jb, .slice A1 n1 c1] 37)) HR.out)
  rw [hz] at j1
  generalize W.alloc (.cells #[.int .i64 jv, .int .i64 jh, .string jb, .slice A1 n1 c1] 37) = W1 at *
  clear x3 x4 x5 x6 a0 q0 HR hz hG
  have x0 := block_cell a1 (i := 0) rfl
  have x1 := block_cell a1 (i := 1) rfl
  have x2 := block_cell a1 (i := 2) rfl
  have x7 := block_cell a1 (i := 7) rfl
  have x8 := block_cell a1 (i := 8) rfl
  have y0 := block_cell j1 (i := 0) rfl
  have y1 := block_cell j1 (i := 1) rfl
  have y2 := block_cell j1 (i := 2) rfl
  have HQ1 := Lib.hid q1
  have HA1 := Lib.hid a1
  clear a1 j1 q1
  by_cases d0 : view < 0
  · have hE : e = 9 := by rw [HE.out]; simp only [blkC1, blkC2, H3.out]; exact if_neg (by intro hh; simp only [Bool.and_eq_true, decide_eq_true_eq] at hh; first | omega | exact absurd hh.2.1.1 d5 | (rw [d10] at hh; exact absurd hh.2.2.2.1 (by simp)))
    subst hE
    clear HE H3
    go_wp2_with fail
    go_ret
    exact ⟨rfl, HQ1.out⟩
  by_cases d1 : view > 1048576
  · have hE : e = 9 := by rw [HE.out]; simp only [blkC1, blkC2, H3.out]; exact if_neg (by intro hh; simp only [Bool.and_eq_true, decide_eq_true_eq] at hh; first | omega | exact absurd hh.2.1.1 d5 | (rw [d10] at hh; exact absurd hh.2.2.2.1 (by simp)))
    subst hE
    clear HE H3
    go_wp2_with fail
    go_ret
    exact ⟨rfl, HQ1.out⟩
  by_cases d2 : height < 1
  · have hE : e = 9 := by rw [HE.out]; simp only [blkC1, blkC2, H3.out]; exact if_neg (by intro hh; simp only [Bool.and_eq_true, decide_eq_true_eq] at hh; first | omega | exact absurd hh.2.1.1 d5 | (rw [d10] at hh; exact absurd hh.2.2.2.1 (by simp)))
    subst hE
    clear HE H3
    go_wp2_with fail
    go_ret
    exact ⟨rfl, HQ1.out⟩
  by_cases d3 : height > 1048576
  · have hE : e = 9 := by rw [HE.out]; simp only [blkC1, blkC2, H3.out]; exact if_neg (by intro hh; simp only [Bool.and_eq_true, decide_eq_true_eq] at hh; first | omega | exact absurd hh.2.1.1 d5 | (rw [d10] at hh; exact absurd hh.2.2.2.1 (by simp)))
    subst hE
    clear HE H3
    go_wp2_with fail
    go_ret
    exact ⟨rfl, HQ1.out⟩
  have hwr : IntKind.i64.wrap (height - 1) = height - 1 := IntWalk.i64_in _ (by omega)
  by_cases d4 : ¬ ((parent.size : Int) = 32)
  · have d4x : ¬ ((parent.size : Int) = 32) := d4
    have hE : e = 9 := by rw [HE.out]; simp only [blkC1, blkC2, H3.out]; exact if_neg (by intro hh; simp only [Bool.and_eq_true, decide_eq_true_eq] at hh; first | omega | exact absurd hh.2.1.1 d5 | (rw [d10] at hh; exact absurd hh.2.2.2.1 (by simp)))
    subst hE
    clear HE H3
    go_wp2_with fail
    go_ret
    exact ⟨rfl, HQ1.out⟩
  have d4x : (parent.size : Int) = 32 := Classical.not_not.1 d4
  by_cases d5 : ¬ (jb = parent)
  · have d5x : ¬ (jb = parent) := d5
    have d5b : (jb.toList == parent.toList) = false := by rw [bytes_beq]; exact decide_eq_false d5
    have hE : e = 9 := by rw [HE.out]; simp only [blkC1, blkC2, H3.out]; exact if_neg (by intro hh; simp only [Bool.and_eq_true, decide_eq_true_eq] at hh; first | omega | exact absurd hh.2.1.1 d5 | (rw [d10] at hh; exact absurd hh.2.2.2.1 (by simp)))
    subst hE
    clear HE H3
    go_wp2_with fail
    go_ret
    exact ⟨rfl, HQ1.out⟩
  have d5x : jb = parent := Classical.not_not.1 d5
  have d5b : (jb.toList == parent.toList) = true := by rw [bytes_beq]; exact decide_eq_true d5x
  by_cases d6 : ¬ (jh = height - 1)
  · have d6x : ¬ (jh = height - 1) := d6
    have hE : e = 9 := by rw [HE.out]; simp only [blkC1, blkC2, H3.out]; exact if_neg (by intro hh; simp only [Bool.and_eq_true, decide_eq_true_eq] at hh; first | omega | exact absurd hh.2.1.1 d5 | (rw [d10] at hh; exact absurd hh.2.2.2.1 (by simp)))
    subst hE
    clear HE H3
    go_wp2_with fail
    go_ret
    exact ⟨rfl, HQ1.out⟩
  have d6x : jh = height - 1 := Classical.not_not.1 d6
  by_cases d7 : jv < 0
  · have hE : e = 9 := by rw [HE.out]; simp only [blkC1, blkC2, H3.out]; exact if_neg (by intro hh; simp only [Bool.and_eq_true, decide_eq_true_eq] at hh; first | omega | exact absurd hh.2.1.1 d5 | (rw [d10] at hh; exact absurd hh.2.2.2.1 (by simp)))
    subst hE
    clear HE H3
    go_wp2_with fail
    go_ret
    exact ⟨rfl, HQ1.out⟩
  by_cases d8 : jv > view
  · have hE : e = 9 := by rw [HE.out]; simp only [blkC1, blkC2, H3.out]; exact if_neg (by intro hh; simp only [Bool.and_eq_true, decide_eq_true_eq] at hh; first | omega | exact absurd hh.2.1.1 d5 | (rw [d10] at hh; exact absurd hh.2.2.2.1 (by simp)))
    subst hE
    clear HE H3
    go_wp2_with fail
    go_ret
    exact ⟨rfl, HQ1.out⟩
  by_cases d9 : n > 4
  · have d9y : decide (4 < n) = true := decide_eq_true d9
    have d9z : decide ((4 : Int) < (n : Int)) = true := decide_eq_true (by omega)
    have hE : e = 9 := by rw [HE.out]; simp only [blkC1, blkC2, H3.out]; exact if_neg (by intro hh; simp only [Bool.and_eq_true, decide_eq_true_eq] at hh; first | omega | exact absurd hh.2.1.1 d5 | (rw [d10] at hh; exact absurd hh.2.2.2.1 (by simp)))
    subst hE
    clear HE H3
    go_wp2_with fail
    go_ret
    exact ⟨rfl, HQ1.out⟩
  have d9y : decide (4 < n) = false := decide_eq_false d9
  have d9z : decide ((4 : Int) < (n : Int)) = false := decide_eq_false (by omega)
  by_cases d10 : ta = false
  · have hE : e = 9 := by rw [HE.out]; simp only [blkC1, blkC2, H3.out]; exact if_neg (by intro hh; simp only [Bool.and_eq_true, decide_eq_true_eq] at hh; first | omega | exact absurd hh.2.1.1 d5 | (rw [d10] at hh; exact absurd hh.2.2.2.1 (by simp)))
    subst hE
    rw [d10] at HCT
    clear HE H3
    go_wp2_with (go_at_call 129; refine (HCT.out _ HR1.out).mono ?_; rintro x w1 ⟨rfl, b1⟩; have x8 := cell_below b1 x8)
    go_ret
    exact ⟨rfl, bl_trans HQ1.out b1⟩
  have d10x : ta = true := by simpa using d10
  rw [d10x] at HCT
  by_cases d11 : sig.size > 4096
  · have d11y : decide (4096 < sig.size) = true := decide_eq_true d11
    have hE : e = 9 := by rw [HE.out]; simp only [blkC1, blkC2, H3.out]; exact if_neg (by intro hh; simp only [Bool.and_eq_true, decide_eq_true_eq] at hh; first | omega | exact absurd hh.2.1.1 d5 | (rw [d10] at hh; exact absurd hh.2.2.2.1 (by simp)))
    subst hE
    clear HE H3
    go_wp2_with (go_at_call 129; refine (HCT.out _ HR1.out).mono ?_; rintro x w1 ⟨rfl, b1⟩; have x8 := cell_below b1 x8)
    go_ret
    exact ⟨rfl, bl_trans HQ1.out b1⟩
  have d11y : decide (4096 < sig.size) = false := decide_eq_false d11
  have hE : e = 0 := by
    rw [HE.out]
    simp only [blkC1, blkC2, H3.out]
    exact if_pos (by simp only [Bool.and_eq_true, decide_eq_true_eq]; exact ⟨⟨by omega, by omega, by omega, by omega, d4x⟩, ⟨d5x, d6x, by omega, by omega⟩, by omega, d10x, by omega⟩)
  subst hE
  clear HE H3
  go_wp2_with (go_at_call 129; refine (HCT.out _ HR1.out).mono ?_; rintro x w1 ⟨rfl, b1⟩; have x8 := cell_below b1 x8)
  go_ret
  exact ⟨rfl, bl_trans HQ1.out b1⟩
end Go.Proofs.YtcbfpdenjdgnlaaGreat
/- Package block: Read. No claim of its own; no condition. -/
namespace Go.Proofs.YtcbfpdenjdgnlaaGreat
open Go.ChangeShapes Go.WideShapes Go.ChangeAt Go.RowKit
set_option linter.unusedVariables false
set_option linter.unusedSimpArgs false
theorem rdBlockF_txs (r : Rst) : (rdBlockF r).1.1.txs.length ≤ 4 := by
  simp only [rdBlockF]
  rw [rdTxs_len]
  have := gN_le (gN (gT (gN (gN r 1048576).2 1048576).2 32).2 1048576).2 4 (by omega)
  omega
set_option maxHeartbeats 3200000 in
set_option maxRecDepth 100000 in
theorem bread_calls (w : World) (N : Nat) (r : Rst) (h : RdS w N r) :
    Calls Tryz.prog 182 #[.pointer (some ⟨N, 0, none⟩)] w fun x w' => (∃ v1 v2, x = .returned (.agg (bcs (rdBlock r).1 v1 v2)) ∧ kVote.Own 52 w.heap.size w' w.heap.size v1 (rdBlock r).1.justify.votes ∧ kTx.Own 77 w.heap.size w' w.heap.size v2 (rdBlock r).1.txs) ∧ RdS w' N (rdBlock r).2 ∧ RK N w w' := by
  have q : RK N w (w.alloc (.cells bzC 40)) := rk_below (bl_alloc (Below.refl _ _) _)
  have h0 : RdS (w.alloc (.cells bzC 40)) N r := rds_below h (bl_alloc (Below.refl _ _) _)
  have g0 := alloc_new w (.cells bzC 40)
  obtain ⟨G2, hG2⟩ : ∃ G2, w.heap.size = G2 := ⟨_, rfl⟩
  have zg : (w.alloc (.cells bzC 40)).heap.size = G2 + 1 := by rw [World.size_alloc, hG2]
  obtain ⟨⟨s, r1⟩, hp⟩ : ∃ p, gT r 5 = p := ⟨_, rfl⟩
  have ht := rtext_rds (w.alloc (.cells bzC 40)) N r 5 h0
  rw [hp] at ht
  have HQ := Lib.hid q
  have HG := Lib.hid g0
  have H0 := Lib.hid h0
  have HT := Lib.hid ht
  obtain ⟨P, hP⟩ : ∃ P, P = rdBlock r := ⟨_, rfl⟩
  rw [← hP]
  have hr : rdBlock r = if s = blockWord then (if ((rdBlockF r1).2.2 == 0) = true ∧ (rdBlockF r1).1.1.justify.view = (rdBlockF r1).1.2 ∧ blockOk (rdBlockF r1).1.1 = true then ((rdBlockF r1).1.1, (rdBlockF r1).2) else (blockZ, (rdBlockF r1).2)) else (blockZ, r1) := by
    simp only [rdBlock, hp]
  rw [← hP] at hr
  clear q g0 h0 h ht hP hp
  cases hw : decide (s = blockWord) with
  | false =>
    rw [if_neg (of_decide_eq_false hw)] at hr
    subst hr
    have hs : (s.toList == ([98, 108, 111, 99, 107] : List UInt8)) = false := (word_beq _ _).trans hw
    clear hw
    go_enter Tryz.func182, Tryz.ntmps182
    go_upto_region 1 with fail
    change Code.wp _ _ _ _ (w.alloc (.cells bzC 40))
    generalize w.alloc (.cells bzC 40) = W0 at *
    rw [hG2] at HG
    have c0 := block_cell HG.out (i := 0) rfl
    go_upto_region 2 with (go_at_call 185; refine (HT.out).mono ?_; rintro x w1 ⟨rfl, h1, k1⟩)
    have g1 := rk_block k1 H0.out HG.out (by decide)
    go_wp2_with (refine wpList_store_rowOf rfl 40 (.tmp 2) (.tmp 8) rfl G2 rfl rfl 40 _ g1 size40 rfl (by kernel_rfl) ?_)
    refine bodyPost_ret (results_cell_row rfl _ _ G2 40 _ (0, 0) _ rfl (setRow_same g1) Tryz.underlying40 rfl size40) rfl ?_
    exact ⟨⟨_, _, rfl, Kd.own_nil _ _ _ _ _, Kd.own_nil _ _ _ _ _⟩, rds_far h1 g1 (by decide) (by decide), rk_setRow (rk_trans HQ.out k1) (by omega)⟩
  | true =>
    rw [if_pos (of_decide_eq_true hw)] at hr
    have hs : (s.toList == ([98, 108, 111, 99, 107] : List UInt8)) = true := (word_beq _ _).trans hw
    have HP := Lib.hid hr
    clear hw hr
    go_enter Tryz.func182, Tryz.ntmps182
    go_upto_region 1 with fail
    change Code.wp _ _ _ _ (w.alloc (.cells bzC 40))
    generalize w.alloc (.cells bzC 40) = W0 at *
    rw [hG2] at HG
    have c0 := block_cell HG.out (i := 0) rfl
    go_upto_region 3 with (go_at_call 185; refine (HT.out).mono ?_; rintro x w1 ⟨rfl, h1, k1⟩)
    have g1 := rk_block k1 H0.out HG.out (by decide)
    have q1 := rk_trans HQ.out k1
    have hz1 : G2 + 1 ≤ w1.heap.size := by have := k1.size; omega
    obtain ⟨⟨⟨b, view⟩, ⟨l8, t8⟩⟩, hx⟩ : ∃ x, rdBlockF r1 = x := ⟨_, rfl⟩
    have hf := bfields_calls w1 N r1 h1
    have hlb := rdBlockF_txs r1
    rw [hx] at hf HP hlb
    simp only [bcs] at hf
    have HF := Lib.hid hf
    obtain ⟨bv, bh, bp, ⟨jv, jh, jb, jl⟩, txs, sg⟩ := b
    dsimp only at HF HP hlb
    have HLB := Lib.hid (show txs.length ≤ 2097152 by omega)
    clear hlb hf hx c0 HQ HG H0 HT hs k1
    go_upto_region 4 with (go_at_call 237; refine (HF.out).mono ?_; rintro x w2 ⟨⟨v1, v2, rfl, own1, own2⟩, h2, k2⟩; obtain ⟨A1, n1, c1, rfl⟩ := k_some (k_own own1); obtain ⟨A2, c2, rfl, lc2, mc2, row2, _⟩ := Kd.own_row own2)
    obtain ⟨m, hm⟩ : ∃ m, txs.length = m := ⟨_, rfl⟩
    simp only [hm]
    have g2 := rk_block k2 h1 g1 (by decide)
    have q2 := rk_trans q1 k2
    have hz2 : G2 ≤ w2.heap.size := by have := k2.size; omega
    have Q := rk_alloc q2 (.cells #[.int .i64 bv, .int .i64 bh, .string bp, .int .i64 jv, .int .i64 jh, .string jb, .slice A1 n1 c1, .slice A2 m c2, .string sg] 40)
    have H := rds_below h2 (bl_alloc (Below.refl _ _) (.cells #[.int .i64 bv, .int .i64 bh, .string bp, .int .i64 jv, .int .i64 jh, .string jb, .slice A1 n1 c1, .slice A2 m c2, .string sg] 40))
    have G := alloc_old g2 (.cells #[.int .i64 bv, .int .i64 bh, .string bp, .int .i64 jv, .int .i64 jh, .string jb, .slice A1 n1 c1, .slice A2 m c2, .string sg] 40)
    have Fv := alloc_new w2 (.cells #[.int .i64 bv, .int .i64 bh, .string bp, .int .i64 jv, .int .i64 jh, .string jb, .slice A1 n1 c1, .slice A2 m c2, .string sg] 40)
    have BL := bl_alloc (Below.refl w2.heap.size w2) (.cells #[.int .i64 bv, .int .i64 bh, .string bp, .int .i64 jv, .int .i64 jh, .string jb, .slice A1 n1 c1, .slice A2 m c2, .string sg] 40)
    have o1 := Kd.own_below (Kd.own_flat (B' := 0) (base' := G2) flatVote own1 (by omega)) BL
    have o2 := Kd.own_below (Kd.own_flat (B' := 0) (base' := G2) flatTx own2 (by omega)) BL
    have row := Kd.row_below BL row2
    rw [hm] at o2
    obtain ⟨G3, hG3⟩ : ∃ G3, w2.heap.size = G3 := ⟨_, rfl⟩
    rw [hG3] at Fv
    have HO1 := Lib.hid o1
    have HO2 := Lib.hid o2
    have HROW := Lib.hid row
    have HM := Lib.hid hm
    simp only [hG3]
    clear q1 q2 g1 g2 h1 h2 k2 hG3 BL own1 own2 row2 o1 o2 row lc2 mc2 hm
    generalize w2.alloc (.cells _ 40) = W4 at *
    have fc0 := block_cell Fv (i := 0) rfl
    have fc1 := block_cell Fv (i := 1) rfl
    have fc2 := block_cell Fv (i := 2) rfl
    have fc3 := block_cell Fv (i := 3) rfl
    have fc4 := block_cell Fv (i := 4) rfl
    have fc5 := block_cell Fv (i := 5) rfl
    have fc6 := block_cell Fv (i := 6) rfl
    have fc7 := block_cell Fv (i := 7) rfl
    have fc8 := block_cell Fv (i := 8) rfl
    by_cases hz : (t8 == 0) = true
    · have hr0 : t8 = 0 := by simpa using hz
      subst hr0
      by_cases hj : jv = view
      · subst hj
        by_cases hv : blockOk ⟨bv, bh, bp, ⟨jv, jh, jb, jl⟩, txs, sg⟩ = true
        · have hP := HP.out
          rw [if_pos ⟨hz, rfl, hv⟩] at hP
          subst hP
          have hc := fun W B (hW : kTx.Row 77 B W A2 txs) => bcheck_calls ⟨bv, bh, bp, ⟨jv, jh, jb, jl⟩, txs, sg⟩ A1 A2 n1 c1 m c2 B W HM.out.symm HLB.out hW
          have h0 : chkB ⟨bv, bh, bp, ⟨jv, jh, jb, jl⟩, txs, sg⟩ = 0 := by unfold chkB; rw [if_pos hv]
          rw [h0] at hc
          simp only [bcs] at hc
          have HC := Lib.hid hc
          clear hc h0 hv hz HP
          go_wp2_with first
            | (go_at_call 120; with_reducible refine (err_z H).mono ?_; rintro x w13 ⟨rfl, rfl⟩)
            | (refine wpList_load_row rfl 40 (.tmp 3) rfl G3 rfl 40 _ (0, 0) _ f14 Tryz.underlying40 rfl size40 ?_)
            | (go_at_call 124; refine (HC.out _ _ HROW.out).mono ?_; rintro x w14 ⟨rfl, b14⟩; have f14 := block_below b14 Fv; have g14 := block_below b14 G)
            | (refine wpList_store_rowOf rfl 40 (.tmp 2) (.tmp 30) rfl G2 rfl rfl 40 _ g14 size40 rfl (by kernel_rfl) ?_)
          refine bodyPost_ret (results_cell_row rfl _ _ G2 40 _ (0, 0) _ rfl (setRow_same g14) Tryz.underlying40 rfl size40) rfl ?_
          refine ⟨⟨.slice A1 n1 c1, .slice A2 m c2, rfl, ?_, ?_⟩, rds_far (rds_below H b14) g14 (by decide) (by decide), rk_setRow (rk_trans Q (rk_below b14)) (by omega)⟩
          · exact Kd.own_flat flatVote (Kd.own_keep (Kd.own_below HO1.out b14) (keeps_setRow g14 (Nat.zero_le _) (by decide))) (Nat.le_refl _)
          · exact Kd.own_flat flatTx (Kd.own_keep (Kd.own_below HO2.out b14) (keeps_setRow g14 (Nat.zero_le _) (by decide))) (Nat.le_refl _)
        · have hP := HP.out
          rw [if_neg (fun h => hv h.2.2)] at hP
          subst hP
          have hc := fun W B (hW : kTx.Row 77 B W A2 txs) => bcheck_calls ⟨bv, bh, bp, ⟨jv, jh, jb, jl⟩, txs, sg⟩ A1 A2 n1 c1 m c2 B W HM.out.symm HLB.out hW
          have h0 : chkB ⟨bv, bh, bp, ⟨jv, jh, jb, jl⟩, txs, sg⟩ = 9 := by unfold chkB; rw [if_neg hv]
          rw [h0] at hc
          simp only [bcs] at hc
          have HC := Lib.hid hc
          clear hc h0 hv hz HP
          go_wp2_with first
            | (go_at_call 120; with_reducible refine (err_z H).mono ?_; rintro x w13 ⟨rfl, rfl⟩)
            | (go_at_call 124; refine (HC.out _ _ HROW.out).mono ?_; rintro x w14 ⟨rfl, b14⟩; have g14 := block_below b14 G)
            | (refine wpList_store_rowOf rfl 40 (.tmp 2) (.tmp 29) rfl G2 rfl rfl 40 _ g14 size40 rfl (by kernel_rfl) ?_)
          refine bodyPost_ret (results_cell_row rfl _ _ G2 40 _ (0, 0) _ rfl (setRow_same g14) Tryz.underlying40 rfl size40) rfl ?_
          exact ⟨⟨_, _, rfl, Kd.own_nil _ _ _ _ _, Kd.own_nil _ _ _ _ _⟩, rds_far (rds_below H b14) g14 (by decide) (by decide), rk_setRow (rk_trans Q (rk_below b14)) (by omega)⟩
      · have hP := HP.out
        rw [if_neg (fun h => hj h.2.1)] at hP
        subst hP
        clear HP hz
        go_wp2_with first
          | (go_at_call 120; with_reducible refine (err_z H).mono ?_; rintro x w13 ⟨rfl, rfl⟩)
          | (refine wpList_store_rowOf rfl 40 (.tmp 2) (.tmp 29) rfl G2 rfl rfl 40 _ G size40 rfl (by kernel_rfl) ?_)
        refine bodyPost_ret (results_cell_row rfl _ _ G2 40 _ (0, 0) _ rfl (setRow_same G) Tryz.underlying40 rfl size40) rfl ?_
        exact ⟨⟨_, _, rfl, Kd.own_nil _ _ _ _ _, Kd.own_nil _ _ _ _ _⟩, rds_far H G (by decide) (by decide), rk_setRow Q (by omega)⟩
    · have hP := HP.out
      rw [if_neg (fun h => hz h.1)] at hP
      subst hP
      have hr0 : ¬ (t8 = 0) := by simpa using hz
      clear HP hz
      go_wp2_with first
        | (go_at_call 120; with_reducible refine (err_z H).mono ?_; rintro x w13 ⟨rfl, rfl⟩)
        | (refine wpList_store_rowOf rfl 40 (.tmp 2) (.tmp 29) rfl G2 rfl rfl 40 _ G size40 rfl (by kernel_rfl) ?_)
      refine bodyPost_ret (results_cell_row rfl _ _ G2 40 _ (0, 0) _ rfl (setRow_same G) Tryz.underlying40 rfl size40) rfl ?_
      exact ⟨⟨_, _, rfl, Kd.own_nil _ _ _ _ _, Kd.own_nil _ _ _ _ _⟩, rds_far H G (by decide) (by decide), rk_setRow Q (by omega)⟩
end Go.Proofs.YtcbfpdenjdgnlaaGreat
