/- Package pack: a reader's Text, Left. No claim of its own; no condition. -/
import Derived.Test.YtcbfpdenjdgnlaaGreatQt18
namespace Go.Proofs.YtcbfpdenjdgnlaaGreat
open Go.ChangeShapes Go.WideShapes Go.ChangeAt Go.RowKit
set_option linter.unusedVariables false
set_option linter.unusedSimpArgs false
theorem left_rds (w : World) (N : Nat) (r : Rst) (h : RdS w N r) :
    Calls Tryz.prog 121 #[.pointer (some ⟨N, 0, none⟩)] w fun x w' => x = .returned (.int .i64 (if (r.2 == 0) = true then (r.1.length : Int) else 0)) ∧ w' = w := by
  have HR := Lib.hid (ready_rds w N r h)
  obtain ⟨A, c, h1, _⟩ := h
  have c0 : w.cell? ⟨N, 0, none⟩ = some (.slice A r.1.length c) := block_cell h1 (i := 0) rfl
  obtain ⟨k, hk⟩ : ∃ k, r.1.length = k := ⟨_, rfl⟩
  rw [hk] at c0 ⊢
  by_cases h0 : (r.2 == 0) = true
  · rw [if_pos h0]
    rw [h0] at HR
    clear h1 hk h0
    go_enter Tryz.func121, Tryz.ntmps121
    go_wp2_with (go_at_call 187; refine (HR.out).mono ?_; rintro x w1 ⟨rfl, rfl⟩)
    go_ret
    exact ⟨rfl, rfl⟩
  · rw [if_neg h0]
    have h0' : (r.2 == 0) = false := by simpa using h0
    rw [h0'] at HR
    clear h1 hk h0 h0'
    go_enter Tryz.func121, Tryz.ntmps121
    go_wp2_with (go_at_call 187; refine (HR.out).mono ?_; rintro x w1 ⟨rfl, rfl⟩)
    go_ret
    exact ⟨rfl, rfl⟩
set_option maxHeartbeats 1600000 in
set_option maxRecDepth 100000 in
theorem rtext_rds (w : World) (N : Nat) (r : Rst) (most : Int) (h : RdS w N r) :
    Calls Tryz.prog 185 #[.pointer (some ⟨N, 0, none⟩), .int .i64 most] w fun x w' => x = .returned (.string (gT r most).1) ∧ RdS w' N (gT r most).2 ∧ RK N w w' := by
  have HR := Lib.hid (ready_rds w N r h)
  by_cases h0 : (r.2 == 0) = true
  case neg =>
    have h0' : (r.2 == 0) = false := by simpa using h0
    have e : gT r most = (⟨#[]⟩, r) := by unfold gT; rw [if_neg h0]
    rw [e]
    rw [h0'] at HR
    have H := Lib.hid h
    clear h e h0
    go_enter Tryz.func185, Tryz.ntmps185
    go_wp2_with first | (go_at_call 187; refine (HR.out).mono ?_; rintro x w1 ⟨rfl, rfl⟩)
    go_ret
    exact ⟨rfl, H.out, rk_refl _ _⟩
  rw [h0] at HR
  by_cases hl : r.1.length < 2
  · have e : gT r most = (⟨#[]⟩, ([], 8)) := by unfold gT; rw [if_pos h0, if_pos hl]
    rw [e]
    have HT := Lib.hid (take_short w N r 2 h hl (by omega))
    have HG := Lib.hid (fun W => get_calls [] none 0 0 W 0 rfl (by simp) (Kd.row_nil _ _ _ _ _))
    clear h e h0 hl
    go_enter Tryz.func185, Tryz.ntmps185
    go_wp2_with first
      | (go_at_call 187; refine (HR.out).mono ?_; rintro x w1 ⟨rfl, rfl⟩)
      | (go_at_call 235; refine (HT.out).mono ?_; rintro x w2 ⟨rfl, r2, b2⟩)
      | (go_at_call 223; refine (HG.out _).mono ?_; rintro x w3 ⟨rfl, b3⟩; have r3 := rds_below r2 b3; have q3 := rk_trans b2 (rk_below b3); obtain ⟨A3, c3, t3, -⟩ := id r3; have c1 : w3.cell? ⟨N, 1, none⟩ = some (.int .i64 8) := block_cell t3 (i := 1) rfl)
    go_ret
    exact ⟨rfl, r3, q3⟩
  have ht : (r.1.take 2).length = 2 := by rw [List.length_take]; omega
  have HT := Lib.hid (take_rds w N r 2 h (by omega))
  have HG := Lib.hid (fun (W : World) (A : Option Addr) (hr : Kd.u8.Row 5 0 W A (r.1.take 2)) => get_calls (r.1.take 2) A 2 2 W 0 ht.symm (by omega) hr)
  obtain ⟨n, hn⟩ : ∃ n, octN (r.1.take 2) = n := ⟨_, rfl⟩
  have hn' : ((getU (r.1.take 2) % 4611686018427387904 : Nat) : Int) = n := hn
  have hn0 : 0 ≤ n := by omega
  rw [hn'] at HG
  have hr2 : r.2 = 0 := by simpa using h0
  by_cases hbig : 4096 < n ∨ most < n
  · have e : gT r most = (⟨#[]⟩, ([], 5)) := by unfold gT; rw [if_pos h0, if_neg hl, hn, if_pos hbig]
    rw [e]
    rw [hr2] at HT
    have HS := Lib.hid (fun W hW => stop_rds W N (r.1.drop 2, 0) 5 hW)
    clear h e h0 hl hn hn' hr2 ht hn0
    by_cases hb' : n > 4096
    · clear hbig
      go_enter Tryz.func185, Tryz.ntmps185
      go_wp2_with first
        | (go_at_call 187; refine (HR.out).mono ?_; rintro x w1 ⟨rfl, rfl⟩)
        | (go_at_call 235; refine (HT.out).mono ?_; rintro x w2 ⟨⟨A2, rfl, t2⟩, r2, b2⟩)
        | (go_at_call 223; refine (HG.out _ _ t2).mono ?_; rintro x w3 ⟨rfl, b3⟩; have r3 := rds_below r2 b3; have q3 := rk_trans b2 (rk_below b3); obtain ⟨A3, c3, t3, -⟩ := id r3; have c1 : w3.cell? ⟨N, 1, none⟩ = some (.int .i64 0) := block_cell t3 (i := 1) rfl)
        | (go_at_call 236; refine (HS.out _ r3).mono ?_; rintro x w4 ⟨⟨v4, rfl⟩, r4, b4⟩; have q4 := rk_trans q3 b4; obtain ⟨A4, c4, t4, -⟩ := id r4; have c1' : w4.cell? ⟨N, 1, none⟩ = some (.int .i64 5) := block_cell t4 (i := 1) rfl)
      go_ret
      exact ⟨rfl, r4, q4⟩
    · have hbb : n > most := by omega
      clear hbig
      go_enter Tryz.func185, Tryz.ntmps185
      go_wp2_with first
        | (go_at_call 187; refine (HR.out).mono ?_; rintro x w1 ⟨rfl, rfl⟩)
        | (go_at_call 235; refine (HT.out).mono ?_; rintro x w2 ⟨⟨A2, rfl, t2⟩, r2, b2⟩)
        | (go_at_call 223; refine (HG.out _ _ t2).mono ?_; rintro x w3 ⟨rfl, b3⟩; have r3 := rds_below r2 b3; have q3 := rk_trans b2 (rk_below b3); obtain ⟨A3, c3, t3, -⟩ := id r3; have c1 : w3.cell? ⟨N, 1, none⟩ = some (.int .i64 0) := block_cell t3 (i := 1) rfl)
        | (go_at_call 236; refine (HS.out _ r3).mono ?_; rintro x w4 ⟨⟨v4, rfl⟩, r4, b4⟩; have q4 := rk_trans q3 b4; obtain ⟨A4, c4, t4, -⟩ := id r4; have c1' : w4.cell? ⟨N, 1, none⟩ = some (.int .i64 5) := block_cell t4 (i := 1) rfl)
      go_ret
      exact ⟨rfl, r4, q4⟩
  have hb1 : ¬ (n > 4096) := by omega
  have hb2 : ¬ (n > most) := by omega
  obtain ⟨k, rfl⟩ : ∃ k : Nat, n = (k : Int) := ⟨n.toNat, by omega⟩
  have hb3 : decide (most < (k : Int)) = false := decide_eq_false (by omega)
  have hb4 : decide ((4096 : Int) < (k : Int)) = false := decide_eq_false (by omega)
  have hb5 : decide (4096 < k) = false := decide_eq_false (by omega)
  have hd : (r.1.drop 2).length = r.1.length - 2 := List.length_drop ..
  by_cases hs : (r.1.length : Int) - 2 < k
  · have e : gT r most = (⟨#[]⟩, ([], 8)) := by unfold gT; rw [if_pos h0, if_neg hl, hn, if_neg hbig, if_pos hs]
    rw [e]
    rw [hr2] at HT
    have HS := Lib.hid (fun W hW => take_short W N (r.1.drop 2, 0) k hW (by show (r.1.drop 2).length < _; omega) (by omega))
    have hcv : ∀ W, (convert 60 9 (.slice none 0 0)).run Tryz.prog W = .ok (.string (sb [])) W := fun W => run_str Tryz.underlying60 Tryz.underlying5 Tryz.underlying9 (Kd.row_nil Kd.u8 5 0 W none) 0
    clear h e h0 hl hn hn' hr2 ht hn0 hbig hd hs
    go_enter Tryz.func185, Tryz.ntmps185
    go_wp2_with first
      | (go_at_call 187; refine (HR.out).mono ?_; rintro x w1 ⟨rfl, rfl⟩)
      | (go_at_call_of 235 (Value.int .i64 2); refine (HT.out).mono ?_; rintro x w2 ⟨⟨A2, rfl, t2⟩, r2, b2⟩)
      | (go_at_call 223; refine (HG.out _ _ t2).mono ?_; rintro x w3 ⟨rfl, b3⟩; have r3 := rds_below r2 b3; have q3 := rk_trans b2 (rk_below b3); obtain ⟨A3, c3, t3, -⟩ := id r3; have c1 : w3.cell? ⟨N, 1, none⟩ = some (.int .i64 0) := block_cell t3 (i := 1) rfl)
      | (go_at_call 235; refine (HS.out _ r3).mono ?_; rintro x w4 ⟨rfl, r4, b4⟩; have q4 := rk_trans q3 b4)
      | (refine wpList_convert rfl 60 9 _ rfl _ rfl _ _ (hcv _) ?_)
    go_ret
    exact ⟨rfl, r4, q4⟩
  · have e : gT r most = (sb ((r.1.drop 2).take k), ((r.1.drop 2).drop k, 0)) := by unfold gT; rw [if_pos h0, if_neg hl, hn, if_neg hbig, if_neg hs, Int.toNat_natCast]
    rw [e]
    rw [hr2] at HT
    have HS := Lib.hid (fun W hW => take_rds W N (r.1.drop 2, 0) k hW (by show _ ≤ (r.1.drop 2).length; omega))
    obtain ⟨T, hT⟩ : ∃ T, (r.1.drop 2).take k = T := ⟨_, rfl⟩
    have hTl : T.length = k := by rw [← hT, List.length_take]; omega
    have hcv : ∀ W A, Kd.u8.Row 5 0 W A T → (convert 60 9 (.slice A k k)).run Tryz.prog W = .ok (.string (sb T)) W := fun W A hr => by
      have := run_str (P := Tryz.prog) Tryz.underlying60 Tryz.underlying5 Tryz.underlying9 hr k
      rwa [hTl] at this
    dsimp only at HS
    rw [hT] at HS ⊢
    have HC := Lib.hid hcv
    clear h e h0 hl hn hn' hr2 ht hn0 hbig hd hs hTl hT hcv
    go_enter Tryz.func185, Tryz.ntmps185
    go_wp2_with first
      | (go_at_call 187; refine (HR.out).mono ?_; rintro x w1 ⟨rfl, rfl⟩)
      | (go_at_call_of 235 (Value.int .i64 2); refine (HT.out).mono ?_; rintro x w2 ⟨⟨A2, rfl, t2⟩, r2, b2⟩)
      | (go_at_call 223; refine (HG.out _ _ t2).mono ?_; rintro x w3 ⟨rfl, b3⟩; have r3 := rds_below r2 b3; have q3 := rk_trans b2 (rk_below b3); obtain ⟨A3, c3, t3, -⟩ := id r3; have c1 : w3.cell? ⟨N, 1, none⟩ = some (.int .i64 0) := block_cell t3 (i := 1) rfl)
      | (go_at_call 235; refine (HS.out _ r3).mono ?_; rintro x w4 ⟨⟨A4, rfl, t4⟩, r4, b4⟩; have q4 := rk_trans q3 b4)
      | (refine wpList_convert rfl 60 9 _ rfl _ rfl _ _ (HC.out _ _ t4) ?_)
    go_ret
    exact ⟨rfl, r4, q4⟩
end Go.Proofs.YtcbfpdenjdgnlaaGreat
/- Package vote: Read. No claim of its own; no condition. -/
namespace Go.Proofs.YtcbfpdenjdgnlaaGreat
open Go.ChangeShapes Go.WideShapes Go.ChangeAt Go.RowKit
set_option linter.unusedVariables false
set_option linter.unusedSimpArgs false
theorem num_z {w : World} {N : Nat} {r : Rst} (most : Int) (h : RdS w N r) :
    Calls Tryz.prog 181 #[.pointer (some ⟨N, 0, none⟩), .int .i64 most] w fun x w' => ∃ (a : Int) (r' : Rst), gN r most = (a, r') ∧ x = .returned (.int .i64 a) ∧ RdS w' N r' ∧ RK N w w' :=
  (num_rds w N r most h).mono fun x w' ⟨h1, h2, h3⟩ => ⟨_, _, rfl, h1, h2, h3⟩
theorem text_z {w : World} {N : Nat} {r : Rst} (most : Int) (h : RdS w N r) :
    Calls Tryz.prog 185 #[.pointer (some ⟨N, 0, none⟩), .int .i64 most] w fun x w' => ∃ (a : ByteArray) (r' : Rst), gT r most = (a, r') ∧ x = .returned (.string a) ∧ RdS w' N r' ∧ RK N w w' :=
  (rtext_rds w N r most h).mono fun x w' ⟨h1, h2, h3⟩ => ⟨_, _, rfl, h1, h2, h3⟩
theorem err_z {w : World} {N : Nat} {l : List UInt8} {t : Int} (h : RdS w N (l, t)) : Calls Tryz.prog 120 #[.pointer (some ⟨N, 0, none⟩)] w fun x w' => x = .returned (.int .i64 t) ∧ w' = w := err_rds w N (l, t) h
theorem word_beq (a : ByteArray) (l : List UInt8) : (a.toList == l) = decide (a = sb l) := by
  have := bytes_beq a (sb l)
  rw [ByteArray.toList_eq (sb l)] at this
  exact this
theorem size52 : (Tryz.prog.info? 52).map (·.size) = some 7 := by kernel_rfl
theorem rk_setRow {N g : Nat} {a w : World} {cs : Array Value} (h : RK N a w) (hg : a.heap.size ≤ g) : RK N a (w.setRow g cs) :=
  ⟨h.os, h.tape, h.output, by have := h.size; show _ ≤ (w.heap.modify g _).size; rw [Array.size_modify]; exact this, fun k hk hn => (setRow_far (by omega)).trans (h.block k hk hn)⟩
theorem rk_cell {N g i : Nat} {a w : World} {u : Value} (h : RK N a w) (hg : a.heap.size ≤ g) : RK N a (w.setCell ⟨g, i, none⟩ u) :=
  ⟨h.os, h.tape, h.output, by have := h.size; simpa [World.setCell] using this, fun k hk hn => (Below.heap_setCell w ⟨g, i, none⟩ u k (by show k ≠ g; omega)).trans (h.block k hk hn)⟩
theorem rk_alloc {N : Nat} {a w : World} (h : RK N a w) (o : Obj) : RK N a (w.alloc o) := rk_trans h (rk_below (bl_alloc (Below.refl _ _) _))
theorem rds_far {w : World} {N g : Nat} {r : Rst} {cs' : Array Value} {c : Array Value} {t : TypeId} (h : RdS w N r) (hg : w.heap[g]? = some (.cells c t (0, 0))) (h1 : t ≠ 239) (h2 : t ≠ 5) : RdS (w.setRow g cs') N r := by
  obtain ⟨A, c, k1, k2, k3, k4, k5⟩ := h
  have hne : N ≠ g := by rintro rfl; rw [k1] at hg; cases hg; exact h1 rfl
  exact ⟨A, c, (setRow_far hne).trans k1, row_setRow Kd.flat_u8 hg (by simpa [Kd.u8] using h2) (fun B => row_any Kd.flat_u8 k2 B) 0, k3, k4, k5⟩
theorem rds_farc {w : World} {N g i : Nat} {r : Rst} {u : Value} {c : Array Value} {t : TypeId} (h : RdS w N r) (hg : w.heap[g]? = some (.cells c t (0, 0))) (h1 : t ≠ 239) (h2 : t ≠ 5) : RdS (w.setCell ⟨g, i, none⟩ u) N r := by
  obtain ⟨A, c, k1, k2, k3, k4, k5⟩ := h
  have hne : N ≠ g := by rintro rfl; rw [k1] at hg; cases hg; exact h1 rfl
  exact ⟨A, c, block_far k1 hne, row_set Kd.flat_u8 hg (by simpa [Kd.u8] using h2) u (fun B => row_any Kd.flat_u8 k2 B) 0, k3, k4, k5⟩
set_option maxHeartbeats 1600000 in
set_option maxRecDepth 100000 in
theorem vread_calls (w : World) (N : Nat) (r : Rst) (h : RdS w N r) :
    Calls Tryz.prog 183 #[.pointer (some ⟨N, 0, none⟩)] w fun x w' => x = .returned (.agg (vcs (rdVote r).1)) ∧ RdS w' N (rdVote r).2 ∧ RK N w w' := by
  have q : RK N w (w.alloc (.cells (vcs votZ) 52)) := rk_below (bl_alloc (Below.refl _ _) _)
  have h0 : RdS (w.alloc (.cells (vcs votZ) 52)) N r := rds_below h (bl_alloc (Below.refl _ _) _)
  have g0 : (w.alloc (.cells (vcs votZ) 52)).heap[w.heap.size]? = some (.cells (vcs votZ) 52 (0, 0)) := alloc_new w _
  unfold vcs votZ at *
  obtain ⟨G2, hG2⟩ : ∃ G2, w.heap.size = G2 := ⟨_, rfl⟩
  have HQ := Lib.hid q
  have HG := Lib.hid g0
  have H0 := Lib.hid h0
  have HGN := Lib.hid (show N < w.heap.size from rds_lt h)
  clear q g0 h0 h
  cases hw : decide ((gT r 4).1 = voteWord) with
  | false =>
    have hr : rdVote r = (votZ, (gT r 4).2) := by unfold rdVote; rw [if_neg (of_decide_eq_false hw)]
    have hs : ((gT r 4).1.toList == ([118, 111, 116, 101] : List UInt8)) = false := (word_beq _ _).trans hw
    rw [hr]
    clear hr hw
    go_enter Tryz.func183, Tryz.ntmps183
    go_upto_region 1 with fail
    generalize w.alloc (.cells _ 52) = W0 at *
    rw [hG2] at HG
    have h0 := H0.out
    have c0 := block_cell HG.out (i := 0) rfl
    go_upto_region 2 with (go_at_call 185; refine (rtext_rds W0 N r 4 h0).mono ?_; rintro x w1 ⟨rfl, h1, k1⟩)
    have g1 := rk_block k1 H0.out HG.out (by decide)
    go_wp2_with (refine wpList_store_rowOf rfl 52 (.tmp 2) (.tmp 7) rfl G2 rfl rfl 52 _ g1 size52 rfl (by kernel_rfl) ?_)
    refine bodyPost_ret (results_cell_row rfl _ _ G2 52 (vcs votZ) (0, 0) _ rfl (setRow_same g1) Tryz.underlying52 rfl size52) rfl ?_
    exact ⟨rfl, rds_far h1 g1 (by decide) (by decide), rk_setRow (rk_trans HQ.out k1) (by omega)⟩
  | true =>
    obtain ⟨⟨s, r1⟩, hp⟩ : ∃ p, gT r 4 = p := ⟨_, rfl⟩
    rw [hp] at hw
    have hr : rdVote r = (if ((rdVoteF r1).2.2 == 0) = true ∧ voteOk (rdVoteF r1).1 = true then rdVoteF r1 else (votZ, (rdVoteF r1).2)) := by unfold rdVote; rw [hp, if_pos (of_decide_eq_true hw)]
    have hs : (s.toList == ([118, 111, 116, 101] : List UInt8)) = true := (word_beq _ _).trans hw
    have HT := Lib.hid (rtext_rds (w.alloc (.cells (vcs votZ) 52)) N r 4 H0.out)
    rw [hp] at HT
    obtain ⟨P, hP⟩ : ∃ P, P = rdVote r := ⟨_, rfl⟩
    rw [← hP]
    rw [hr] at hP
    have HP := Lib.hid hP
    unfold vcs votZ at HT
    clear hr hw hp hP
    go_enter Tryz.func183, Tryz.ntmps183
    go_upto_region 1 with fail
    generalize w.alloc (.cells _ 52) = W0 at *
    rw [hG2] at HG
    have c0 := block_cell HG.out (i := 0) rfl
    go_upto_region 3 with (go_at_call 185; refine (HT.out).mono ?_; rintro x w1 ⟨rfl, h1, k1⟩)
    have g1 := rk_block k1 H0.out HG.out (by decide)
    have q1 := rk_trans HQ.out k1
    clear c0 HG H0 HQ k1 hs HT
    go_upto_region 4 with first
      | (go_at_call 181; with_reducible refine (num_z 4 h1).mono ?_; rintro x w2 ⟨a1, r2, e1, rfl, h2, k2⟩)
      | (go_at_call 181; with_reducible refine (num_z 1048576 h2).mono ?_; rintro x w3 ⟨a2, r3, e2, rfl, h3, k3⟩)
      | (go_at_call 181; with_reducible refine (num_z 1048576 h3).mono ?_; rintro x w4 ⟨a3, r4, e3, rfl, h4, k4⟩)
    have g4 := rk_block k4 h3 (rk_block k3 h2 (rk_block k2 h1 g1 (by decide)) (by decide)) (by decide)
    have q4 := rk_trans (rk_trans (rk_trans q1 k2) k3) k4
    have z4 : G2 ≤ w4.heap.size := by have := q4.size; omega
    have q5 := rk_alloc q4 (.cells #[.int .i64 a1, .int .i64 a2, .int .i64 a3, .string ⟨#[]⟩, .int .i64 0, .int .i64 0, .string ⟨#[]⟩] 52)
    have h5 := rds_below h4 (bl_alloc (Below.refl _ _) (.cells #[.int .i64 a1, .int .i64 a2, .int .i64 a3, .string ⟨#[]⟩, .int .i64 0, .int .i64 0, .string ⟨#[]⟩] 52))
    have g5 := alloc_old g4 (.cells #[.int .i64 a1, .int .i64 a2, .int .i64 a3, .string ⟨#[]⟩, .int .i64 0, .int .i64 0, .string ⟨#[]⟩] 52)
    have f5 := alloc_new w4 (.cells #[.int .i64 a1, .int .i64 a2, .int .i64 a3, .string ⟨#[]⟩, .int .i64 0, .int .i64 0, .string ⟨#[]⟩] 52)
    obtain ⟨G3, hG3⟩ : ∃ G3, w4.heap.size = G3 := ⟨_, rfl⟩
    rw [hG3] at f5 z4
    have ne : G2 ≠ G3 := by have := blk_lt g4; omega
    simp only [hG3]
    clear q4 h4 g4 k2 k3 k4 h1 h2 h3 g1 q1 hG3
    generalize w4.alloc (.cells _ 52) = W5 at *
    go_upto_region 5 with (go_at_call 185; with_reducible refine (text_z 32 h5).mono ?_; rintro x w6 ⟨a4, r5, e4, rfl, h6, k6⟩; have f6 := rk_block k6 h5 f5 (by decide); have c6 := block_cell f6 (i := 3) rfl; have z6 : w6.frozen? ⟨G3, 3, none⟩ = false := block_free f6)
    have g6 := rk_block k6 h5 g5 (by decide)
    have q6 := rk_cell (i := 3) (u := .string a4) (rk_trans q5 k6) (show w.heap.size ≤ G3 by omega)
    have f7 : (w6.setCell ⟨G3, 3, none⟩ (.string a4)).heap[G3]? = some (.cells #[.int .i64 a1, .int .i64 a2, .int .i64 a3, .string a4, .int .i64 0, .int .i64 0, .string ⟨#[]⟩] 52 (0, 0)) := by simpa using block_set (i := 3) (u := .string a4) f6
    have g7 := block_far (i := 3) (u := .string a4) g6 ne
    have h7 := rds_farc (i := 3) (u := .string a4) h6 f6 (by decide) (by decide)
    clear c6 z6 f6 g6 h6 h5 k6 q5 g5 f5
    generalize w6.setCell ⟨G3, 3, none⟩ (.string a4) = W7 at *
    go_upto_region 6 with first
      | (go_at_call 181; with_reducible refine (num_z 1048576 h7).mono ?_; rintro x w8 ⟨a5, r6, e5, rfl, h8, k8⟩)
      | (go_at_call 181; with_reducible refine (num_z 7 h8).mono ?_; rintro x w9 ⟨a6, r7, e6, rfl, h9, k9⟩; have f9 := rk_block k9 h8 (rk_block k8 h7 f7 (by decide)) (by decide); have c9 := block_cell f9 (i := 4) rfl; have c9' := block_cell f9 (i := 5) rfl; have z9 : w9.frozen? ⟨G3, 4, none⟩ = false := block_free f9; have z9' : w9.frozen? ⟨G3, 5, none⟩ = false := block_free f9)
    have g9 := rk_block k9 h8 (rk_block k8 h7 g7 (by decide)) (by decide)
    have q9 := rk_cell (i := 5) (u := .int .i64 a6) (rk_cell (i := 4) (u := .int .i64 a5) (rk_trans (rk_trans q6 k8) k9) (show w.heap.size ≤ G3 by omega)) (show w.heap.size ≤ G3 by omega)
    have f9' := block_set (i := 4) (u := .int .i64 a5) f9
    have f10 : ((w9.setCell ⟨G3, 4, none⟩ (.int .i64 a5)).setCell ⟨G3, 5, none⟩ (.int .i64 a6)).heap[G3]? = some (.cells #[.int .i64 a1, .int .i64 a2, .int .i64 a3, .string a4, .int .i64 a5, .int .i64 a6, .string ⟨#[]⟩] 52 (0, 0)) := by simpa using block_set (i := 5) (u := .int .i64 a6) f9'
    have g10 := block_far (i := 5) (u := .int .i64 a6) (block_far (i := 4) (u := .int .i64 a5) g9 ne) ne
    have h10 := rds_farc (i := 5) (u := .int .i64 a6) (rds_farc (i := 4) (u := .int .i64 a5) h9 f9 (by decide) (by decide)) f9' (by decide) (by decide)
    clear c9 c9' z9 z9' f9 f9' g9 h9 h8 h7 k8 k9 q6 g7 f7
    generalize (w9.setCell ⟨G3, 4, none⟩ (.int .i64 a5)).setCell ⟨G3, 5, none⟩ (.int .i64 a6) = W10 at *
    go_upto_region 7 with (go_at_call 185; with_reducible refine (text_z 4096 h10).mono ?_; rintro x w11 ⟨a7, ⟨l8, t8⟩, e7, rfl, h11, k11⟩; have f11 := rk_block k11 h10 f10 (by decide); have c11 := block_cell f11 (i := 6) rfl; have z11 : w11.frozen? ⟨G3, 6, none⟩ = false := block_free f11)
    have g11 := rk_block k11 h10 g10 (by decide)
    have q12 := rk_cell (i := 6) (u := .string a7) (rk_trans q9 k11) (show w.heap.size ≤ G3 by omega)
    have f12 : (w11.setCell ⟨G3, 6, none⟩ (.string a7)).heap[G3]? = some (.cells (vcs ⟨a1, a2, a3, a4, a5, a6, a7⟩) 52 (0, 0)) := by unfold vcs; simpa using block_set (i := 6) (u := .string a7) f11
    have g12 := block_far (i := 6) (u := .string a7) g11 ne
    have h12 := rds_farc (i := 6) (u := .string a7) h11 f11 (by decide) (by decide)
    clear c11 z11 f11 g11 h11 h10 k11 q9 g10 f10
    generalize w11.setCell ⟨G3, 6, none⟩ (.string a7) = W12 at *
    have hF : rdVoteF r1 = (⟨a1, a2, a3, a4, a5, a6, a7⟩, (l8, t8)) := by
      unfold rdVoteF
      simp only [e1, e2, e3, e4, e5, e6, e7]
    obtain ⟨v, hv⟩ : ∃ v : Vote, v = ⟨a1, a2, a3, a4, a5, a6, a7⟩ := ⟨_, rfl⟩
    rw [← hv] at f12 hF
    have HF := Lib.hid hF
    have HFV := Lib.hid f12
    have HCK := Lib.hid (fun W => vcheck_calls v W)
    clear e1 e2 e3 e4 e5 e6 e7 hv hF f12
    rw [HF.out] at HP
    have zz := q12.size
    by_cases hz : (t8 == 0) = true
    · by_cases hv : voteOk v = true
      · have hP : P = (v, (l8, t8)) := by rw [HP.out, if_pos ⟨hz, hv⟩]
        have h0 : chkV v = 0 := by unfold chkV; rw [if_pos hv]
        rw [h0] at HCK
        subst hP
        have hr0 : t8 = 0 := by simpa using hz
        subst hr0
        obtain ⟨u0, u1, u2, u3, u4, u5, u6⟩ := vcells HFV.out
        clear HP HF hz hv h0
        unfold vcs at HCK
        go_wp2_with first
          | (go_at_call 120; with_reducible refine (err_z h12).mono ?_; rintro x w13 ⟨rfl, rfl⟩)
          | (go_at_call 170; refine (HCK.out _).mono ?_; rintro x w14 ⟨rfl, b14⟩; have f14 := block_below b14 HFV.out; have g14 := block_below b14 g12)
          | (refine wpList_load_row rfl 52 (.tmp 3) rfl G3 rfl 52 (vcs v) (0, 0) _ f14 Tryz.underlying52 rfl size52 ?_)
          | (refine wpList_store_rowOf rfl 52 (.tmp 2) (.tmp 36) rfl G2 rfl rfl 52 _ g14 size52 rfl (by kernel_rfl) ?_)
        refine bodyPost_ret (results_cell_row rfl _ _ G2 52 (vcs v) (0, 0) _ rfl (setRow_same g14) Tryz.underlying52 rfl size52) rfl ?_
        exact ⟨rfl, rds_far (rds_below h12 b14) g14 (by decide) (by decide), rk_setRow (rk_trans q12 (rk_below b14)) (by omega)⟩
      · have hP : P = (votZ, (l8, t8)) := by rw [HP.out, if_neg (fun h => hv h.2)]
        have h0 : chkV v = 9 := by unfold chkV; rw [if_neg hv]
        rw [h0] at HCK
        subst hP
        have hr0 : t8 = 0 := by simpa using hz
        subst hr0
        obtain ⟨u0, u1, u2, u3, u4, u5, u6⟩ := vcells HFV.out
        clear HP HF hz hv h0
        unfold vcs at HCK
        go_wp2_with first
          | (go_at_call 120; with_reducible refine (err_z h12).mono ?_; rintro x w13 ⟨rfl, rfl⟩)
          | (go_at_call 170; refine (HCK.out _).mono ?_; rintro x w14 ⟨rfl, b14⟩; have g14 := block_below b14 g12)
          | (refine wpList_store_rowOf rfl 52 (.tmp 2) (.tmp 35) rfl G2 rfl rfl 52 _ g14 size52 rfl (by kernel_rfl) ?_)
        refine bodyPost_ret (results_cell_row rfl _ _ G2 52 (vcs votZ) (0, 0) _ rfl (setRow_same g14) Tryz.underlying52 rfl size52) rfl ?_
        exact ⟨rfl, rds_far (rds_below h12 b14) g14 (by decide) (by decide), rk_setRow (rk_trans q12 (rk_below b14)) (by omega)⟩
    · have hP : P = (votZ, (l8, t8)) := by rw [HP.out, if_neg (fun h => hz h.1)]
      subst hP
      have hr0 : ¬ (t8 = 0) := by simpa using hz
      clear HP HF hz
      go_wp2_with first
        | (go_at_call 120; with_reducible refine (err_z h12).mono ?_; rintro x w13 ⟨rfl, rfl⟩)
        | (refine wpList_store_rowOf rfl 52 (.tmp 2) (.tmp 35) rfl G2 rfl rfl 52 _ g12 size52 rfl (by kernel_rfl) ?_)
      refine bodyPost_ret (results_cell_row rfl _ _ G2 52 (vcs votZ) (0, 0) _ rfl (setRow_same g12) Tryz.underlying52 rfl size52) rfl ?_
      exact ⟨rfl, rds_far h12 g12 (by decide) (by decide), rk_setRow q12 (by omega)⟩
end Go.Proofs.YtcbfpdenjdgnlaaGreat
/- Package tx: Check, Read. No claim of its own; no condition. -/
namespace Go.Proofs.YtcbfpdenjdgnlaaGreat
open Go.ChangeShapes Go.WideShapes Go.ChangeAt Go.RowKit
set_option linter.unusedVariables false
set_option linter.unusedSimpArgs false
/-- A transaction's cells. -/
def tcs (t : Tx) : Array Value := #[.int .i64 t.frm, .int .i64 t.to, .int .i64 t.amount, .int .i64 t.nonce, .string t.sig]
theorem tcells {W : World} {g : Nat} {v : Tx} {t : TypeId} {f : Nat × Nat} (h : W.heap[g]? = some (.cells (tcs v) t f)) :
    W.cell? ⟨g, 0, none⟩ = some (.int .i64 v.frm) ∧ W.cell? ⟨g, 1, none⟩ = some (.int .i64 v.to) ∧ W.cell? ⟨g, 2, none⟩ = some (.int .i64 v.amount) ∧ W.cell? ⟨g, 3, none⟩ = some (.int .i64 v.nonce) ∧
    W.cell? ⟨g, 4, none⟩ = some (.string v.sig) :=
  ⟨block_cell h rfl, block_cell h rfl, block_cell h rfl, block_cell h rfl, block_cell h rfl⟩
theorem client_calls (n : Int) (w : World) : Calls Tryz.prog 238 #[.int .i64 n] w fun e w' => e = .returned (.bool (clientB n)) ∧ w = w' := by
  go_enter Tryz.func238, Tryz.ntmps238
  go_wp2
  all_goals (go_ret; exact ⟨ret_bool (by unfold clientB; first | (simp [*]; done) | (simp; omega)), rfl⟩)
def chkT (t : Tx) : Int := if txOk t = true then 0 else 9
set_option maxHeartbeats 1600000 in
set_option maxRecDepth 100000 in
theorem tcheck_calls (t : Tx) (w : World) : Calls Tryz.prog 189 #[.agg (tcs t)] w fun e w' => e = .returned (.int .i64 (chkT t)) ∧ Below w.heap.size w w' := by
  obtain ⟨ab, hab⟩ : ∃ b, clientB t.frm = b := ⟨_, rfl⟩
  obtain ⟨tb, htb⟩ : ∃ b, clientB t.to = b := ⟨_, rfl⟩
  have ha := fun W => client_calls t.frm W
  have ht := fun W => client_calls t.to W
  have hc : chkT t = if (ab && (tb && (!(t.frm == t.to) && (decide (1 ≤ t.amount) && (decide (t.amount ≤ 1000) && (decide (0 ≤ t.nonce) && (decide (t.nonce ≤ 1099511627776) && decide (t.sig.size ≤ 4096)))))))) = true then 0 else 9 := by unfold chkT txOk; rw [hab, htb]
  rw [hab] at ha
  rw [htb] at ht
  unfold tcs at *
  obtain ⟨fr, tt, am, no, sg⟩ := t
  dsimp only at *
  have HA := Lib.hid ha
  have HT := Lib.hid ht
  have HC := Lib.hid hc
  clear ha ht hc hab htb
  have q0 := bl_alloc (Below.refl w.heap.size w) (.cells (tcs ⟨fr, tt, am, no, sg⟩) 77)
  have a0 : (w.alloc (.cells (tcs ⟨fr, tt, am, no, sg⟩) 77)).heap[w.heap.size]? = some (.cells (tcs ⟨fr, tt, am, no, sg⟩) 77 (0, 0)) := alloc_new w _
  go_enter Tryz.func189, Tryz.ntmps189
  go_upto_region 1 with fail
  change Code.wp _ _ _ _ (w.alloc (.cells (tcs ⟨fr, tt, am, no, sg⟩) 77))
  generalize w.alloc (.cells (tcs ⟨fr, tt, am, no, sg⟩) 77) = W at *
  obtain ⟨r0, r1, r2, r3, r4⟩ := tcells a0
  dsimp only at r0 r1 r2 r3 r4
  by_cases hft : fr = tt
  · subst hft
    go_wp2_with (first
      | (go_at_call 238; refine (HA.out _).mono ?_; rintro e w1 ⟨rfl, rfl⟩)
      | (go_at_call 238; refine (HT.out _).mono ?_; rintro e w1 ⟨rfl, rfl⟩))
    all_goals (go_ret; refine ⟨?_, ?_⟩)
    all_goals first
      | exact q0
      | exact ret_int (a := 9) (by rw [HC.out]; first | (simp [*]; done) | (simp [*]; omega))
      | exact ret_int (a := 0) (by rw [HC.out]; first | (simp [*]; done) | (simp [*]; omega))
  · have hft' : (fr == tt) = false := by simpa using hft
    go_wp2_with (first
      | (go_at_call_of 238 (Value.int .i64 fr); refine (HA.out _).mono ?_; rintro e w1 ⟨rfl, rfl⟩)
      | (go_at_call 238; refine (HT.out _).mono ?_; rintro e w1 ⟨rfl, rfl⟩))
    all_goals (go_ret; refine ⟨?_, ?_⟩)
    all_goals first
      | exact q0
      | exact ret_int (a := 9) (by rw [HC.out]; first | (simp [*]; done) | (simp [*]; omega))
      | exact ret_int (a := 0) (by rw [HC.out]; first | (simp [*]; done) | (simp [*]; omega))
end Go.Proofs.YtcbfpdenjdgnlaaGreat
