/- Package tx: Read. No claim of its own; no condition. Printed by a program of this session. -/
import Derived.Test.YtcbfpdenjdgnlaaGreatQt19
import Derived.Test.YtcbfpdenjdgnlaaGreatQt09
namespace Go.Proofs.YtcbfpdenjdgnlaaGreat
open Go.ChangeShapes Go.WideShapes Go.ChangeAt Go.RowKit
set_option linter.unusedVariables false
set_option linter.unusedSimpArgs false
theorem size77 : (Tryz.prog.info? 77).map (·.size) = some 5 := by kernel_rfl
set_option maxHeartbeats 1600000 in
set_option maxRecDepth 100000 in
theorem tread_calls (w : World) (N : Nat) (r : Rst) (h : RdS w N r) :
    Calls Tryz.prog 186 #[.pointer (some ⟨N, 0, none⟩)] w fun x w' => x = .returned (.agg (tcs (rdTx r).1)) ∧ RdS w' N (rdTx r).2 ∧ RK N w w' := by
  have q : RK N w (w.alloc (.cells (tcs txZ) 77)) := rk_below (bl_alloc (Below.refl _ _) _)
  have h0 : RdS (w.alloc (.cells (tcs txZ) 77)) N r := rds_below h (bl_alloc (Below.refl _ _) _)
  have g0 : (w.alloc (.cells (tcs txZ) 77)).heap[w.heap.size]? = some (.cells (tcs txZ) 77 (0, 0)) := alloc_new w _
  unfold tcs txZ at *
  obtain ⟨G2, hG2⟩ : ∃ G2, w.heap.size = G2 := ⟨_, rfl⟩
  have HQ := Lib.hid q
  have HG := Lib.hid g0
  have H0 := Lib.hid h0
  clear q g0 h0 h
  cases hw : decide ((gT r 2).1 = txWord) with
  | false =>
    have hr : rdTx r = (txZ, (gT r 2).2) := by unfold rdTx; rw [if_neg (of_decide_eq_false hw)]
    have hs : ((gT r 2).1.toList == ([116, 120] : List UInt8)) = false := (word_beq _ _).trans hw
    rw [hr]
    clear hr hw
    go_enter Tryz.func186, Tryz.ntmps186
    go_upto_region 1 with fail
    generalize w.alloc (.cells _ 77) = W0 at *
    rw [hG2] at HG
    have h0 := H0.out
    have c0 := block_cell HG.out (i := 0) rfl
    go_upto_region 2 with (go_at_call 185; refine (rtext_rds W0 N r 2 h0).mono ?_; rintro x w1 ⟨rfl, h1, k1⟩)
    have g1 := rk_block k1 H0.out HG.out (by decide)
    go_wp2_with (refine wpList_store_rowOf rfl 77 (.tmp 2) (.tmp 7) rfl G2 rfl rfl 77 _ g1 size77 rfl (by kernel_rfl) ?_)
    refine bodyPost_ret (results_cell_row rfl _ _ G2 77 (tcs txZ) (0, 0) _ rfl (setRow_same g1) Tryz.underlying77 rfl size77) rfl ?_
    exact ⟨rfl, rds_far h1 g1 (by decide) (by decide), rk_setRow (rk_trans HQ.out k1) (by omega)⟩
  | true =>
    obtain ⟨⟨s, r1⟩, hp⟩ : ∃ p, gT r 2 = p := ⟨_, rfl⟩
    rw [hp] at hw
    have hr : rdTx r = (if ((rdTxF r1).2.2 == 0) = true ∧ txOk (rdTxF r1).1 = true then rdTxF r1 else (txZ, (rdTxF r1).2)) := by unfold rdTx; rw [hp, if_pos (of_decide_eq_true hw)]
    have hs : (s.toList == ([116, 120] : List UInt8)) = true := (word_beq _ _).trans hw
    have HT := Lib.hid (rtext_rds (w.alloc (.cells (tcs txZ) 77)) N r 2 H0.out)
    rw [hp] at HT
    obtain ⟨P, hP⟩ : ∃ P, P = rdTx r := ⟨_, rfl⟩
    rw [← hP]
    rw [hr] at hP
    have HP := Lib.hid hP
    unfold tcs txZ at HT
    clear hr hw hp hP
    go_enter Tryz.func186, Tryz.ntmps186
    go_upto_region 1 with fail
    generalize w.alloc (.cells _ 77) = W0 at *
    rw [hG2] at HG
    have c0 := block_cell HG.out (i := 0) rfl
    go_upto_region 3 with (go_at_call 185; refine (HT.out).mono ?_; rintro x w1 ⟨rfl, h1, k1⟩)
    have g1 := rk_block k1 H0.out HG.out (by decide)
    have q1 := rk_trans HQ.out k1
    clear c0 HG H0 HQ k1 hs HT
    go_upto_region 4 with first
      | (go_at_call 181; with_reducible refine (num_z 4 h1).mono ?_; rintro x w2 ⟨a2, r2, e2, rfl, h2, k2⟩)
      | (go_at_call 181; with_reducible refine (num_z 4 h2).mono ?_; rintro x w3 ⟨a3, r3, e3, rfl, h3, k3⟩)
      | (go_at_call 181; with_reducible refine (num_z 1000 h3).mono ?_; rintro x w4 ⟨a4, r4, e4, rfl, h4, k4⟩)
      | (go_at_call 181; with_reducible refine (num_z 1099511627776 h4).mono ?_; rintro x w5 ⟨a5, r5, e5, rfl, h5, k5⟩)
    have g2 := rk_block k2 h1 g1 (by decide)
    have q2 := rk_trans q1 k2
    have g3 := rk_block k3 h2 g2 (by decide)
    have q3 := rk_trans q2 k3
    have g4 := rk_block k4 h3 g3 (by decide)
    have q4 := rk_trans q3 k4
    have g5 := rk_block k5 h4 g4 (by decide)
    have q5 := rk_trans q4 k5
    have zz : G2 ≤ w5.heap.size := by have := q5.size; omega
    have Q := rk_alloc q5 (.cells #[.int .i64 a2, .int .i64 a3, .int .i64 a4, .int .i64 a5, .string ⟨#[]⟩] 77)
    have H := rds_below h5 (bl_alloc (Below.refl _ _) (.cells #[.int .i64 a2, .int .i64 a3, .int .i64 a4, .int .i64 a5, .string ⟨#[]⟩] 77))
    have G := alloc_old g5 (.cells #[.int .i64 a2, .int .i64 a3, .int .i64 a4, .int .i64 a5, .string ⟨#[]⟩] 77)
    have Fv := alloc_new w5 (.cells #[.int .i64 a2, .int .i64 a3, .int .i64 a4, .int .i64 a5, .string ⟨#[]⟩] 77)
    obtain ⟨G3, hG3⟩ : ∃ G3, w5.heap.size = G3 := ⟨_, rfl⟩
    rw [hG3] at Fv zz
    have ne : G2 ≠ G3 := by have := blk_lt g5; omega
    have zG : w.heap.size ≤ G3 := by omega
    simp only [hG3]
    clear q1 g1 h1 q2 g2 h2 q3 g3 h3 q4 g4 h4 q5 g5 h5 hG3 k2 k3 k4 k5
    generalize w5.alloc (.cells _ 77) = WW at *
    go_upto_region 5 with first
      | (go_at_call 185; with_reducible refine (text_z 4096 H).mono ?_; rintro x w6 ⟨a6, ⟨l6, t6⟩, e6, rfl, h6, k6⟩; have F6 := rk_block k6 H Fv (by decide); have c4 := block_cell F6 (i := 4) rfl; have z4 : w6.frozen? ⟨G3, 4, none⟩ = false := block_free F6)
    have G6 := rk_block k6 H G (by decide)
    have fs0_0 : (w6.setCell ⟨G3, 4, none⟩ (.string a6)).heap[G3]? = some (.cells (tcs ⟨a2, a3, a4, a5, a6⟩) 77 (0, 0)) := by unfold tcs; simpa using block_set (i := 4) (u := .string a6) F6
    have G' := (block_far (i := 4) (u := .string a6) G6 ne)
    have H' := (rds_farc (i := 4) (u := .string a6) h6 F6 (by decide) (by decide))
    have Q' := (rk_cell (i := 4) (u := .string a6) (rk_trans Q k6) zG)
    clear G Fv H Q h6 k6 F6 G6 c4 z4
    generalize w6.setCell ⟨G3, 4, none⟩ (.string a6) = WW0 at *
    have Fv := fs0_0
    have G := G'
    have H := H'
    have Q := Q'
    clear fs0_0 G' H' Q'
    have hF : rdTxF r1 = (⟨a2, a3, a4, a5, a6⟩, (l6, t6)) := by
      unfold rdTxF
      simp only [e2, e3, e4, e5, e6]
    obtain ⟨v, hv⟩ : ∃ v : Tx, v = ⟨a2, a3, a4, a5, a6⟩ := ⟨_, rfl⟩
    rw [← hv] at Fv hF
    have HF := Lib.hid hF
    have HFV := Lib.hid Fv
    have HCK := Lib.hid (fun W => tcheck_calls v W)
    clear e2 e3 e4 e5 e6 hv hF Fv
    rw [HF.out] at HP
    have zz := Q.size
    by_cases hz : (t6 == 0) = true
    · by_cases hv : txOk v = true
      · have hP : P = (v, (l6, t6)) := by rw [HP.out, if_pos ⟨hz, hv⟩]
        have h0 : chkT v = 0 := by unfold chkT; rw [if_pos hv]
        rw [h0] at HCK
        subst hP
        have hr0 : t6 = 0 := by simpa using hz
        subst hr0
        obtain ⟨u0, u1, u2, u3, u4⟩ := tcells HFV.out
        clear HP HF hz hv h0
        unfold tcs at HCK
        go_wp2_with first
          | (go_at_call 120; with_reducible refine (err_z H).mono ?_; rintro x w13 ⟨rfl, rfl⟩)
          | (go_at_call 189; refine (HCK.out _).mono ?_; rintro x w14 ⟨rfl, b14⟩; have f14 := block_below b14 HFV.out; have g14 := block_below b14 G)
          | (refine wpList_load_row rfl 77 (.tmp 3) rfl G3 rfl 77 (tcs v) (0, 0) _ f14 Tryz.underlying77 rfl size77 ?_)
          | (refine wpList_store_rowOf rfl 77 (.tmp 2) (.tmp 29) rfl G2 rfl rfl 77 _ g14 size77 rfl (by kernel_rfl) ?_)
        refine bodyPost_ret (results_cell_row rfl _ _ G2 77 (tcs v) (0, 0) _ rfl (setRow_same g14) Tryz.underlying77 rfl size77) rfl ?_
        exact ⟨rfl, rds_far (rds_below H b14) g14 (by decide) (by decide), rk_setRow (rk_trans Q (rk_below b14)) (by omega)⟩
      · have hP : P = (txZ, (l6, t6)) := by rw [HP.out, if_neg (fun h => hv h.2)]
        have h0 : chkT v = 9 := by unfold chkT; rw [if_neg hv]
        rw [h0] at HCK
        subst hP
        have hr0 : t6 = 0 := by simpa using hz
        subst hr0
        obtain ⟨u0, u1, u2, u3, u4⟩ := tcells HFV.out
        clear HP HF hz hv h0
        unfold tcs at HCK
        go_wp2_with first
          | (go_at_call 120; with_reducible refine (err_z H).mono ?_; rintro x w13 ⟨rfl, rfl⟩)
          | (go_at_call 189; refine (HCK.out _).mono ?_; rintro x w14 ⟨rfl, b14⟩; have f14 := block_below b14 HFV.out; have g14 := block_below b14 G)
          | (refine wpList_store_rowOf rfl 77 (.tmp 2) (.tmp 28) rfl G2 rfl rfl 77 _ g14 size77 rfl (by kernel_rfl) ?_)
        refine bodyPost_ret (results_cell_row rfl _ _ G2 77 (tcs txZ) (0, 0) _ rfl (setRow_same g14) Tryz.underlying77 rfl size77) rfl ?_
        exact ⟨rfl, rds_far (rds_below H b14) g14 (by decide) (by decide), rk_setRow (rk_trans Q (rk_below b14)) (by omega)⟩
    · have hP : P = (txZ, (l6, t6)) := by rw [HP.out, if_neg (fun h => hz h.1)]
      subst hP
      have hr0 : ¬ (t6 = 0) := by simpa using hz
      clear HP HF hz
      go_wp2_with first
        | (go_at_call 120; with_reducible refine (err_z H).mono ?_; rintro x w13 ⟨rfl, rfl⟩)
        | (refine wpList_store_rowOf rfl 77 (.tmp 2) (.tmp 28) rfl G2 rfl rfl 77 _ G size77 rfl (by kernel_rfl) ?_)
      refine bodyPost_ret (results_cell_row rfl _ _ G2 77 (tcs txZ) (0, 0) _ rfl (setRow_same G) Tryz.underlying77 rfl size77) rfl ?_
      exact ⟨rfl, rds_far H G (by decide) (by decide), rk_setRow Q (by omega)⟩

end Go.Proofs.YtcbfpdenjdgnlaaGreat
/- Regions that draw their order: each operation at a frame that is a letter. No claim of its own; no condition. -/
namespace Go.Proofs.YtcbfpdenjdgnlaaGreat

set_option linter.unusedVariables false
variable {P : Program} {md : Region.Mode}
theorem wanted_on {o : Oper} {ops : Array Oper} {T : Array Value} {g s : Nat} {b : Bool} (hg : o.guard = some (g, b)) (ho : (ops[g]?).bind (·.dst) = some s) (hx : T[s]? = some (.bool b)) : Region.wanted o (yielded ops T) = true := by
  unfold Region.wanted yielded
  rw [hg]
  dsimp only
  rw [ho]
  dsimp only [Option.bind_some]
  rw [hx]
  simp
theorem wanted_off {o : Oper} {ops : Array Oper} {T : Array Value} {g s : Nat} {b b' : Bool} (hg : o.guard = some (g, b)) (ho : (ops[g]?).bind (·.dst) = some s) (hx : T[s]? = some (.bool b')) (hb : b' ≠ b) : ¬ Region.wanted o (yielded ops T) = true := by
  unfold Region.wanted yielded
  rw [hg]
  dsimp only
  rw [ho]
  dsimp only [Option.bind_some]
  rw [hx]
  simpa using hb
theorem wanted_undef {o : Oper} {ops : Array Oper} {T : Array Value} {g s : Nat} {b : Bool} (hg : o.guard = some (g, b)) (ho : (ops[g]?).bind (·.dst) = some s) (hx : T[s]? = some undef) : ¬ Region.wanted o (yielded ops T) = true := by
  unfold Region.wanted yielded
  rw [hg]
  dsimp only
  rw [ho]
  dsimp only [Option.bind_some]
  rw [hx]
  simp [undef]
theorem frameF_old : ∀ (l : List Oper) (k : Nat) (a : Act) (u : Nat → Value) (s : Nat), (l.all fun o => o.dst != some s) = true → (frameF l k a u).tmps[s]? = a.tmps[s]?
  | [], _, _, _, _, _ => rfl
  | o :: l, k, a, u, s, h => by
    rw [List.all_cons, Bool.and_eq_true] at h
    show (frameF l (k + 1) (a.put o.dst (u k)) u).tmps[s]? = _
    rw [frameF_old l (k + 1) _ u s h.2]
    have h1 : o.dst ≠ some s := by simpa using h.1
    cases hd : o.dst with
    | none => rfl
    | some d =>
      rw [hd] at h1
      show (a.tmps.setIfInBounds d (u k))[s]? = _
      exact Array.getElem?_setIfInBounds_ne (fun e => h1 (by rw [e]))
theorem put_size (a : Act) (d : Option Tmp) (v : Value) : (a.put d v).tmps.size = a.tmps.size := by
  cases d with
  | none => rfl
  | some d => simp [Act.put]
theorem frameF_get : ∀ (l : List Oper) (k : Nat) (a : Act) (u : Nat → Value), onceB l = true → ∀ (i : Nat) (o : Oper) (s : Nat), l[i]? = some o → o.dst = some s → s < a.tmps.size → (frameF l k a u).tmps[s]? = some (u (k + i))
  | [], _, _, _, _, _, _, _, hi, _, _ => by cases hi
  | o0 :: l, k, a, u, hB, 0, o, s, hi, hd, hs => by
    cases hi
    simp only [onceB, Bool.and_eq_true] at hB
    show (frameF l (k + 1) (a.put o0.dst (u k)) u).tmps[s]? = _
    rw [frameF_old l (k + 1) _ u s (by have := hB.1; rw [hd] at this; exact this), hd]
    show (a.tmps.setIfInBounds s (u k))[s]? = _
    rw [Array.getElem?_setIfInBounds_self]
    simp [hs]
  | o0 :: l, k, a, u, hB, i + 1, o, s, hi, hd, hs => by
    simp only [onceB, Bool.and_eq_true] at hB
    show (frameF l (k + 1) (a.put o0.dst (u k)) u).tmps[s]? = _
    rw [frameF_get l (k + 1) _ u hB.2 i o s (by simpa using hi) hd (by rw [put_size]; exact hs), show k + 1 + i = k + (i + 1) by omega]
/-- Each operation, once; its frame a letter. -/
def InvStepsA (P : Program) (md : Region.Mode) (ops : Array Oper) (R : World → World → Prop) (φ : Nat → Value → World → Prop) (l0 : List Oper) (a0 : Act) (w0 : World) (Q : Exit → Act → World → Prop) : Nat → List Oper → Prop
  | _, [] => True
  | k, o :: l => (∀ (A : Act) (u : Nat → Value), (∀ (i : Nat) (o' : Oper) (s : Nat), l0[i]? = some o' → o'.dst = some s → Nat.blt s a0.tmps.size = true → A.tmps[s]? = some (u i)) →
      (∀ (s : Nat) (v : Value), (l0.all fun o' => o'.dst != some s) = true → a0.tmps[s]? = some v → A.tmps[s]? = some v) → ∀ (w1 : World), R w0 w1 → (∀ j, (o.after.any fun e => Region.binds md e && e.on == j) = true → ∀ w', R w1 w' → φ j (u j) w') →
      ∀ K : Act → World → Prop, (∀ v w2, R w1 w2 → (∀ w3, R w2 w3 → φ k v w3) → K (A.put o.dst v) w2) →
        if Region.wanted o (yielded ops A.tmps) = true then Oper.wp P o A w1 K Q else K (A.put o.dst undef) w1) ∧ InvStepsA P md ops R φ l0 a0 w0 Q (k + 1) l
theorem invSteps_of {ops : Array Oper} {R : World → World → Prop} {φ : Nat → Value → World → Prop} {l0 : List Oper} {a0 : Act} (hB : onceB l0 = true) {w0 : World} {Q : Exit → Act → World → Prop} : ∀ (l : List Oper) (k : Nat), InvStepsA P md ops R φ l0 a0 w0 Q k l → InvSteps P md ops R φ (frameF l0 0 a0) w0 Q k l
  | [], _, _ => trivial
  | o :: l, k, h => ⟨fun u w1 hR hd K hK => h.1 (frameF l0 0 a0 u) u (fun i o' s h1 h2 h3 => by have := frameF_get l0 0 a0 u hB i o' s h1 h2 (by simpa using h3); rwa [Nat.zero_add] at this) (fun s v h1 h2 => (frameF_old l0 0 a0 u s h1).trans h2) w1 hR (fun j hj => hd j hj) K hK, invSteps_of hB l (k + 1) h.2⟩
theorem wp_region_invA {id : Nat} {Q : Exit → Act → World → Prop} {a : Act} {w : World} {l : List Oper} (hm : P.follows .mixedOrders = true) (hB : invB .any l = true)
    (R : World → World → Prop) (φ : Nat → Value → World → Prop) (hR : ∀ w, R w w) (hT : ∀ a b c, R a b → R b c → R a c)
    (hs : InvStepsA P .any l.toArray R φ l a { w with drawn := w.drawn + 1 } Q 0 l)
    (hd : ∀ u w', R { w with drawn := w.drawn + 1 } w' → (∀ i, i < l.length → φ i (u i) w') → Q .normal (frameF l 0 a u) w') : (Code.region id l.toArray true).wp P Q a w :=
  wp_region_inv hm hB R φ hR hT (invSteps_of (by unfold invB at hB; exact (Bool.and_eq_true _ _ ▸ hB).1) l 0 hs) hd
end Go.Proofs.YtcbfpdenjdgnlaaGreat
