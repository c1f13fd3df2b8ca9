/- Package bank: Apply, where it is done. No claim of its own; no condition. -/
import Derived.StillTailTactics
import Derived.Test.YtflfpfaebndefabApply
namespace Go.Proofs.Ytflfpfaebndefab
open Go.ChangeShapes Go.WideShapes Go.ChangeAt Go.RowKit
set_option linter.unusedVariables false
set_option linter.unusedSimpArgs false
set_option maxHeartbeats 1600000 in
set_option maxRecDepth 100000 in
theorem apply_high (l : List Account) (f g : Nat) (amount nonce : Int) (sig : ByteArray) (a b : Account) (A : Option Addr) (n c : Nat) (w : World) (B : Nat) (hn : n = l.length) (hl : l.length ≤ 1048576) (hr : kAccount.Row 69 B w A l)
    (hz : readyF l ⟨f, g, amount, nonce, sig⟩ = 0) (h1 : f < l.length) (h2 : g < l.length) (ha : l[f]? = some a) (hb : l[g]? = some b) (hfg : f ≠ g) (hnon : a.nonce ≤ 1099511627776 ∧ 0 ≤ a.nonce) (ham : 1 ≤ amount ∧ amount ≤ 1000) (hlow : amount ≤ a.balance) :
    Calls Try.prog 10 #[.slice A n c, .agg #[.int .i64 (f : Int), .int .i64 (g : Int), .int .i64 amount, .int .i64 nonce, .string sig]] w
      fun e w' => (∃ v, e = .returned (.tuple #[v, .int .i64 0]) ∧ kAccount.Own 69 B w' w.heap.size v ((l.set f ⟨a.balance - amount, a.nonce + 1⟩).set g ⟨wrap64 (b.balance + amount), b.nonce⟩)) ∧ Below w.heap.size w w' := by
  subst hn
  obtain ⟨i0, hi, hz0, hz1, hz2⟩ := info_parts info66
  have q0 := bl_alloc (Below.refl w.heap.size w) (.cells #[.int .i64 (f : Int), .int .i64 (g : Int), .int .i64 amount, .int .i64 nonce, .string sig] 24)
  have b0 := alloc_new w (.cells #[.int .i64 (f : Int), .int .i64 (g : Int), .int .i64 amount, .int .i64 nonce, .string sig] 24)
  generalize hW : w.alloc (.cells #[.int .i64 (f : Int), .int .i64 (g : Int), .int .i64 amount, .int .i64 nonce, .string sig] 24) = W at *
  have HW := Lib.hid hW
  clear hW
  have HZ := Lib.hid hz
  clear hz
  have hsz := q0.size
  have h1I : (f : Int) < (l.length : Int) := by omega
  go_enter Try.func10, Try.ntmps10
  go_upto_region 1 with fail
  rw [HW.out]
  go_upto_region 7 with (first
    | (at_make; refine wpList_make_full _ rfl (.tmp 9) (.tmp 9) 22 rfl W.heap.size 69 i0 _ 2 Try.underlying22 hi hz0 hz1 .i64 .i64 _ _ l.length rfl rfl rfl rfl (by rw [hz2]; omega) (by simp only [maxLen]; omega) (Nat.le_refl _) ?_; intro w1 own1 grw1; obtain ⟨cur, hblk1, hcur, _⟩ := block_of_own own1; have b1 := bl_grown (Below.refl W.heap.size W) grw1 (fun k h => by cases h); obtain ⟨w2, cs, hrun, hreps, hblk2, grw2⟩ := run_copy_own w1 kAccount 22 22 3 69 W.heap.size B B W.heap.size l.length c A l cur Try.underlying22 (by rw [hi]; exact congrArg some hz1) hblk1 hcur rfl (Kd.row_below (bl_trans q0 b1) hr) (by simp only [maxLen]; omega) (Nat.le_refl _); have b2 := bl_grown b1 grw2 (fun k h => by cases h; exact Nat.le_refl _); obtain rfl := reps_cells hreps; have c0 := cell_below b2 (block_cell b0 (i := 0) rfl); have c1 := cell_below b2 (block_cell b0 (i := 1) rfl); have c2 := cell_below b2 (block_cell b0 (i := 2) rfl); have c3 := cell_below b2 (block_cell b0 (i := 3) rfl); have c4 := cell_below b2 (block_cell b0 (i := 4) rfl))
    | (refine wpList_copy_runI _ rfl (.tmp 11) (.tmp 12) 22 22 rfl _ _ rfl rfl hrun ?_)
    | (go_at_call 36; refine (ready_calls l ⟨f, g, amount, nonce, sig⟩ A l.length c _ B rfl (Kd.row_below (bl_trans q0 b2) hr)).mono ?_; rw [HZ.out]; rintro e w3 ⟨rfl, b3⟩; have d0 := cell_below b3 c0; have d1 := cell_below b3 c1; have d2 := cell_below b3 c2; have hb3 := block_below b3 hblk2; obtain ⟨n0, n1⟩ := acc_at hb3 ha; have z1 := frozen_of_row w3 W.heap.size (f * 2 + 1) _ 69 hb3; have hok := reps_ok hreps; clear hrun hblk1 hcur own1 grw1 grw2 hreps hi hz0 hz1 hz2 i0 hblk2 c0 c1 c2 c3 c4 b1))
  have hne0 : w.heap.size ≠ W.heap.size := by
    have := blk_lt b0
    omega
  have hb4 := set_block hb3 (f * 2 + 1) (.int .i64 (a.nonce + 1))
  rw [accCells_non _ ha] at hb4
  have s0 := cell_set (q := ⟨W.heap.size, f * 2 + 1, none⟩) d0 hne0 (.int .i64 (a.nonce + 1))
  have s2 := cell_set (q := ⟨W.heap.size, f * 2 + 1, none⟩) d2 hne0 (.int .i64 (a.nonce + 1))
  have s1 := cell_set (q := ⟨W.heap.size, f * 2 + 1, none⟩) d1 hne0 (.int .i64 (a.nonce + 1))
  have q4 := bl_set (bl_trans q0 (bl_trans b2 b3)) (p := ⟨W.heap.size, f * 2 + 1, none⟩) hsz (.int .i64 (a.nonce + 1))
  generalize w3.setCell ⟨W.heap.size, f * 2 + 1, none⟩ (.int .i64 (a.nonce + 1)) = w4 at *
  obtain ⟨m0, m1⟩ := acc_at (f := f) (a := ⟨a.balance, a.nonce + 1⟩) hb4 (by rw [List.getElem?_set_self h1])
  clear d0 d1 n0 n1 z1
  have hoka := hok a (List.mem_of_getElem? ha)
  have hokb := hok b (List.mem_of_getElem? hb)
  have hbI := hoka.1
  unfold IntOk at hbI
  go_wp2_with fail
  go_quiet (fail)
  go_wp2_with fail
  refine wp_region_still_tail 11 (by kernel_rfl) (by kernel_rfl) ?_
  change wpStill _ _ (w4.drewN nq).drew (fun a' => wpList _ _ _ _ a' (w4.drewN nq).drew) _ _
  have hb5 : (w4.drewN nq).drew.heap[W.heap.size]? = some (.cells (accCells (l.set f ⟨a.balance, a.nonce + 1⟩)).toArray 69 (0, 0)) := hb4
  have r0 : (w4.drewN nq).drew.cell? ⟨w.heap.size, 0, none⟩ = some (.int .i64 (f : Int)) := s0
  have r1 : (w4.drewN nq).drew.cell? ⟨w.heap.size, 1, none⟩ = some (.int .i64 (g : Int)) := s1
  have r2 : (w4.drewN nq).drew.cell? ⟨w.heap.size, 2, none⟩ = some (.int .i64 amount) := s2
  have q5 := bl_drew (bl_drewN q4 nq)
  generalize (w4.drewN nq).drew = w5 at *
  obtain ⟨k0, k1⟩ := acc_at (f := f) (a := ⟨a.balance, a.nonce + 1⟩) hb5 (by rw [List.getElem?_set_self h1])
  have z5 := frozen_of_row w5 W.heap.size (f * 2) _ 69 hb5
  simp only [List.take_succ_cons, List.take_zero, List.drop_succ_cons, List.drop_zero]
  repeat still_step
  try refine wpStill_nil ?_
  go_upto_region 10 with fail
  refine wp_region_still_tail 11 (by kernel_rfl) (by kernel_rfl) ?_
  change wpStill _ _ (w5.setCell ⟨W.heap.size, f * 2, none⟩ (.int .i64 (a.balance - amount))).drew (fun a' => wpList _ _ _ _ a' (w5.setCell ⟨W.heap.size, f * 2, none⟩ (.int .i64 (a.balance - amount))).drew) _ _
  have hb6 : (w5.setCell ⟨W.heap.size, f * 2, none⟩ (.int .i64 (a.balance - amount))).drew.heap[W.heap.size]? = _ := set_block hb5 (f * 2) (.int .i64 (a.balance - amount))
  rw [accCells_bal (a := ⟨a.balance, a.nonce + 1⟩) _ (by rw [List.getElem?_set_self h1]), List.set_set] at hb6
  have t1 : (w5.setCell ⟨W.heap.size, f * 2, none⟩ (.int .i64 (a.balance - amount))).drew.cell? ⟨w.heap.size, 1, none⟩ = some (.int .i64 (g : Int)) := cell_set (q := ⟨W.heap.size, f * 2, none⟩) r1 hne0 _
  have t2 : (w5.setCell ⟨W.heap.size, f * 2, none⟩ (.int .i64 (a.balance - amount))).drew.cell? ⟨w.heap.size, 2, none⟩ = some (.int .i64 amount) := cell_set (q := ⟨W.heap.size, f * 2, none⟩) r2 hne0 _
  have q6 := bl_drew (bl_set q5 (p := ⟨W.heap.size, f * 2, none⟩) hsz (.int .i64 (a.balance - amount)))
  generalize (w5.setCell ⟨W.heap.size, f * 2, none⟩ (.int .i64 (a.balance - amount))).drew = w6 at *
  have hgb : (l.set f ⟨a.balance - amount, a.nonce + 1⟩)[g]? = some b := by rw [List.getElem?_set_ne hfg]; exact hb
  obtain ⟨j0, j1⟩ := acc_at (f := g) (a := b) hb6 hgb
  have z6 := frozen_of_row w6 W.heap.size (g * 2) _ 69 hb6
  have h2I : (g : Int) < (l.length : Int) := by omega
  simp only [List.take_succ_cons, List.take_zero, List.drop_succ_cons, List.drop_zero]
  repeat still_step
  try refine wpStill_nil ?_
  go_wp2_with fail
  have hb7 := set_block hb6 (g * 2) (.int .i64 (wrap64 (b.balance + amount)))
  rw [accCells_bal _ hgb] at hb7
  have hw7 : IntOk (wrap64 (b.balance + amount)) := by unfold IntOk wrap64; omega
  refine bodyPost_ret (v := .tuple #[.slice (some ⟨W.heap.size, 0, none⟩) l.length l.length, .int .i64 0]) (by simp [results, Try.results10, go_sem]) rfl ⟨⟨_, rfl, ?_⟩, bl_set q6 hsz _⟩
  exact own_of_block hb7 (reps_of (accOk_set (accOk_set hok f (by unfold IntOk; simp only; omega) (by unfold IntOk; simp only; omega)) g hw7 hokb.2)) hsz (by simp) (by simp only [maxLen]; omega)
theorem apply_calls (l : List Account) (t : Tx) (A : Option Addr) (n c : Nat) (w : World) (B : Nat) (hn : n = l.length) (hl : l.length ≤ 1048576) (hr : kAccount.Row 69 B w A l) :
    Calls Try.prog 10 #[.slice A n c, .agg #[.int .i64 t.frm, .int .i64 t.to, .int .i64 t.amount, .int .i64 t.nonce, .string t.sig]] w
      fun e w' => (∃ v, e = .returned (.tuple #[v, .int .i64 (applyF l t).2]) ∧ kAccount.Own 69 w.heap.size w' w.heap.size v (applyF l t).1) ∧ Below w.heap.size w w' := by
  by_cases hz : readyF l t = 0
  · obtain ⟨f, g, a, b, e1, e2, hfg, h1, h2, ha, hb, hno, hT⟩ := readyF_zero hz
    obtain ⟨frm, to_, amount, nonce, sig⟩ := t
    simp only at e1 e2 hno
    subst e1 e2
    have hT2 := hT
    unfold TxOk at hT2
    simp only at hT2
    have hap : applyF l ⟨f, g, amount, nonce, sig⟩ = if a.balance < amount then (l.set f ⟨a.balance, a.nonce + 1⟩, 73) else ((l.set f ⟨a.balance - amount, a.nonce + 1⟩).set g ⟨wrap64 (b.balance + amount), b.nonce⟩, 0) := by
      unfold applyF
      rw [if_pos hz]
      simp only [Int.toNat_natCast, ha, hb]
    have hno2 : a.nonce ≤ 1099511627776 ∧ 0 ≤ a.nonce := by omega
    by_cases hlow : a.balance < amount
    · rw [hap, if_pos hlow]
      refine (apply_low l f g amount nonce sig a b A n c w B hn hl hr hz h1 h2 ha hb hfg hno2 (by omega) hlow).mono ?_
      rintro e w' ⟨⟨v, rfl, hv⟩, hB⟩
      obtain ⟨cs, ho, hrp⟩ := hv
      exact ⟨⟨v, rfl, cs, ho, reps_acc hrp⟩, hB⟩
    · rw [hap, if_neg hlow]
      refine (apply_high l f g amount nonce sig a b A n c w B hn hl hr hz h1 h2 ha hb hfg hno2 (by omega) (by omega)).mono ?_
      rintro e w' ⟨⟨v, rfl, hv⟩, hB⟩
      obtain ⟨cs, ho, hrp⟩ := hv
      exact ⟨⟨v, rfl, cs, ho, reps_acc hrp⟩, hB⟩
  · refine (apply_not l t A n c w B hn hl hr hz).mono ?_
    rintro e w' ⟨⟨v, rfl, hv⟩, hB⟩
    obtain ⟨cs, ho, hrp⟩ := hv
    exact ⟨⟨v, rfl, cs, ho, reps_acc hrp⟩, hB⟩
end Go.Proofs.Ytflfpfaebndefab
