/- Packages mootref06, mootref14: Tx, Accounts, Apply. No claim of its own; no condition. -/
import Derived.StillTailTactics
import Derived.Test.YtflfpfaebndefabFold
import Derived.Test.YtflfpfaebndefabFlat
namespace Go.Proofs.Ytflfpfaebndefab
open Go.ChangeShapes Go.WideShapes Go.ChangeAt Go.RowKit
set_option linter.unusedVariables false
set_option linter.unusedSimpArgs false
theorem reftx_calls (t : Tx) (w : World) :
    Calls Try.prog 37 #[.agg #[.int .i64 t.frm, .int .i64 t.to, .int .i64 t.amount, .int .i64 t.nonce, .string t.sig]] w fun e w' => e = .returned (.int .i64 (checkT t)) ∧ Below w.heap.size w w' := by
  go_enter Try.func37, Try.ntmps37
  go_wp2_with fail
  all_goals go_ret
  all_goals
    refine ⟨ret_int ?_, by repeat (first | exact Below.refl _ _ | apply bl_alloc)⟩
    try simp only [beq_iff_eq] at *
    first
      | (have e : checkT t = 9 := if_neg (by unfold TxOk; omega)
         rw [e]; done)
      | (have e : checkT t = 0 := if_pos (by unfold TxOk; omega)
         rw [e]; done)
theorem kAccount_flat : kAccount.Flat := Kd.flat_iso (Kd.flat_pair Kd.flat_int Kd.flat_int)
theorem acc_atZ {w : World} {G f : Nat} {l : List Account} {Z : List Value} {a : Account} (hb : w.heap[G]? = some (.cells (accCells l ++ Z).toArray 69 (0, 0))) (ha : l[f]? = some a) :
    w.cell? ⟨G, f * 2, none⟩ = some (.int .i64 a.balance) ∧ w.cell? ⟨G, f * 2 + 1, none⟩ = some (.int .i64 a.nonce) := by
  obtain ⟨h1, h2⟩ := accCells_get ha
  have g1 := (List.getElem?_eq_some_iff.1 h1).1
  have g2 := (List.getElem?_eq_some_iff.1 h2).1
  exact ⟨block_cell hb (by rw [List.getElem?_toArray, List.getElem?_append_left g1]; exact h1), block_cell hb (by rw [List.getElem?_toArray, List.getElem?_append_left g2]; exact h2)⟩
theorem accCells_lt {l : List Account} {f : Nat} (h : f < l.length) : f * 2 < (accCells l).length ∧ f * 2 + 1 < (accCells l).length := by
  rw [accCells_len]; omega
set_option maxHeartbeats 800000 in
set_option maxRecDepth 100000 in
theorem refapply_bad (l : List Account) (t : Tx) (A : Option Addr) (n c : Nat) (w : World) (B : Nat) (hn : n = l.length) (hl : l.length ≤ 1048576) (hr : kAccount.Row 69 B w A l) (hap : applyF l t = (l, 9)) (hz : checkT t = 9)  :
    Calls Try.prog 11 #[.slice A n c, .agg #[.int .i64 t.frm, .int .i64 t.to, .int .i64 t.amount, .int .i64 t.nonce, .string t.sig]] w fun e w' => (∃ v, e = .returned (.tuple #[v, .int .i64 (applyF l t).2]) ∧ kAccount.Own 69 w.heap.size w' w.heap.size v (applyF l t).1) ∧ Below w.heap.size w w' := by
  have HA := Lib.hid hap
  have HZ := Lib.hid hz
  clear hap hz
  subst hn
  obtain ⟨i0, hi, hz0, hz1, hz2⟩ := info_parts info66
  have q0 := bl_alloc (Below.refl w.heap.size w) (.cells #[.int .i64 t.frm, .int .i64 t.to, .int .i64 t.amount, .int .i64 t.nonce, .string t.sig] 24)
  have b0 := alloc_new w (.cells #[.int .i64 t.frm, .int .i64 t.to, .int .i64 t.amount, .int .i64 t.nonce, .string t.sig] 24)
  generalize hW : w.alloc (.cells #[.int .i64 t.frm, .int .i64 t.to, .int .i64 t.amount, .int .i64 t.nonce, .string t.sig] 24) = W at *
  have HW := Lib.hid hW
  clear hW
  have hsz := q0.size
  have hw0 : w.heap.size < W.heap.size := blk_lt b0
  have qe := bl_alloc (Below.refl W.heap.size W) (.cells #[] 69)
  have rowe := Kd.row_below qe (Kd.row_flat kAccount_flat (Kd.row_below q0 hr) (Nat.le_refl _))
  go_enter Try.func11, Try.ntmps11
  go_upto_region 1 with fail
  rw [HW.out]
  go_wp2_with (first
    | (at_builtin; refine wpList_append_row _ rfl (.tmp 7) (.tmp 8) 22 rfl kAccount W.heap.size W.heap.size 69 i0 _ 16 Try.underlying22 hi hz0 hz1 hz2 rfl (by decide) _ [] rfl (Kd.own_empty (Nat.le_refl _)) A c l.length l rfl rfl rowe (by simp only [List.length_nil]; omega) (by decide) qe.size (Nat.le_refl _) (by decide) ?_; intro v1 w1 own1 grw1 at1; have b1 := Kd.own_step qe (Kd.own_empty (d := kAccount) (e := 69) (B := W.heap.size) (Nat.le_refl _)) grw1; have c0 := cell_below b1 (block_cell b0 (i := 0) rfl); have c1 := cell_below b1 (block_cell b0 (i := 1) rfl); have c2 := cell_below b1 (block_cell b0 (i := 2) rfl); have c3 := cell_below b1 (block_cell b0 (i := 3) rfl); have c4 := cell_below b1 (block_cell b0 (i := 4) rfl); simp only [List.nil_append] at own1)
    | (go_at_call 37; refine (reftx_calls t _).mono ?_; rw [HZ.out]; rintro e w2 ⟨rfl, b2⟩; have b12 := bl_trans b1 b2; have d0 := cell_below b2 c0; have d1 := cell_below b2 c1; have d2 := cell_below b2 c2; have d3 := cell_below b2 c3))
  refine bodyPost_ret (v := .tuple #[v1, .int .i64 9]) (by simp [results, Try.results11, go_sem]) rfl ⟨⟨v1, by rw [HA.out], ?_⟩, bl_trans q0 b12⟩
  rw [HA.out]
  exact Kd.own_below (Kd.own_flat kAccount_flat own1 hsz) b2
set_option maxHeartbeats 800000 in
set_option maxRecDepth 100000 in
theorem refapply_from (l : List Account) (f g : Nat) (amount nonce : Int) (sig : ByteArray) (A : Option Addr) (n c : Nat) (w : World) (B : Nat) (hn : n = l.length) (hl : l.length ≤ 1048576) (hr : kAccount.Row 69 B w A l) (hap : applyF l ⟨f, g, amount, nonce, sig⟩ = (l, 9)) (hz : checkT ⟨f, g, amount, nonce, sig⟩ = 0) (h1 : l.length ≤ f) :
    Calls Try.prog 11 #[.slice A n c, .agg #[.int .i64 (f : Int), .int .i64 (g : Int), .int .i64 amount, .int .i64 nonce, .string sig]] w fun e w' => (∃ v, e = .returned (.tuple #[v, .int .i64 (applyF l ⟨f, g, amount, nonce, sig⟩).2]) ∧ kAccount.Own 69 w.heap.size w' w.heap.size v (applyF l ⟨f, g, amount, nonce, sig⟩).1) ∧ Below w.heap.size w w' := by
  have HA := Lib.hid hap
  have HZ := Lib.hid hz
  clear hap hz
  subst hn
  obtain ⟨i0, hi, hz0, hz1, hz2⟩ := info_parts info66
  have q0 := bl_alloc (Below.refl w.heap.size w) (.cells #[.int .i64 (f : Int), .int .i64 (g : Int), .int .i64 amount, .int .i64 nonce, .string sig] 24)
  have b0 := alloc_new w (.cells #[.int .i64 (f : Int), .int .i64 (g : Int), .int .i64 amount, .int .i64 nonce, .string sig] 24)
  generalize hW : w.alloc (.cells #[.int .i64 (f : Int), .int .i64 (g : Int), .int .i64 amount, .int .i64 nonce, .string sig] 24) = W at *
  have HW := Lib.hid hW
  clear hW
  have hsz := q0.size
  have hw0 : w.heap.size < W.heap.size := blk_lt b0
  have qe := bl_alloc (Below.refl W.heap.size W) (.cells #[] 69)
  have rowe := Kd.row_below qe (Kd.row_flat kAccount_flat (Kd.row_below q0 hr) (Nat.le_refl _))
  have h1d : decide (l.length ≤ f) = true := by simpa using h1
  go_enter Try.func11, Try.ntmps11
  go_upto_region 1 with fail
  rw [HW.out]
  go_wp2_with (first
    | (at_builtin; refine wpList_append_row _ rfl (.tmp 7) (.tmp 8) 22 rfl kAccount W.heap.size W.heap.size 69 i0 _ 16 Try.underlying22 hi hz0 hz1 hz2 rfl (by decide) _ [] rfl (Kd.own_empty (Nat.le_refl _)) A c l.length l rfl rfl rowe (by simp only [List.length_nil]; omega) (by decide) qe.size (Nat.le_refl _) (by decide) ?_; intro v1 w1 own1 grw1 at1; have b1 := Kd.own_step qe (Kd.own_empty (d := kAccount) (e := 69) (B := W.heap.size) (Nat.le_refl _)) grw1; have c0 := cell_below b1 (block_cell b0 (i := 0) rfl); have c1 := cell_below b1 (block_cell b0 (i := 1) rfl); have c2 := cell_below b1 (block_cell b0 (i := 2) rfl); have c3 := cell_below b1 (block_cell b0 (i := 3) rfl); have c4 := cell_below b1 (block_cell b0 (i := 4) rfl); simp only [List.nil_append] at own1)
    | (go_at_call 37; refine (reftx_calls ⟨f, g, amount, nonce, sig⟩ _).mono ?_; rw [HZ.out]; rintro e w2 ⟨rfl, b2⟩; have b12 := bl_trans b1 b2; have d0 := cell_below b2 c0; have d1 := cell_below b2 c1; have d2 := cell_below b2 c2; have d3 := cell_below b2 c3))
  refine bodyPost_ret (v := .tuple #[v1, .int .i64 9]) (by simp [results, Try.results11, go_sem]) rfl ⟨⟨v1, by rw [HA.out], ?_⟩, bl_trans q0 b12⟩
  rw [HA.out]
  exact Kd.own_below (Kd.own_flat kAccount_flat own1 hsz) b2
set_option maxHeartbeats 800000 in
set_option maxRecDepth 100000 in
theorem refapply_to (l : List Account) (f g : Nat) (amount nonce : Int) (sig : ByteArray) (A : Option Addr) (n c : Nat) (w : World) (B : Nat) (hn : n = l.length) (hl : l.length ≤ 1048576) (hr : kAccount.Row 69 B w A l) (hap : applyF l ⟨f, g, amount, nonce, sig⟩ = (l, 9)) (hz : checkT ⟨f, g, amount, nonce, sig⟩ = 0) (h1 : f < l.length) (h2 : l.length ≤ g) :
    Calls Try.prog 11 #[.slice A n c, .agg #[.int .i64 (f : Int), .int .i64 (g : Int), .int .i64 amount, .int .i64 nonce, .string sig]] w fun e w' => (∃ v, e = .returned (.tuple #[v, .int .i64 (applyF l ⟨f, g, amount, nonce, sig⟩).2]) ∧ kAccount.Own 69 w.heap.size w' w.heap.size v (applyF l ⟨f, g, amount, nonce, sig⟩).1) ∧ Below w.heap.size w w' := by
  have HA := Lib.hid hap
  have HZ := Lib.hid hz
  clear hap hz
  subst hn
  obtain ⟨i0, hi, hz0, hz1, hz2⟩ := info_parts info66
  have q0 := bl_alloc (Below.refl w.heap.size w) (.cells #[.int .i64 (f : Int), .int .i64 (g : Int), .int .i64 amount, .int .i64 nonce, .string sig] 24)
  have b0 := alloc_new w (.cells #[.int .i64 (f : Int), .int .i64 (g : Int), .int .i64 amount, .int .i64 nonce, .string sig] 24)
  generalize hW : w.alloc (.cells #[.int .i64 (f : Int), .int .i64 (g : Int), .int .i64 amount, .int .i64 nonce, .string sig] 24) = W at *
  have HW := Lib.hid hW
  clear hW
  have hsz := q0.size
  have hw0 : w.heap.size < W.heap.size := blk_lt b0
  have qe := bl_alloc (Below.refl W.heap.size W) (.cells #[] 69)
  have rowe := Kd.row_below qe (Kd.row_flat kAccount_flat (Kd.row_below q0 hr) (Nat.le_refl _))
  have h1d : decide (l.length ≤ f) = false := by simpa using h1
  have h2d : decide (l.length ≤ g) = true := by simpa using h2
  go_enter Try.func11, Try.ntmps11
  go_upto_region 1 with fail
  rw [HW.out]
  go_wp2_with (first
    | (at_builtin; refine wpList_append_row _ rfl (.tmp 7) (.tmp 8) 22 rfl kAccount W.heap.size W.heap.size 69 i0 _ 16 Try.underlying22 hi hz0 hz1 hz2 rfl (by decide) _ [] rfl (Kd.own_empty (Nat.le_refl _)) A c l.length l rfl rfl rowe (by simp only [List.length_nil]; omega) (by decide) qe.size (Nat.le_refl _) (by decide) ?_; intro v1 w1 own1 grw1 at1; have b1 := Kd.own_step qe (Kd.own_empty (d := kAccount) (e := 69) (B := W.heap.size) (Nat.le_refl _)) grw1; have c0 := cell_below b1 (block_cell b0 (i := 0) rfl); have c1 := cell_below b1 (block_cell b0 (i := 1) rfl); have c2 := cell_below b1 (block_cell b0 (i := 2) rfl); have c3 := cell_below b1 (block_cell b0 (i := 3) rfl); have c4 := cell_below b1 (block_cell b0 (i := 4) rfl); simp only [List.nil_append] at own1)
    | (go_at_call 37; refine (reftx_calls ⟨f, g, amount, nonce, sig⟩ _).mono ?_; rw [HZ.out]; rintro e w2 ⟨rfl, b2⟩; have b12 := bl_trans b1 b2; have d0 := cell_below b2 c0; have d1 := cell_below b2 c1; have d2 := cell_below b2 c2; have d3 := cell_below b2 c3))
  refine bodyPost_ret (v := .tuple #[v1, .int .i64 9]) (by simp [results, Try.results11, go_sem]) rfl ⟨⟨v1, by rw [HA.out], ?_⟩, bl_trans q0 b12⟩
  rw [HA.out]
  exact Kd.own_below (Kd.own_flat kAccount_flat own1 hsz) b2
set_option maxHeartbeats 800000 in
set_option maxRecDepth 100000 in
theorem refapply_nonce (l : List Account) (f g : Nat) (amount nonce : Int) (sig : ByteArray) (A : Option Addr) (n c : Nat) (w : World) (B : Nat) (hn : n = l.length) (hl : l.length ≤ 1048576) (hr : kAccount.Row 69 B w A l) (hap : applyF l ⟨f, g, amount, nonce, sig⟩ = (l, 72)) (hz : checkT ⟨f, g, amount, nonce, sig⟩ = 0) (a : Account) (h1 : f < l.length) (h2 : g < l.length) (ha : l[f]? = some a) (hd : (nonce != a.nonce) = true) :
    Calls Try.prog 11 #[.slice A n c, .agg #[.int .i64 (f : Int), .int .i64 (g : Int), .int .i64 amount, .int .i64 nonce, .string sig]] w fun e w' => (∃ v, e = .returned (.tuple #[v, .int .i64 (applyF l ⟨f, g, amount, nonce, sig⟩).2]) ∧ kAccount.Own 69 w.heap.size w' w.heap.size v (applyF l ⟨f, g, amount, nonce, sig⟩).1) ∧ Below w.heap.size w w' := by
  have HA := Lib.hid hap
  have HZ := Lib.hid hz
  clear hap hz
  subst hn
  obtain ⟨i0, hi, hz0, hz1, hz2⟩ := info_parts info66
  have q0 := bl_alloc (Below.refl w.heap.size w) (.cells #[.int .i64 (f : Int), .int .i64 (g : Int), .int .i64 amount, .int .i64 nonce, .string sig] 24)
  have b0 := alloc_new w (.cells #[.int .i64 (f : Int), .int .i64 (g : Int), .int .i64 amount, .int .i64 nonce, .string sig] 24)
  generalize hW : w.alloc (.cells #[.int .i64 (f : Int), .int .i64 (g : Int), .int .i64 amount, .int .i64 nonce, .string sig] 24) = W at *
  have HW := Lib.hid hW
  clear hW
  have hsz := q0.size
  have hw0 : w.heap.size < W.heap.size := blk_lt b0
  have qe := bl_alloc (Below.refl W.heap.size W) (.cells #[] 69)
  have rowe := Kd.row_below qe (Kd.row_flat kAccount_flat (Kd.row_below q0 hr) (Nat.le_refl _))
  have h1d : decide (l.length ≤ f) = false := by simpa using h1
  have h2d : decide (l.length ≤ g) = false := by simpa using h2
  have h1I : (f : Int) < (l.length : Int) := by omega
  have h2I : (g : Int) < (l.length : Int) := by omega
  obtain ⟨ad, rfl, e0, e1, _⟩ := kAccount_at (Kd.row_below q0 hr) ha
  have hadlt := World.block_lt_of_cell? _ _ e0
  clear ha
  go_enter Try.func11, Try.ntmps11
  go_upto_region 1 with fail
  rw [HW.out]
  go_wp2_with (first
    | (at_builtin; refine wpList_append_row _ rfl (.tmp 7) (.tmp 8) 22 rfl kAccount W.heap.size W.heap.size 69 i0 _ 16 Try.underlying22 hi hz0 hz1 hz2 rfl (by decide) _ [] rfl (Kd.own_empty (Nat.le_refl _)) (some ad) c l.length l rfl rfl rowe (by simp only [List.length_nil]; omega) (by decide) qe.size (Nat.le_refl _) (by decide) ?_; intro v1 w1 own1 grw1 at1; have b1 := Kd.own_step qe (Kd.own_empty (d := kAccount) (e := 69) (B := W.heap.size) (Nat.le_refl _)) grw1; have c0 := cell_below b1 (block_cell b0 (i := 0) rfl); have c1 := cell_below b1 (block_cell b0 (i := 1) rfl); have c2 := cell_below b1 (block_cell b0 (i := 2) rfl); have c3 := cell_below b1 (block_cell b0 (i := 3) rfl); have c4 := cell_below b1 (block_cell b0 (i := 4) rfl); simp only [List.nil_append] at own1)
    | (go_at_call 37; refine (reftx_calls ⟨f, g, amount, nonce, sig⟩ _).mono ?_; rw [HZ.out]; rintro e w2 ⟨rfl, b2⟩; have b12 := bl_trans b1 b2; have d0 := cell_below b2 c0; have d1 := cell_below b2 c1; have d2 := cell_below b2 c2; have d3 := cell_below b2 c3; have f0 := cell_below b12 e0; have f1 := cell_below b12 e1))
  go_quiet (fail)
  go_wp2_with fail
  refine bodyPost_ret (v := .tuple #[v1, .int .i64 72]) (by simp [results, Try.results11, go_sem]) rfl ⟨⟨v1, by rw [HA.out], ?_⟩, bl_drewN (bl_trans q0 b12) _⟩
  rw [HA.out]
  exact Kd.own_below (Kd.own_flat kAccount_flat own1 hsz) (bl_drewN b2 _)
set_option maxHeartbeats 1600000 in
set_option maxRecDepth 100000 in
theorem refapply_low (l : List Account) (f g : Nat) (amount nonce : Int) (sig : ByteArray) (a b : Account) (A : Option Addr) (n c : Nat) (w : World) (B : Nat) (hn : n = l.length) (hl : l.length ≤ 1048576) (hr : kAccount.Row 69 B w A l) (hz : checkT ⟨f, g, amount, nonce, sig⟩ = 0) (h1 : f < l.length) (h2 : g < l.length) (ha : l[f]? = some a) (hb : l[g]? = some b) (hfg : f ≠ g) (hd : (nonce != a.nonce) = false) (hnon : a.nonce ≤ 1099511627776 ∧ 0 ≤ a.nonce) (ham : 1 ≤ amount ∧ amount ≤ 1000) (hlow : a.balance < amount) :
    Calls Try.prog 11 #[.slice A n c, .agg #[.int .i64 (f : Int), .int .i64 (g : Int), .int .i64 amount, .int .i64 nonce, .string sig]] w
      fun e w' => (∃ v, e = .returned (.tuple #[v, .int .i64 73]) ∧ kAccount.Own 69 w.heap.size w' w.heap.size v (l.set f ⟨a.balance, a.nonce + 1⟩)) ∧ Below w.heap.size w w' := by
  have HZ := Lib.hid hz
  clear hz
  have hne : l ≠ [] := by rintro rfl; simp at h1
  have sm : IntKind.i64.wrap (a.nonce + 1) = a.nonce + 1 := IntWalk.i64_in _ (by omega)
  subst hn
  obtain ⟨i0, hi, hz0, hz1, hz2⟩ := info_parts info66
  have q0 := bl_alloc (Below.refl w.heap.size w) (.cells #[.int .i64 (f : Int), .int .i64 (g : Int), .int .i64 amount, .int .i64 nonce, .string sig] 24)
  have b0 := alloc_new w (.cells #[.int .i64 (f : Int), .int .i64 (g : Int), .int .i64 amount, .int .i64 nonce, .string sig] 24)
  generalize hW : w.alloc (.cells #[.int .i64 (f : Int), .int .i64 (g : Int), .int .i64 amount, .int .i64 nonce, .string sig] 24) = W at *
  have HW := Lib.hid hW
  clear hW
  have hsz := q0.size
  have hw0 : w.heap.size < W.heap.size := blk_lt b0
  have qe := bl_alloc (Below.refl W.heap.size W) (.cells #[] 69)
  have rowe := Kd.row_below qe (Kd.row_flat kAccount_flat (Kd.row_below q0 hr) (Nat.le_refl _))
  have h1d : decide (l.length ≤ f) = false := by simpa using h1
  have h2d : decide (l.length ≤ g) = false := by simpa using h2
  have h1I : (f : Int) < (l.length : Int) := by omega
  have h2I : (g : Int) < (l.length : Int) := by omega
  obtain ⟨ad, rfl, e0, e1, _⟩ := kAccount_at (Kd.row_below q0 hr) ha
  have hadlt := World.block_lt_of_cell? _ _ e0
  have hokl : IntOk a.balance ∧ IntOk a.nonce := by
    obtain ⟨_, _, _, _, h⟩ := kAccount_at hr ha
    exact h
  have haI := hokl.1
  unfold IntOk at haI
  have HN := Lib.hid hne
  clear hne
  go_enter Try.func11, Try.ntmps11
  go_upto_region 1 with fail
  rw [HW.out]
  go_wp2_with (first
    | (at_builtin; refine wpList_append_row _ rfl (.tmp 7) (.tmp 8) 22 rfl kAccount W.heap.size W.heap.size 69 i0 _ 16 Try.underlying22 hi hz0 hz1 hz2 rfl (by decide) _ [] rfl (Kd.own_empty (Nat.le_refl _)) (some ad) c l.length l rfl rfl rowe (by simp only [List.length_nil]; omega) (by decide) qe.size (Nat.le_refl _) (by decide) ?_; intro v1 w1 own1 grw1 at1; have b1 := Kd.own_step qe (Kd.own_empty (d := kAccount) (e := 69) (B := W.heap.size) (Nat.le_refl _)) grw1; have c0 := cell_below b1 (block_cell b0 (i := 0) rfl); have c1 := cell_below b1 (block_cell b0 (i := 1) rfl); have c2 := cell_below b1 (block_cell b0 (i := 2) rfl); have c3 := cell_below b1 (block_cell b0 (i := 3) rfl); have c4 := cell_below b1 (block_cell b0 (i := 4) rfl); simp only [List.nil_append] at own1; obtain ⟨G, c1', cs, Z, rfl, hG, hb1, hrp, hc1, hm1, hsz1⟩ := Kd.own_form own1 HN.out; obtain rfl := reps_cells hrp; have hok := reps_ok hrp)
    | (go_at_call 37; refine (reftx_calls ⟨f, g, amount, nonce, sig⟩ _).mono ?_; rw [HZ.out]; rintro e w2 ⟨rfl, b2⟩; have b12 := bl_trans b1 b2; have d0 := cell_below b2 c0; have d1 := cell_below b2 c1; have d2 := cell_below b2 c2; have d3 := cell_below b2 c3; have f0 := cell_below b12 e0; have f1 := cell_below b12 e1; have hb2 := block_below b2 hb1))
  go_quiet (fail)
  go_wp2_with fail
  clear rowe own1 hi hz0 hz1 hz2 i0 c0 c1 c2 c3 c4 d3 e0 e1 hrp hb1 b0
  refine wp_region_still_tail 12 (by kernel_rfl) (by kernel_rfl) ?_
  change wpStill _ _ (w2.drewN nq).drew (fun a' => wpList _ _ _ _ a' (w2.drewN nq).drew) _ _
  have hb3 : (w2.drewN nq).drew.heap[G]? = some (.cells (accCells l ++ Z).toArray 69 (0, 0)) := hb2
  have r0 : (w2.drewN nq).drew.cell? ⟨w.heap.size, 0, none⟩ = some (.int .i64 (f : Int)) := d0
  have r1 : (w2.drewN nq).drew.cell? ⟨w.heap.size, 1, none⟩ = some (.int .i64 (g : Int)) := d1
  have r2 : (w2.drewN nq).drew.cell? ⟨w.heap.size, 2, none⟩ = some (.int .i64 amount) := d2
  have r4 : (w2.drewN nq).drew.cell? (ad.add (f * 2)) = some (.int .i64 a.balance) := f0
  have b3 : Below W.heap.size W (w2.drewN nq).drew := bl_drew (bl_drewN b12 nq)
  generalize (w2.drewN nq).drew = w3 at *
  clear d0 d1 d2 f0 f1 hb2 b12 b2
  obtain ⟨n0, n1⟩ := acc_atZ hb3 ha
  have z3 := frozen_of_row w3 G (f * 2 + 1) _ 69 hb3
  simp only [List.take_succ_cons, List.take_zero, List.drop_succ_cons, List.drop_zero]
  repeat still_step
  try refine wpStill_nil ?_
  go_upto_region 7 with fail
  have hne0 : w.heap.size ≠ G := by omega
  have hne1 : (ad.add (f * 2)).block ≠ G := by omega
  have hb4 := set_blockZ hb3 (f * 2 + 1) (accCells_lt h1).2 (.int .i64 (a.nonce + 1))
  rw [accCells_non _ ha] at hb4
  have s0 := cell_set (q := ⟨G, f * 2 + 1, none⟩) r0 hne0 (.int .i64 (a.nonce + 1))
  have s1 := cell_set (q := ⟨G, f * 2 + 1, none⟩) r1 hne0 (.int .i64 (a.nonce + 1))
  have s2 := cell_set (q := ⟨G, f * 2 + 1, none⟩) r2 hne0 (.int .i64 (a.nonce + 1))
  have s4 := cell_set (q := ⟨G, f * 2 + 1, none⟩) r4 hne1 (.int .i64 (a.nonce + 1))
  have b4 := bl_set b3 (p := ⟨G, f * 2 + 1, none⟩) hG (.int .i64 (a.nonce + 1))
  have hl4 : ∀ l' : List Account, l'.length = l.length → (accCells l' ++ Z).length = c1' * 2 := by
    intro l' h
    have e : (accCells l ++ Z).length = c1' * 2 := hsz1
    rw [← e]
    simp [accCells_len, h]
  generalize w3.setCell ⟨G, f * 2 + 1, none⟩ (.int .i64 (a.nonce + 1)) = w4 at *
  clear r0 r1 r2 r4 n0 n1 z3 hb3 b3
  go_wp2_with fail
  go_quiet (fail)
  go_wp2_with fail
  refine bodyPost_ret (v := .tuple #[.slice (some ⟨G, 0, none⟩) l.length c1', .int .i64 73]) (by simp [results, Try.results11, go_sem]) rfl ⟨⟨_, rfl, ?_⟩, bl_drewN (bl_trans q0 b4) _⟩
  exact Kd.own_of_form (B := w.heap.size) hb4 (reps_of (accOk_set hok f hokl.1 (by unfold IntOk; simp only; omega))) (by omega) (by simp) hc1 hm1 (hl4 _ (by simp))
set_option maxHeartbeats 1600000 in
set_option maxRecDepth 100000 in
theorem refapply_high (l : List Account) (f g : Nat) (amount nonce : Int) (sig : ByteArray) (a b : Account) (A : Option Addr) (n c : Nat) (w : World) (B : Nat) (hn : n = l.length) (hl : l.length ≤ 1048576) (hr : kAccount.Row 69 B w A l) (hz : checkT ⟨f, g, amount, nonce, sig⟩ = 0) (h1 : f < l.length) (h2 : g < l.length) (ha : l[f]? = some a) (hb : l[g]? = some b) (hfg : f ≠ g) (hd : (nonce != a.nonce) = false) (hnon : a.nonce ≤ 1099511627776 ∧ 0 ≤ a.nonce) (ham : 1 ≤ amount ∧ amount ≤ 1000) (hlow : amount ≤ a.balance) :
    Calls Try.prog 11 #[.slice A n c, .agg #[.int .i64 (f : Int), .int .i64 (g : Int), .int .i64 amount, .int .i64 nonce, .string sig]] w
      fun e w' => (∃ v, e = .returned (.tuple #[v, .int .i64 0]) ∧ kAccount.Own 69 w.heap.size w' w.heap.size v ((l.set f ⟨a.balance - amount, a.nonce + 1⟩).set g ⟨wrap64 (b.balance + amount), b.nonce⟩)) ∧ Below w.heap.size w w' := by
  have HZ := Lib.hid hz
  clear hz
  have hne : l ≠ [] := by rintro rfl; simp at h1
  have sm : IntKind.i64.wrap (a.nonce + 1) = a.nonce + 1 := IntWalk.i64_in _ (by omega)
  subst hn
  obtain ⟨i0, hi, hz0, hz1, hz2⟩ := info_parts info66
  have q0 := bl_alloc (Below.refl w.heap.size w) (.cells #[.int .i64 (f : Int), .int .i64 (g : Int), .int .i64 amount, .int .i64 nonce, .string sig] 24)
  have b0 := alloc_new w (.cells #[.int .i64 (f : Int), .int .i64 (g : Int), .int .i64 amount, .int .i64 nonce, .string sig] 24)
  generalize hW : w.alloc (.cells #[.int .i64 (f : Int), .int .i64 (g : Int), .int .i64 amount, .int .i64 nonce, .string sig] 24) = W at *
  have HW := Lib.hid hW
  clear hW
  have hsz := q0.size
  have hw0 : w.heap.size < W.heap.size := blk_lt b0
  have qe := bl_alloc (Below.refl W.heap.size W) (.cells #[] 69)
  have rowe := Kd.row_below qe (Kd.row_flat kAccount_flat (Kd.row_below q0 hr) (Nat.le_refl _))
  have h1d : decide (l.length ≤ f) = false := by simpa using h1
  have h2d : decide (l.length ≤ g) = false := by simpa using h2
  have h1I : (f : Int) < (l.length : Int) := by omega
  have h2I : (g : Int) < (l.length : Int) := by omega
  obtain ⟨ad, rfl, e0, e1, _⟩ := kAccount_at (Kd.row_below q0 hr) ha
  have hadlt := World.block_lt_of_cell? _ _ e0
  have hokl : IntOk a.balance ∧ IntOk a.nonce := by
    obtain ⟨_, _, _, _, h⟩ := kAccount_at hr ha
    exact h
  have haI := hokl.1
  unfold IntOk at haI
  have HN := Lib.hid hne
  clear hne
  go_enter Try.func11, Try.ntmps11
  go_upto_region 1 with fail
  rw [HW.out]
  go_wp2_with (first
    | (at_builtin; refine wpList_append_row _ rfl (.tmp 7) (.tmp 8) 22 rfl kAccount W.heap.size W.heap.size 69 i0 _ 16 Try.underlying22 hi hz0 hz1 hz2 rfl (by decide) _ [] rfl (Kd.own_empty (Nat.le_refl _)) (some ad) c l.length l rfl rfl rowe (by simp only [List.length_nil]; omega) (by decide) qe.size (Nat.le_refl _) (by decide) ?_; intro v1 w1 own1 grw1 at1; have b1 := Kd.own_step qe (Kd.own_empty (d := kAccount) (e := 69) (B := W.heap.size) (Nat.le_refl _)) grw1; have c0 := cell_below b1 (block_cell b0 (i := 0) rfl); have c1 := cell_below b1 (block_cell b0 (i := 1) rfl); have c2 := cell_below b1 (block_cell b0 (i := 2) rfl); have c3 := cell_below b1 (block_cell b0 (i := 3) rfl); have c4 := cell_below b1 (block_cell b0 (i := 4) rfl); simp only [List.nil_append] at own1; obtain ⟨G, c1', cs, Z, rfl, hG, hb1, hrp, hc1, hm1, hsz1⟩ := Kd.own_form own1 HN.out; obtain rfl := reps_cells hrp; have hok := reps_ok hrp)
    | (go_at_call 37; refine (reftx_calls ⟨f, g, amount, nonce, sig⟩ _).mono ?_; rw [HZ.out]; rintro e w2 ⟨rfl, b2⟩; have b12 := bl_trans b1 b2; have d0 := cell_below b2 c0; have d1 := cell_below b2 c1; have d2 := cell_below b2 c2; have d3 := cell_below b2 c3; have f0 := cell_below b12 e0; have f1 := cell_below b12 e1; have hb2 := block_below b2 hb1))
  go_quiet (fail)
  go_wp2_with fail
  clear rowe own1 hi hz0 hz1 hz2 i0 c0 c1 c2 c3 c4 d3 e0 e1 hrp hb1 b0
  refine wp_region_still_tail 12 (by kernel_rfl) (by kernel_rfl) ?_
  change wpStill _ _ (w2.drewN nq).drew (fun a' => wpList _ _ _ _ a' (w2.drewN nq).drew) _ _
  have hb3 : (w2.drewN nq).drew.heap[G]? = some (.cells (accCells l ++ Z).toArray 69 (0, 0)) := hb2
  have r0 : (w2.drewN nq).drew.cell? ⟨w.heap.size, 0, none⟩ = some (.int .i64 (f : Int)) := d0
  have r1 : (w2.drewN nq).drew.cell? ⟨w.heap.size, 1, none⟩ = some (.int .i64 (g : Int)) := d1
  have r2 : (w2.drewN nq).drew.cell? ⟨w.heap.size, 2, none⟩ = some (.int .i64 amount) := d2
  have r4 : (w2.drewN nq).drew.cell? (ad.add (f * 2)) = some (.int .i64 a.balance) := f0
  have b3 : Below W.heap.size W (w2.drewN nq).drew := bl_drew (bl_drewN b12 nq)
  generalize (w2.drewN nq).drew = w3 at *
  clear d0 d1 d2 f0 f1 hb2 b12 b2
  obtain ⟨n0, n1⟩ := acc_atZ hb3 ha
  have z3 := frozen_of_row w3 G (f * 2 + 1) _ 69 hb3
  simp only [List.take_succ_cons, List.take_zero, List.drop_succ_cons, List.drop_zero]
  repeat still_step
  try refine wpStill_nil ?_
  go_upto_region 7 with fail
  have hne0 : w.heap.size ≠ G := by omega
  have hne1 : (ad.add (f * 2)).block ≠ G := by omega
  have hb4 := set_blockZ hb3 (f * 2 + 1) (accCells_lt h1).2 (.int .i64 (a.nonce + 1))
  rw [accCells_non _ ha] at hb4
  have s0 := cell_set (q := ⟨G, f * 2 + 1, none⟩) r0 hne0 (.int .i64 (a.nonce + 1))
  have s1 := cell_set (q := ⟨G, f * 2 + 1, none⟩) r1 hne0 (.int .i64 (a.nonce + 1))
  have s2 := cell_set (q := ⟨G, f * 2 + 1, none⟩) r2 hne0 (.int .i64 (a.nonce + 1))
  have s4 := cell_set (q := ⟨G, f * 2 + 1, none⟩) r4 hne1 (.int .i64 (a.nonce + 1))
  have b4 := bl_set b3 (p := ⟨G, f * 2 + 1, none⟩) hG (.int .i64 (a.nonce + 1))
  have hl4 : ∀ l' : List Account, l'.length = l.length → (accCells l' ++ Z).length = c1' * 2 := by
    intro l' h
    have e : (accCells l ++ Z).length = c1' * 2 := hsz1
    rw [← e]
    simp [accCells_len, h]
  generalize w3.setCell ⟨G, f * 2 + 1, none⟩ (.int .i64 (a.nonce + 1)) = w4 at *
  clear r0 r1 r2 r4 n0 n1 z3 hb3 b3
  go_wp2_with fail
  go_quiet (fail)
  go_wp2_with fail
  have hokb := hok b (List.mem_of_getElem? hb)
  refine wp_region_still_tail 14 (by kernel_rfl) (by kernel_rfl) ?_
  change wpStill _ _ (w4.drewN nq).drew (fun a' => wpList _ _ _ _ a' (w4.drewN nq).drew) _ _
  have hb5 : (w4.drewN nq).drew.heap[G]? = some (.cells (accCells (l.set f ⟨a.balance, a.nonce + 1⟩) ++ Z).toArray 69 (0, 0)) := hb4
  have r0 : (w4.drewN nq).drew.cell? ⟨w.heap.size, 0, none⟩ = some (.int .i64 (f : Int)) := s0
  have r1 : (w4.drewN nq).drew.cell? ⟨w.heap.size, 1, none⟩ = some (.int .i64 (g : Int)) := s1
  have r2 : (w4.drewN nq).drew.cell? ⟨w.heap.size, 2, none⟩ = some (.int .i64 amount) := s2
  have b5 : Below W.heap.size W (w4.drewN nq).drew := bl_drew (bl_drewN b4 nq)
  generalize (w4.drewN nq).drew = w5 at *
  clear s0 s1 s2 s4 hb4 b4
  have hlf : (l.set f (⟨a.balance, a.nonce + 1⟩ : Account))[f]? = some ⟨a.balance, a.nonce + 1⟩ := by rw [List.getElem?_set_self h1]
  obtain ⟨k0, k1⟩ := acc_atZ hb5 hlf
  have HLF := Lib.hid hlf
  clear hlf
  have z5 := frozen_of_row w5 G (f * 2) _ 69 hb5
  simp only [List.take_succ_cons, List.take_zero, List.drop_succ_cons, List.drop_zero]
  repeat still_step
  try refine wpStill_nil ?_
  go_upto_region 10 with fail
  have hb6 := set_blockZ hb5 (f * 2) (accCells_lt (by simpa using h1)).1 (.int .i64 (a.balance - amount))
  rw [accCells_bal _ HLF.out, List.set_set] at hb6
  have t1 := cell_set (q := ⟨G, f * 2, none⟩) r1 hne0 (.int .i64 (a.balance - amount))
  have t2 := cell_set (q := ⟨G, f * 2, none⟩) r2 hne0 (.int .i64 (a.balance - amount))
  have b6 := bl_set b5 (p := ⟨G, f * 2, none⟩) hG (.int .i64 (a.balance - amount))
  generalize w5.setCell ⟨G, f * 2, none⟩ (.int .i64 (a.balance - amount)) = w6 at *
  clear r0 r1 r2 k0 k1 z5 hb5 b5
  go_wp2_with fail
  refine wp_region_still_tail 14 (by kernel_rfl) (by kernel_rfl) ?_
  change wpStill _ _ w6.drew (fun a' => wpList _ _ _ _ a' w6.drew) _ _
  have hb7 : w6.drew.heap[G]? = some (.cells (accCells (l.set f ⟨a.balance - amount, a.nonce + 1⟩) ++ Z).toArray 69 (0, 0)) := hb6
  have r1 : w6.drew.cell? ⟨w.heap.size, 1, none⟩ = some (.int .i64 (g : Int)) := t1
  have r2 : w6.drew.cell? ⟨w.heap.size, 2, none⟩ = some (.int .i64 amount) := t2
  have b7 : Below W.heap.size W w6.drew := bl_drew b6
  generalize w6.drew = w7 at *
  clear t1 t2 hb6 b6
  have hgb : (l.set f (⟨a.balance - amount, a.nonce + 1⟩ : Account))[g]? = some b := by rw [List.getElem?_set_ne hfg]; exact hb
  obtain ⟨j0, j1⟩ := acc_atZ hb7 hgb
  have HGB := Lib.hid hgb
  clear hgb
  have z7 := frozen_of_row w7 G (g * 2) _ 69 hb7
  simp only [List.take_succ_cons, List.take_zero, List.drop_succ_cons, List.drop_zero]
  repeat still_step
  try refine wpStill_nil ?_
  go_wp2_with fail
  have hb8 := set_blockZ hb7 (g * 2) (accCells_lt (by simpa using h2)).1 (.int .i64 (wrap64 (b.balance + amount)))
  rw [accCells_bal _ HGB.out] at hb8
  have hw8 : IntOk (wrap64 (b.balance + amount)) := by unfold IntOk wrap64; omega
  refine bodyPost_ret (v := .tuple #[.slice (some ⟨G, 0, none⟩) l.length c1', .int .i64 0]) (by simp [results, Try.results11, go_sem]) rfl ⟨⟨_, rfl, ?_⟩, bl_trans q0 (bl_set b7 hG _)⟩
  exact Kd.own_of_form (B := w.heap.size) hb8 (reps_of (accOk_set (accOk_set hok f (by unfold IntOk; simp only; omega) (by unfold IntOk; simp only; omega)) g hw8 hokb.2)) (by omega) (by simp) hc1 hm1 (hl4 _ (by simp))
end Go.Proofs.Ytflfpfaebndefab
