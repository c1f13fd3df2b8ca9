/- Package bank: Apply. No claim of its own; no condition. -/
import Derived.Test.YtflfpfaebndefabBank
import Derived.Test.YtflfpfaebndefabCopy
import Derived.Test.YtflfpfaebndefabSmall
import Derived.Shelf.Spec.SlicesInsert
namespace Go.Proofs.Ytflfpfaebndefab
open Go.ChangeShapes Go.WideShapes Go.ChangeAt Go.RowKit
set_option linter.unusedVariables false
set_option linter.unusedSimpArgs false

theorem info66 : (Try.prog.info? 69).map (fun i => (i.zero, i.size, i.bytes)) = some (some (.agg #[.int .i64 0, .int .i64 0]), 2, 16) := by kernel_rfl
def applyF (l : List Account) (t : Tx) : List Account × Int :=
  if readyF l t = 0 then
    match l[t.frm.toNat]?, l[t.to.toNat]? with
    | some a, some b =>
      if a.balance < t.amount then (l.set t.frm.toNat ⟨a.balance, a.nonce + 1⟩, 73)
      else ((l.set t.frm.toNat ⟨a.balance - t.amount, a.nonce + 1⟩).set t.to.toNat ⟨wrap64 (b.balance + t.amount), b.nonce⟩, 0)
    | _, _ => (l, 9)
  else (l, readyF l t)
def accCells : List Account → List Value
  | [] => []
  | a :: l => [.int .i64 a.balance, .int .i64 a.nonce] ++ accCells l
theorem reps_acc {B B2 : Nat} {w w2 : World} {l : List Account} {cs : List Value} (h : Kd.Reps kAccount B w l cs) : Kd.Reps kAccount B2 w2 l cs := by
  induction h with
  | nil => exact .nil
  | cons hc _ ih => exact .cons hc ih
theorem reps_cells {B : Nat} {w : World} {l : List Account} {cs : List Value} (h : Kd.Reps kAccount B w l cs) : cs = accCells l := by
  induction h with
  | nil => rfl
  | cons hc _ ih => rw [ih, (kAccount_open hc).1]; rfl
def AccOk (l : List Account) : Prop := ∀ a ∈ l, IntOk a.balance ∧ IntOk a.nonce
theorem reps_ok {B : Nat} {w : World} {l : List Account} {cs : List Value} (h : Kd.Reps kAccount B w l cs) : AccOk l := by
  induction h with
  | nil => intro a ha; cases ha
  | cons hc _ ih =>
    intro a ha
    rcases List.mem_cons.1 ha with rfl | ha
    · exact (kAccount_open hc).2
    · exact ih a ha
theorem reps_of {B : Nat} {w : World} : ∀ {l : List Account}, AccOk l → Kd.Reps kAccount B w l (accCells l)
  | [], _ => .nil
  | a :: l, h => .cons (kAccount_mk a (h a (by simp)).1 (h a (by simp)).2) (reps_of fun x hx => h x (by simp [hx]))
theorem accCells_len : ∀ l : List Account, (accCells l).length = l.length * 2
  | [] => rfl
  | a :: l => by simp [accCells, accCells_len l]; omega
theorem accCells_get : ∀ {l : List Account} {f : Nat} {a : Account}, l[f]? = some a → (accCells l)[f * 2]? = some (.int .i64 a.balance) ∧ (accCells l)[f * 2 + 1]? = some (.int .i64 a.nonce)
  | [], f, a, h => by cases h
  | x :: l, 0, a, h => by
    obtain rfl : x = a := by simpa using h
    simp [accCells]
  | x :: l, f + 1, a, h => by
    have := accCells_get (l := l) (f := f) (a := a) (by simpa using h)
    rw [show (f + 1) * 2 = f * 2 + 2 by omega]
    simpa [accCells] using this
theorem accCells_bal : ∀ {l : List Account} {f : Nat} {a : Account} (v : Int), l[f]? = some a → (accCells l).set (f * 2) (.int .i64 v) = accCells (l.set f ⟨v, a.nonce⟩)
  | [], f, a, v, h => by cases h
  | x :: l, 0, a, v, h => by
    obtain rfl : x = a := by simpa using h
    simp [accCells]
  | x :: l, f + 1, a, v, h => by
    have := accCells_bal (l := l) (f := f) (a := a) v (by simpa using h)
    rw [show (f + 1) * 2 = f * 2 + 2 by omega]
    simpa [accCells] using this
theorem accCells_non : ∀ {l : List Account} {f : Nat} {a : Account} (v : Int), l[f]? = some a → (accCells l).set (f * 2 + 1) (.int .i64 v) = accCells (l.set f ⟨a.balance, v⟩)
  | [], f, a, v, h => by cases h
  | x :: l, 0, a, v, h => by
    obtain rfl : x = a := by simpa using h
    simp [accCells]
  | x :: l, f + 1, a, v, h => by
    have := accCells_non (l := l) (f := f) (a := a) v (by simpa using h)
    rw [show (f + 1) * 2 + 1 = f * 2 + 1 + 2 by omega]
    simpa [accCells] using this
set_option maxRecDepth 100000 in
theorem apply_not (l : List Account) (t : Tx) (A : Option Addr) (n c : Nat) (w : World) (B : Nat) (hn : n = l.length) (hl : l.length ≤ 1048576) (hr : kAccount.Row 69 B w A l) (hz : readyF l t ≠ 0) :
    Calls Try.prog 10 #[.slice A n c, .agg #[.int .i64 t.frm, .int .i64 t.to, .int .i64 t.amount, .int .i64 t.nonce, .string t.sig]] w
      fun e w' => (∃ v, e = .returned (.tuple #[v, .int .i64 (applyF l t).2]) ∧ kAccount.Own 69 B w' w.heap.size v (applyF l t).1) ∧ Below w.heap.size w w' := by
  subst hn
  obtain ⟨i0, hi, hz0, hz1, hz2⟩ := info_parts info66
  have q0 := bl_alloc (Below.refl w.heap.size w) (.cells #[.int .i64 t.frm, .int .i64 t.to, .int .i64 t.amount, .int .i64 t.nonce, .string t.sig] 24)
  have b0 := alloc_new w (.cells #[.int .i64 t.frm, .int .i64 t.to, .int .i64 t.amount, .int .i64 t.nonce, .string t.sig] 24)
  generalize hW : w.alloc (.cells #[.int .i64 t.frm, .int .i64 t.to, .int .i64 t.amount, .int .i64 t.nonce, .string t.sig] 24) = W at *
  have HW := Lib.hid hW
  clear hW
  have hap : applyF l t = (l, readyF l t) := if_neg hz
  have HA := Lib.hid hap
  have hne : (readyF l t != 0) = true := by simp [hz]
  have hd : (readyF l t == 0) = false := by simp [hz]
  clear hap hz
  have hsz := q0.size
  go_enter Try.func10, Try.ntmps10
  go_upto_region 1 with fail
  rw [HW.out]
  go_wp2_with (first
    | (at_make; refine wpList_make_full _ rfl (.tmp 9) (.tmp 9) 22 rfl W.heap.size 69 i0 _ 2 Try.underlying22 hi hz0 hz1 .i64 .i64 _ _ l.length rfl rfl rfl rfl (by rw [hz2]; omega) (by simp only [maxLen]; omega) (Nat.le_refl _) ?_; intro w1 own1 grw1; obtain ⟨cur, hblk1, hcur, _⟩ := block_of_own own1; have b1 := bl_grown (Below.refl W.heap.size W) grw1 (fun k h => by cases h); obtain ⟨w2, cs, hrun, hreps, hblk2, grw2⟩ := run_copy_own w1 kAccount 22 22 3 69 W.heap.size B B W.heap.size l.length c A l cur Try.underlying22 (by rw [hi]; exact congrArg some hz1) hblk1 hcur rfl (Kd.row_below (bl_trans q0 b1) hr) (by simp only [maxLen]; omega) (Nat.le_refl _); have b2 := bl_grown b1 grw2 (fun k h => by cases h; exact Nat.le_refl _); have c0 := cell_below b2 (block_cell b0 (i := 0) rfl); have c1 := cell_below b2 (block_cell b0 (i := 1) rfl); have c2 := cell_below b2 (block_cell b0 (i := 2) rfl); have c3 := cell_below b2 (block_cell b0 (i := 3) rfl); have c4 := cell_below b2 (block_cell b0 (i := 4) rfl))
    | (refine wpList_copy_runI _ rfl (.tmp 11) (.tmp 12) 22 22 rfl _ _ rfl rfl hrun ?_)
    | (go_at_call 36; refine (ready_calls l t A l.length c _ B rfl (Kd.row_below (bl_trans q0 b2) hr)).mono ?_; rintro e w3 ⟨rfl, b3⟩))
  refine bodyPost_ret (v := .tuple #[.slice (some ⟨W.heap.size, 0, none⟩) l.length l.length, .int .i64 (readyF l t)]) (by simp [results, Try.results10, go_sem]) rfl ⟨⟨_, by rw [HA.out], ?_⟩, bl_trans q0 (bl_trans b2 b3)⟩
  rw [HA.out]
  exact Kd.own_below (own_of_block hblk2 (reps_acc hreps) hsz rfl (by simp only [maxLen]; omega)) b3
theorem accOk_set {l : List Account} (h : AccOk l) (f : Nat) {x : Account} (h1 : IntOk x.balance) (h2 : IntOk x.nonce) : AccOk (l.set f x) := by
  intro a ha
  rcases List.mem_or_eq_of_mem_set ha with ha | rfl
  · exact h a ha
  · exact ⟨h1, h2⟩
theorem set_block {w : World} {G : Nat} {cs : List Value} {e : TypeId} (h : w.heap[G]? = some (.cells cs.toArray e (0, 0))) (j : Nat) (u : Value) : (w.setCell ⟨G, j, none⟩ u).heap[G]? = some (.cells (cs.set j u).toArray e (0, 0)) := by
  rw [heap_setCell_same w G j cs.toArray e u h]
  simp
theorem cell_set {w : World} {p : Addr} {v : Value} (h : w.cell? p = some v) {q : Addr} (hq : p.block ≠ q.block) (u : Value) : (w.setCell q u).cell? p = some v := by
  rw [World.cell?_setCell_other _ _ _ _ (by rintro rfl; exact hq rfl)]
  exact h
theorem acc_at {w : World} {G f : Nat} {l : List Account} {a : Account} (hb : w.heap[G]? = some (.cells (accCells l).toArray 69 (0, 0))) (ha : l[f]? = some a) :
    w.cell? ⟨G, f * 2, none⟩ = some (.int .i64 a.balance) ∧ w.cell? ⟨G, f * 2 + 1, none⟩ = some (.int .i64 a.nonce) := by
  obtain ⟨h1, h2⟩ := accCells_get ha
  exact ⟨block_cell hb (by simpa using h1), block_cell hb (by simpa using h2)⟩
theorem readyF_zero {l : List Account} {t : Tx} (h : readyF l t = 0) : ∃ (f g : Nat) (a b : Account), t.frm = f ∧ t.to = g ∧ f ≠ g ∧ f < l.length ∧ g < l.length ∧ l[f]? = some a ∧ l[g]? = some b ∧ t.nonce = a.nonce ∧ TxOk t := by
  unfold readyF at h
  split at h
  · next hc =>
    obtain ⟨hT, h1, h2⟩ := hc
    have hT2 := hT
    unfold TxOk at hT2
    split at h
    · next a ha =>
      obtain ⟨b, hb⟩ : ∃ b, l[t.to.toNat]? = some b := ⟨_, List.getElem?_eq_getElem (by omega)⟩
      refine ⟨t.frm.toNat, t.to.toNat, a, b, by omega, by omega, by omega, by omega, by omega, ha, hb, ?_, hT⟩
      split at h
      · assumption
      · cases h
    · cases h
  · cases h
set_option maxHeartbeats 1600000 in
set_option maxRecDepth 100000 in
theorem apply_low (l : List Account) (f g : Nat) (amount nonce : Int) (sig : ByteArray) (a b : Account) (A : Option Addr) (n c : Nat) (w : World) (B : Nat) (hn : n = l.length) (hl : l.length ≤ 1048576) (hr : kAccount.Row 69 B w A l)
    (hz : readyF l ⟨f, g, amount, nonce, sig⟩ = 0) (h1 : f < l.length) (h2 : g < l.length) (ha : l[f]? = some a) (hb : l[g]? = some b) (hfg : f ≠ g) (hnon : a.nonce ≤ 1099511627776 ∧ 0 ≤ a.nonce) (ham : 1 ≤ amount ∧ amount ≤ 1000) (hlow : a.balance < amount) :
    Calls Try.prog 10 #[.slice A n c, .agg #[.int .i64 (f : Int), .int .i64 (g : Int), .int .i64 amount, .int .i64 nonce, .string sig]] w
      fun e w' => (∃ v, e = .returned (.tuple #[v, .int .i64 73]) ∧ kAccount.Own 69 B w' w.heap.size v (l.set f ⟨a.balance, a.nonce + 1⟩)) ∧ Below w.heap.size w w' := by
  subst hn
  obtain ⟨i0, hi, hz0, hz1, hz2⟩ := info_parts info66
  have q0 := bl_alloc (Below.refl w.heap.size w) (.cells #[.int .i64 (f : Int), .int .i64 (g : Int), .int .i64 amount, .int .i64 nonce, .string sig] 24)
  have b0 := alloc_new w (.cells #[.int .i64 (f : Int), .int .i64 (g : Int), .int .i64 amount, .int .i64 nonce, .string sig] 24)
  generalize hW : w.alloc (.cells #[.int .i64 (f : Int), .int .i64 (g : Int), .int .i64 amount, .int .i64 nonce, .string sig] 24) = W at *
  have HW := Lib.hid hW
  clear hW
  have HZ := Lib.hid hz
  clear hz
  have hsz := q0.size
  have h1I : (f : Int) < (l.length : Int) := by omega
  go_enter Try.func10, Try.ntmps10
  go_upto_region 1 with fail
  rw [HW.out]
  go_upto_region 7 with (first
    | (at_make; refine wpList_make_full _ rfl (.tmp 9) (.tmp 9) 22 rfl W.heap.size 69 i0 _ 2 Try.underlying22 hi hz0 hz1 .i64 .i64 _ _ l.length rfl rfl rfl rfl (by rw [hz2]; omega) (by simp only [maxLen]; omega) (Nat.le_refl _) ?_; intro w1 own1 grw1; obtain ⟨cur, hblk1, hcur, _⟩ := block_of_own own1; have b1 := bl_grown (Below.refl W.heap.size W) grw1 (fun k h => by cases h); obtain ⟨w2, cs, hrun, hreps, hblk2, grw2⟩ := run_copy_own w1 kAccount 22 22 3 69 W.heap.size B B W.heap.size l.length c A l cur Try.underlying22 (by rw [hi]; exact congrArg some hz1) hblk1 hcur rfl (Kd.row_below (bl_trans q0 b1) hr) (by simp only [maxLen]; omega) (Nat.le_refl _); have b2 := bl_grown b1 grw2 (fun k h => by cases h; exact Nat.le_refl _); obtain rfl := reps_cells hreps; have c0 := cell_below b2 (block_cell b0 (i := 0) rfl); have c1 := cell_below b2 (block_cell b0 (i := 1) rfl); have c2 := cell_below b2 (block_cell b0 (i := 2) rfl); have c3 := cell_below b2 (block_cell b0 (i := 3) rfl); have c4 := cell_below b2 (block_cell b0 (i := 4) rfl))
    | (refine wpList_copy_runI _ rfl (.tmp 11) (.tmp 12) 22 22 rfl _ _ rfl rfl hrun ?_)
    | (go_at_call 36; refine (ready_calls l ⟨f, g, amount, nonce, sig⟩ A l.length c _ B rfl (Kd.row_below (bl_trans q0 b2) hr)).mono ?_; rw [HZ.out]; rintro e w3 ⟨rfl, b3⟩; have d0 := cell_below b3 c0; have d1 := cell_below b3 c1; have d2 := cell_below b3 c2; have hb3 := block_below b3 hblk2; obtain ⟨n0, n1⟩ := acc_at hb3 ha; have z1 := frozen_of_row w3 W.heap.size (f * 2 + 1) _ 69 hb3; have hok := reps_ok hreps; clear hrun hblk1 hcur own1 grw1 grw2 hreps hi hz0 hz1 hz2 i0 hblk2 c0 c1 c2 c3 c4 b1))
  have hne0 : w.heap.size ≠ W.heap.size := by
    have := blk_lt b0
    omega
  have hb4 := set_block hb3 (f * 2 + 1) (.int .i64 (a.nonce + 1))
  rw [accCells_non _ ha] at hb4
  have s0 := cell_set (q := ⟨W.heap.size, f * 2 + 1, none⟩) d0 hne0 (.int .i64 (a.nonce + 1))
  have s2 := cell_set (q := ⟨W.heap.size, f * 2 + 1, none⟩) d2 hne0 (.int .i64 (a.nonce + 1))
  have q4 := bl_set (bl_trans q0 (bl_trans b2 b3)) (p := ⟨W.heap.size, f * 2 + 1, none⟩) hsz (.int .i64 (a.nonce + 1))
  generalize w3.setCell ⟨W.heap.size, f * 2 + 1, none⟩ (.int .i64 (a.nonce + 1)) = w4 at *
  obtain ⟨m0, m1⟩ := acc_at (f := f) (a := ⟨a.balance, a.nonce + 1⟩) hb4 (by rw [List.getElem?_set_self h1])
  clear d0 d1 n0 n1 z1
  go_wp2_with fail
  go_quiet (fail)
  go_wp2_with fail
  have hoka := hok a (List.mem_of_getElem? ha)
  refine bodyPost_ret (v := .tuple #[.slice (some ⟨W.heap.size, 0, none⟩) l.length l.length, .int .i64 73]) (by simp [results, Try.results10, go_sem]) rfl ⟨⟨_, rfl, ?_⟩, bl_drewN q4 _⟩
  exact own_of_block hb4 (reps_of (accOk_set hok f hoka.1 (by unfold IntOk; simp only; omega))) hsz (by simp) (by simp only [maxLen]; omega)
end Go.Proofs.Ytflfpfaebndefab
