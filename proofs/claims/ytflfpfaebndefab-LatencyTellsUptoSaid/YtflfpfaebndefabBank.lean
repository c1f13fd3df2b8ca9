/- Packages tx and bank: Check, ready, Total, SameAccounts. No claim of its own; no condition. -/
import Derived.Test.YtflfpfaebndefabInts
import Derived.Test.YtflfpfaebndefabSmall
namespace Go.Proofs.Ytflfpfaebndefab
open Go.ChangeShapes Go.WideShapes Go.ChangeAt Go.RowKit
set_option linter.unusedVariables false
set_option linter.unusedSimpArgs false

theorem client_calls (n : Int) (w : World) : Calls Try.prog 68 #[.int .i64 n] w fun e w' => e = .returned (.bool (decide (0 ≤ n ∧ n < 4))) ∧ w = w' := by
  go_enter Try.func68, Try.ntmps68
  go_wp2
  all_goals go_ret
  all_goals exact ⟨by simp; try omega, rfl⟩
def TxOk (t : Tx) : Prop := (0 ≤ t.frm ∧ t.frm < 4) ∧ (0 ≤ t.to ∧ t.to < 4) ∧ ¬ t.frm = t.to ∧ 1 ≤ t.amount ∧ t.amount ≤ 1000 ∧ 0 ≤ t.nonce ∧ t.nonce ≤ 1099511627776 ∧ (t.sig.size : Int) ≤ 4096
instance (t : Tx) : Decidable (TxOk t) := by unfold TxOk; infer_instance
def checkT (t : Tx) : Int := if TxOk t then 0 else 9
theorem txcheck_calls (t : Tx) (w : World) :
    Calls Try.prog 54 #[.agg #[.int .i64 t.frm, .int .i64 t.to, .int .i64 t.amount, .int .i64 t.nonce, .string t.sig]] w fun e w' => e = .returned (.int .i64 (checkT t)) ∧ Below w.heap.size w w' := by
  have q0 := bl_alloc (Below.refl w.heap.size w) (.cells #[.int .i64 t.frm, .int .i64 t.to, .int .i64 t.amount, .int .i64 t.nonce, .string t.sig] 24)
  go_enter Try.func54, Try.ntmps54
  go_wp2_with (go_at_call 68; refine (client_calls _ _).mono ?_; rintro e w' ⟨rfl, rfl⟩)
  all_goals go_ret
  all_goals
    refine ⟨ret_int ?_, by repeat (first | exact Below.refl _ _ | apply bl_alloc)⟩
    try simp only [beq_iff_eq] at *
    first
      | (have e : checkT t = 9 := if_neg (by unfold TxOk; omega)
         rw [e]; done)
      | (have e : checkT t = 0 := if_pos (by unfold TxOk; omega)
         rw [e]; done)
theorem checkT_zero {t : Tx} (h : checkT t = 0) : TxOk t := by
  unfold checkT at h
  split at h
  · assumption
  · cases h
theorem checkT_or (t : Tx) : checkT t = 0 ∨ checkT t = 9 := by
  unfold checkT
  split <;> simp
def readyF (l : List Account) (t : Tx) : Int :=
  if TxOk t ∧ t.frm < l.length ∧ t.to < l.length then
    match l[t.frm.toNat]? with
    | some a => if t.nonce = a.nonce then 0 else 72
    | none => 9
  else 9
set_option maxRecDepth 100000 in
theorem ready_calls (l : List Account) (t : Tx) (A : Option Addr) (n c : Nat) (w : World) (B : Nat) (hn : n = l.length) (hr : kAccount.Row 69 B w A l) :
    Calls Try.prog 36 #[.slice A n c, .agg #[.int .i64 t.frm, .int .i64 t.to, .int .i64 t.amount, .int .i64 t.nonce, .string t.sig]] w fun e w' => e = .returned (.int .i64 (readyF l t)) ∧ Below w.heap.size w w' := by
  subst hn
  by_cases hT : TxOk t
  · have hz : checkT t = 0 := if_pos hT
    obtain ⟨frm, to_, amount, nonce, sig⟩ := t
    obtain ⟨f, rfl⟩ : ∃ f : Nat, frm = f := ⟨frm.toNat, by unfold TxOk at hT; simp only at hT; omega⟩
    obtain ⟨g, rfl⟩ : ∃ g : Nat, to_ = g := ⟨to_.toNat, by unfold TxOk at hT; simp only at hT; omega⟩
    have q0 := bl_alloc (Below.refl w.heap.size w) (.cells #[.int .i64 (f : Int), .int .i64 (g : Int), .int .i64 amount, .int .i64 nonce, .string sig] 24)
    have b0 := alloc_new w (.cells #[.int .i64 (f : Int), .int .i64 (g : Int), .int .i64 amount, .int .i64 nonce, .string sig] 24)
    have HZ := Lib.hid hz
    clear hz
    by_cases h1 : f < l.length
    · by_cases h2 : g < l.length
      · obtain ⟨a, ha⟩ : ∃ a, l[f]? = some a := ⟨_, List.getElem?_eq_getElem h1⟩
        have hfin : readyF l ⟨f, g, amount, nonce, sig⟩ = if nonce = a.nonce then 0 else 72 := by
          unfold readyF
          rw [if_pos ⟨hT, by show (f : Int) < _; omega, by show (g : Int) < _; omega⟩]
          simp only [Int.toNat_natCast, ha]
        obtain ⟨ad, rfl, e0, e1, _⟩ := kAccount_at (Kd.row_below q0 hr) ha
        have h1I : (f : Int) < (l.length : Int) := by omega
        have h1d : decide (l.length ≤ f) = false := by simp; omega
        have h2d : decide (l.length ≤ g) = false := by simp; omega
        by_cases h3 : nonce = a.nonce
        · have hfin2 : readyF l ⟨f, g, amount, nonce, sig⟩ = 0 := by rw [hfin, if_pos h3]
          have hd : (nonce != a.nonce) = false := by simp [h3]
          have HF := Lib.hid hfin2
          clear hfin hfin2 ha h3
          go_enter Try.func36, Try.ntmps36
          go_wp2_with (go_at_call 54; refine (txcheck_calls ⟨f, g, amount, nonce, sig⟩ _).mono ?_; rw [HZ.out]; rintro e w1 ⟨rfl, b1⟩; have q1 := bl_trans q0 b1; have c0 := cell_below b1 (block_cell b0 (i := 0) rfl); have c1 := cell_below b1 (block_cell b0 (i := 1) rfl); have c3 := cell_below b1 (block_cell b0 (i := 3) rfl); have e2 := cell_below b1 e1)
          go_quiet (fail)
          go_wp2_with fail
          go_ret
          exact ⟨by rw [HF.out]; rfl, bl_drewN q1 _⟩
        · have hfin2 : readyF l ⟨f, g, amount, nonce, sig⟩ = 72 := by rw [hfin, if_neg h3]
          have hd : (nonce != a.nonce) = true := by simp [h3]
          have HF := Lib.hid hfin2
          clear hfin hfin2 ha h3
          go_enter Try.func36, Try.ntmps36
          go_wp2_with (go_at_call 54; refine (txcheck_calls ⟨f, g, amount, nonce, sig⟩ _).mono ?_; rw [HZ.out]; rintro e w1 ⟨rfl, b1⟩; have q1 := bl_trans q0 b1; have c0 := cell_below b1 (block_cell b0 (i := 0) rfl); have c1 := cell_below b1 (block_cell b0 (i := 1) rfl); have c3 := cell_below b1 (block_cell b0 (i := 3) rfl); have e2 := cell_below b1 e1)
          go_quiet (fail)
          go_wp2_with fail
          go_ret
          exact ⟨by rw [HF.out]; rfl, bl_drewN q1 _⟩
      · have hfin : readyF l ⟨f, g, amount, nonce, sig⟩ = 9 := by simp [readyF, h2]
        have h1d : decide (l.length ≤ f) = false := by simp; omega
        have h2d : decide (l.length ≤ g) = true := by simp; omega
        have HF := Lib.hid hfin
        clear hfin
        go_enter Try.func36, Try.ntmps36
        go_wp2_with (go_at_call 54; refine (txcheck_calls ⟨f, g, amount, nonce, sig⟩ _).mono ?_; rw [HZ.out]; rintro e w1 ⟨rfl, b1⟩; have q1 := bl_trans q0 b1; have c0 := cell_below b1 (block_cell b0 (i := 0) rfl); have c1 := cell_below b1 (block_cell b0 (i := 1) rfl))
        go_ret
        exact ⟨by rw [HF.out]; rfl, q1⟩
    · have hfin : readyF l ⟨f, g, amount, nonce, sig⟩ = 9 := by simp [readyF, h1]
      have h1d : decide (l.length ≤ f) = true := by simp; omega
      have HF := Lib.hid hfin
      clear hfin
      go_enter Try.func36, Try.ntmps36
      go_wp2_with (go_at_call 54; refine (txcheck_calls ⟨f, g, amount, nonce, sig⟩ _).mono ?_; rw [HZ.out]; rintro e w1 ⟨rfl, b1⟩; have q1 := bl_trans q0 b1; have c0 := cell_below b1 (block_cell b0 (i := 0) rfl); have c1 := cell_below b1 (block_cell b0 (i := 1) rfl))
      go_ret
      exact ⟨by rw [HF.out]; rfl, q1⟩
  · have hz : checkT t = 9 := if_neg hT
    have hfin : readyF l t = 9 := by simp [readyF, hT]
    have q0 := bl_alloc (Below.refl w.heap.size w) (.cells #[.int .i64 t.frm, .int .i64 t.to, .int .i64 t.amount, .int .i64 t.nonce, .string t.sig] 24)
    have HZ := Lib.hid hz
    have HF := Lib.hid hfin
    clear hz hfin
    go_enter Try.func36, Try.ntmps36
    go_wp2_with (go_at_call 54; refine (txcheck_calls t _).mono ?_; rw [HZ.out]; rintro e w1 ⟨rfl, b1⟩; have q1 := bl_trans q0 b1)
    go_ret
    exact ⟨by rw [HF.out]; rfl, q1⟩
end Go.Proofs.Ytflfpfaebndefab
