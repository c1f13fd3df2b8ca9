/- Package bank: the plain part: all balances. No claim of its own; no condition. -/
import Derived.Test.YtflfpfaebndefabFold
namespace Go.Proofs.Ytflfpfaebndefab
open Go.ChangeShapes Go.WideShapes Go.ChangeAt Go.RowKit
set_option linter.unusedVariables false
set_option linter.unusedSimpArgs false

structure Good (l : List Account) : Prop where
  len : l.length = 4
  ok : ∀ a ∈ l, 0 ≤ a.balance ∧ 0 ≤ a.nonce ∧ a.nonce ≤ 1099511627777
  tot : totalF l = 1000
theorem total_ge : ∀ {l : List Account}, (∀ a ∈ l, 0 ≤ a.balance) → 0 ≤ totalF l ∧ ∀ a ∈ l, a.balance ≤ totalF l
  | [], _ => by simp [totalF]
  | x :: l, h => by
    have h1 := h x (by simp)
    have h2 := total_ge (l := l) fun a ha => h a (by simp [ha])
    have e : totalF (x :: l) = x.balance + totalF l := by simp [totalF]
    rw [e]
    refine ⟨by omega, fun a ha => ?_⟩
    rcases List.mem_cons.1 ha with rfl | ha
    · omega
    · have := h2.2 a ha; omega
theorem Good.small {l : List Account} (h : Good l) : Small l := fun a ha => ⟨(h.ok a ha).1, by
  have := (total_ge fun x hx => (h.ok x hx).1).2 a ha
  rw [h.tot] at this
  exact this⟩
theorem total_set : ∀ {l : List Account} {f : Nat} {a : Account} (x : Account), l[f]? = some a → totalF (l.set f x) = totalF l - a.balance + x.balance
  | [], f, a, x, h => by cases h
  | y :: l, 0, a, x, h => by
    obtain rfl : y = a := by simpa using h
    simp [totalF]; omega
  | y :: l, f + 1, a, x, h => by
    have := total_set (l := l) (f := f) (a := a) x (by simpa using h)
    simp only [totalF, List.set_cons_succ, List.map_cons, List.sum_cons] at *
    omega
theorem Good.set {l : List Account} (h : Good l) {f : Nat} {a x : Account} (ha : l[f]? = some a) (hb : 0 ≤ x.balance) (hx : 0 ≤ x.nonce ∧ x.nonce ≤ 1099511627777) (ht : x.balance = a.balance) : Good (l.set f x) where
  len := by simp [h.len]
  ok := fun y hy => by
    rcases List.mem_or_eq_of_mem_set hy with hy | rfl
    · exact h.ok y hy
    · exact ⟨hb, hx⟩
  tot := by rw [total_set x ha, h.tot]; omega
theorem good_apply {l : List Account} (h : Good l) (t : Tx) : Good (applyF l t).1 := by
  unfold applyF
  split
  · next hz =>
    obtain ⟨f, g, a, b, e1, e2, hfg, h1, h2, ha, hb, hno, hT⟩ := readyF_zero hz
    unfold TxOk at hT
    rw [e1, e2]
    simp only [Int.toNat_natCast, ha, hb]
    have ha2 := h.ok a (List.mem_of_getElem? ha)
    have hb2 := h.ok b (List.mem_of_getElem? hb)
    have hb3 := h.small b (List.mem_of_getElem? hb)
    split
    · exact h.set ha (by simp only; omega) (by simp only; omega) rfl
    · next hlow =>
      have hw : wrap64 (b.balance + t.amount) = b.balance + t.amount := by unfold wrap64; omega
      have hgb : (l.set f ⟨a.balance - t.amount, a.nonce + 1⟩)[g]? = some b := by rw [List.getElem?_set_ne hfg]; exact hb
      refine ⟨by simp [h.len], fun y hy => ?_, ?_⟩
      · rcases List.mem_or_eq_of_mem_set hy with hy | rfl
        · rcases List.mem_or_eq_of_mem_set hy with hy | rfl
          · exact h.ok y hy
          · simp only; omega
        · simp only [hw]; omega
      · rw [total_set _ hgb, total_set _ ha, h.tot]
        simp only [hw]
        omega
  · exact h
theorem good_gen : Good genesisF := ⟨rfl, fun a ha => by
  obtain rfl : a = gen := by simpa [genesisF, half] using ha
  decide, by decide⟩
theorem good_txs : ∀ (l : List Tx) {s : BankS}, Good s.1 → Good (txsF l s).1
  | [], s, h => h
  | t :: l, s, h => good_txs l (s := txStep s t) (good_apply h t)
theorem good_foldG : ∀ (l : List Block) {s : BankS}, Good s.1 → Good (foldG l s).1
  | [], s, h => h
  | b :: l, s, h => good_foldG l (s := txsF b.txs s) (good_txs b.txs h)
theorem good_fold (l : List Block) : Good (foldF l).1 := good_foldG l good_gen
end Go.Proofs.Ytflfpfaebndefab
