/- Package mootlaw16: the walk of BankTotal. No claim of its own; no condition. -/
import Derived.Test.YtflfpfaebndefaaFold
namespace Go.Proofs.Ytflfpfaebndefaa
open Go.ChangeShapes Go.WideShapes Go.ChangeAt Go.RowKit
set_option linter.unusedVariables false
set_option linter.unusedSimpArgs false

structure Good (l : List Account) : Prop where
  len : l.length = 4
  ok : ∀ a ∈ l, 0 ≤ a.balance ∧ 0 ≤ a.nonce ∧ a.nonce ≤ 1099511627777
  tot : totalF l = 1000
theorem total_ge : ∀ {l : List Account}, (∀ a ∈ l, 0 ≤ a.balance) → 0 ≤ totalF l ∧ ∀ a ∈ l, a.balance ≤ totalF l
  | [], _ => by simp [totalF]
  | x :: l, h => by
    have h1 := h x (by simp)
    have h2 := total_ge (l := l) fun a ha => h a (by simp [ha])
    have e : totalF (x :: l) = x.balance + totalF l := by simp [totalF]
    rw [e]
    refine ⟨by omega, fun a ha => ?_⟩
    rcases List.mem_cons.1 ha with rfl | ha
    · omega
    · have := h2.2 a ha; omega
theorem Good.small {l : List Account} (h : Good l) : Small l := fun a ha => ⟨(h.ok a ha).1, by
  have := (total_ge fun x hx => (h.ok x hx).1).2 a ha
  rw [h.tot] at this
  exact this⟩
theorem total_set : ∀ {l : List Account} {f : Nat} {a : Account} (x : Account), l[f]? = some a → totalF (l.set f x) = totalF l - a.balance + x.balance
  | [], f, a, x, h => by cases h
  | y :: l, 0, a, x, h => by
    obtain rfl : y = a := by simpa using h
    simp [totalF]; omega
  | y :: l, f + 1, a, x, h => by
    have := total_set (l := l) (f := f) (a := a) x (by simpa using h)
    simp only [totalF, List.set_cons_succ, List.map_cons, List.sum_cons] at *
    omega
theorem Good.set {l : List Account} (h : Good l) {f : Nat} {a x : Account} (ha : l[f]? = some a) (hb : 0 ≤ x.balance) (hx : 0 ≤ x.nonce ∧ x.nonce ≤ 1099511627777) (ht : x.balance = a.balance) : Good (l.set f x) where
  len := by simp [h.len]
  ok := fun y hy => by
    rcases List.mem_or_eq_of_mem_set hy with hy | rfl
    · exact h.ok y hy
    · exact ⟨hb, hx⟩
  tot := by rw [total_set x ha, h.tot]; omega
theorem good_apply {l : List Account} (h : Good l) (t : Tx) : Good (applyF l t).1 := by
  unfold applyF
  split
  · next hz =>
    obtain ⟨f, g, a, b, e1, e2, hfg, h1, h2, ha, hb, hno, hT⟩ := readyF_zero hz
    unfold TxOk at hT
    rw [e1, e2]
    simp only [Int.toNat_natCast, ha, hb]
    have ha2 := h.ok a (List.mem_of_getElem? ha)
    have hb2 := h.ok b (List.mem_of_getElem? hb)
    have hb3 := h.small b (List.mem_of_getElem? hb)
    split
    · exact h.set ha (by simp only; omega) (by simp only; omega) rfl
    · next hlow =>
      have hw : wrap64 (b.balance + t.amount) = b.balance + t.amount := by unfold wrap64; omega
      have hgb : (l.set f ⟨a.balance - t.amount, a.nonce + 1⟩)[g]? = some b := by rw [List.getElem?_set_ne hfg]; exact hb
      refine ⟨by simp [h.len], fun y hy => ?_, ?_⟩
      · rcases List.mem_or_eq_of_mem_set hy with hy | rfl
        · rcases List.mem_or_eq_of_mem_set hy with hy | rfl
          · exact h.ok y hy
          · simp only; omega
        · simp only [hw]; omega
      · rw [total_set _ hgb, total_set _ ha, h.tot]
        simp only [hw]
        omega
  · exact h
theorem good_gen : Good genesisF := ⟨rfl, fun a ha => by
  obtain rfl : a = gen := by simpa [genesisF, half] using ha
  decide, by decide⟩
theorem good_txs : ∀ (l : List Tx) {s : BankS}, Good s.1 → Good (txsF l s).1
  | [], s, h => h
  | t :: l, s, h => good_txs l (s := txStep s t) (good_apply h t)
theorem good_foldG : ∀ (l : List Block) {s : BankS}, Good s.1 → Good (foldG l s).1
  | [], s, h => h
  | b :: l, s, h => good_foldG l (s := txsF b.txs s) (good_txs b.txs h)
theorem good_fold (l : List Block) : Good (foldF l).1 := good_foldG l good_gen
theorem txN_next {l : List Block} {k : Nat} {b : Block} (h : l[k]? = some b) : txN (l.take (k + 1)) = txN (l.take k) + b.txs.length := by
  rw [List.take_add_one, h]
  simp [txN]
theorem tx_bulk (t : Tx) : 1 ≤ kTx.bulk t := Nat.le_add_left 1 _
theorem block_bulk (b : Block) : b.txs.length + 1 ≤ kBlock.bulk b := by
  have h : ∀ l : List Tx, l.length ≤ (l.map kTx.bulk).sum := by
    intro l
    induction l with
    | nil => simp
    | cons t l ih =>
      have := tx_bulk t
      simp only [List.length_cons, List.map_cons, List.sum_cons]
      omega
  have h1 := h b.txs
  have e : kBlock.bulk b = 1 + (1 + ((b.parent.size + 1) + (kCert.bulk b.justify + (((b.txs.map kTx.bulk).sum + 1) + (b.sig.size + 1))))) + 1 := rfl
  omega
theorem blocks_bulk : ∀ l : List Block, txN l + l.length ≤ (l.map kBlock.bulk).sum
  | [] => by simp [txN]
  | b :: l => by
    have h1 := block_bulk b
    have h2 := blocks_bulk l
    simp only [txN, List.map_cons, List.sum_cons, List.length_cons] at *
    omega
set_option maxHeartbeats 1600000 in
set_option maxRecDepth 100000 in
theorem banktotal_walk (l : List Block) (A : Option Addr) (c : Nat) (w : World) (B : Nat) (hl : l.length ≤ 2097152) (hT : txN l ≤ 2097152) (hr : kBlock.Row 64 B w A l) :
    Calls Try.prog 12 #[.slice A l.length c] w fun e w' => e = .returned (.bool true) ∧ Below w.heap.size w w' := by
  have hg := good_fold l
  have hlen := fold_len l (genesisF, [])
  have hsm := hg.small
  have ht := hg.tot
  have h4 := hg.len
  have hokk := hg.ok
  obtain ⟨F, hF⟩ : ∃ F, F = foldF l := ⟨_, rfl⟩
  have hl2 : F.2.length = txN l := by rw [hF]; show (foldG l (genesisF, [])).2.length = _; simpa using hlen.2
  rw [← hF] at hsm ht h4 hokk
  have HF := Lib.hid hF
  have HT := Lib.hid ht
  clear hF hlen hg ht
  go_enter Try.func12, Try.ntmps12
  go_wp2_with (go_at_call 33; refine (fold_calls l A l.length c _ B rfl hl hT hr).mono ?_; rw [← HF.out]; rintro e w1 ⟨⟨v, ev, rfl, own, oerr⟩, b1⟩)
  obtain ⟨Aa, ca, rfl, _, _, rowa, _⟩ := Kd.own_row own
  obtain ⟨Ae, ce, rfl, _, _, rowe, _⟩ := Kd.own_row oerr
  go_loop [5, 6] (fun nv kv => ∃ k : Nat, k ≤ l.length ∧ kv = .int .i64 k ∧ nv = .int .i64 (txN (l.take k) : Nat)) (fun _ kv => l.length - (intOf kv).toNat)
  case atStart => exact ⟨0, by omega, rfl, rfl⟩
  case round =>
    obtain ⟨k, g1, rfl, rfl⟩ := hrel
    by_cases h : k < l.length
    · obtain ⟨b, hb⟩ : ∃ b, l[k]? = some b := ⟨_, List.getElem?_eq_getElem h⟩
      obtain ⟨ad, rfl, A6, c6, A7, c7, e0, e1, e2, e3, e4, e5, e6, e7, e8, hcond⟩ := kBlock_at (Kd.row_below b1 hr) hb
      have hn := txN_next hb
      have hle := txN_step hb
      have HN := Lib.hid hn
      clear hn hb
      go_wp2_with fail
      go_round
      case rel => exact ⟨k + 1, by omega, by go_num, by rw [HN.out]; go_num⟩
      case measure => simp [intOf]; omega
    · have hk : k = l.length := by omega
      subst hk
      have e : txN (l.take l.length) = F.2.length := by rw [List.take_of_length_le (Nat.le_refl _), hl2]
      rw [e]
      clear e
      go_wp2_with fail
      go_loop [7] (fun kv => ∃ k : Nat, k ≤ F.1.length ∧ kv = .int .i64 k) (fun kv => F.1.length - (intOf kv).toNat)
      case atStart => exact ⟨0, by omega, rfl⟩
      case round =>
        obtain ⟨k, g2, rfl⟩ := hrel
        by_cases h : k < F.1.length
        · obtain ⟨a, ha⟩ : ∃ a, F.1[k]? = some a := ⟨_, List.getElem?_eq_getElem h⟩
          obtain ⟨ad, rfl, e0, e1, hcond⟩ := kAccount_at rowa ha
          have m1 := hokk a (List.mem_of_getElem? ha)
          have m2 := hsm a (List.mem_of_getElem? ha)
          have d1 : decide (a.balance < 0) = false := by simp; omega
          have d2 : decide (1000 < a.balance) = false := by simp; omega
          have d3 : decide (a.nonce < 0) = false := by simp; omega
          clear ha
          go_wp2_with fail
          go_round
          case rel => exact ⟨k + 1, by omega, by go_num⟩
          case measure => simp [intOf]; omega
        · have hk : k = F.1.length := by omega
          subst hk
          have h4I : (F.1.length : Int) = 4 := by omega
          go_wp2_with (first
            | (go_at_call 34; refine (total_calls F.1 Aa _ ca _ _ (by omega) (by omega) rowa hsm).mono ?_; rw [HT.out]; rintro e w2 ⟨rfl, b2⟩; have b3 := bl_trans b1 b2)
            | (go_at_call 35; refine (alive16_calls _).mono ?_; rintro e w3 ⟨rfl, b4⟩; have b5 := bl_trans b3 b4))
          go_ret
          exact ⟨by simp [h4I], b5⟩
end Go.Proofs.Ytflfpfaebndefaa
