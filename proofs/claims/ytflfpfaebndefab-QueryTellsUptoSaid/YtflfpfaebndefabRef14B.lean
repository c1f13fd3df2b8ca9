/- Packages mootref14 and bank: Apply, Accounts, Fold, Next; mootlaw16: the walk of BankTells. No claim of its own; no condition. -/
import Derived.Test.YtflfpfaebndefabRef14
namespace Go.Proofs.Ytflfpfaebndefab
open Go.ChangeShapes Go.WideShapes Go.ChangeAt Go.RowKit
set_option linter.unusedVariables false
set_option linter.unusedSimpArgs false
theorem refapply_calls (l : List Account) (t : Tx) (A : Option Addr) (n c : Nat) (w : World) (B : Nat) (hn : n = l.length) (hl : l.length ≤ 1048576) (hr : kAccount.Row 69 B w A l) :
    Calls Try.prog 11 #[.slice A n c, .agg #[.int .i64 t.frm, .int .i64 t.to, .int .i64 t.amount, .int .i64 t.nonce, .string t.sig]] w
      fun e w' => (∃ v, e = .returned (.tuple #[v, .int .i64 (applyF l t).2]) ∧ kAccount.Own 69 w.heap.size w' w.heap.size v (applyF l t).1) ∧ Below w.heap.size w w' := by
  by_cases hT : TxOk t
  · have hz : checkT t = 0 := if_pos hT
    obtain ⟨frm, to_, amount, nonce, sig⟩ := t
    have hT2 := hT
    unfold TxOk at hT2
    simp only at hT2
    obtain ⟨f, rfl⟩ : ∃ f : Nat, frm = f := ⟨frm.toNat, by omega⟩
    obtain ⟨g, rfl⟩ : ∃ g : Nat, to_ = g := ⟨to_.toNat, by omega⟩
    by_cases h1 : f < l.length
    · by_cases h2 : g < l.length
      · obtain ⟨a, ha⟩ : ∃ a, l[f]? = some a := ⟨_, List.getElem?_eq_getElem h1⟩
        obtain ⟨b, hb⟩ : ∃ b, l[g]? = some b := ⟨_, List.getElem?_eq_getElem h2⟩
        have hrd : readyF l ⟨f, g, amount, nonce, sig⟩ = if nonce = a.nonce then 0 else 72 := by
          unfold readyF
          rw [if_pos ⟨hT, by show (f : Int) < _; omega, by show (g : Int) < _; omega⟩]
          simp only [Int.toNat_natCast, ha]
        by_cases h3 : nonce = a.nonce
        · rw [if_pos h3] at hrd
          have hap : applyF l ⟨f, g, amount, nonce, sig⟩ = if a.balance < amount then (l.set f ⟨a.balance, a.nonce + 1⟩, 73) else ((l.set f ⟨a.balance - amount, a.nonce + 1⟩).set g ⟨wrap64 (b.balance + amount), b.nonce⟩, 0) := by
            unfold applyF
            rw [if_pos hrd]
            simp only [Int.toNat_natCast, ha, hb]
          by_cases hlow : a.balance < amount
          · rw [hap, if_pos hlow]
            exact refapply_low l f g amount nonce sig a b A n c w B hn hl hr hz h1 h2 ha hb (by omega) (by simp [h3]) (by omega) (by omega) hlow
          · rw [hap, if_neg hlow]
            exact refapply_high l f g amount nonce sig a b A n c w B hn hl hr hz h1 h2 ha hb (by omega) (by simp [h3]) (by omega) (by omega) (by omega)
        · rw [if_neg h3] at hrd
          have hap : applyF l ⟨f, g, amount, nonce, sig⟩ = (l, 72) := by
            have : applyF l ⟨f, g, amount, nonce, sig⟩ = (l, readyF l ⟨f, g, amount, nonce, sig⟩) := if_neg (by rw [hrd]; decide)
            rw [this, hrd]
          exact refapply_nonce l f g amount nonce sig A n c w B hn hl hr hap hz a h1 h2 ha (by simp [h3])
      · have hap : applyF l ⟨f, g, amount, nonce, sig⟩ = (l, 9) := by
          have hrd : readyF l ⟨f, g, amount, nonce, sig⟩ = 9 := by simp [readyF, h2]
          have : applyF l ⟨f, g, amount, nonce, sig⟩ = (l, readyF l ⟨f, g, amount, nonce, sig⟩) := if_neg (by rw [hrd]; decide)
          rw [this, hrd]
        exact refapply_to l f g amount nonce sig A n c w B hn hl hr hap hz h1 (by omega)
    · have hap : applyF l ⟨f, g, amount, nonce, sig⟩ = (l, 9) := by
        have hrd : readyF l ⟨f, g, amount, nonce, sig⟩ = 9 := by simp [readyF, h1]
        have : applyF l ⟨f, g, amount, nonce, sig⟩ = (l, readyF l ⟨f, g, amount, nonce, sig⟩) := if_neg (by rw [hrd]; decide)
        rw [this, hrd]
      exact refapply_from l f g amount nonce sig A n c w B hn hl hr hap hz (by omega)
  · have hz : checkT t = 9 := if_neg hT
    have hap : applyF l t = (l, 9) := by
      have hrd : readyF l t = 9 := by simp [readyF, hT]
      have : applyF l t = (l, readyF l t) := if_neg (by rw [hrd]; decide)
      rw [this, hrd]
    exact refapply_bad l t A n c w B hn hl hr hap hz
theorem refaccounts_calls (w : World) : Calls Try.prog 39 #[] w fun e w' => (∃ v, e = .returned v ∧ kAccount.Own 69 w.heap.size w' w.heap.size v genesisF) ∧ Below w.heap.size w w' := by
  have b0 := alloc_new w (.cells #[.int .i64 250, .int .i64 0, .int .i64 250, .int .i64 0, .int .i64 250, .int .i64 0, .int .i64 250, .int .i64 0] 69)
  go_enter Try.func39, Try.ntmps39
  go_wp2_with fail
  refine bodyPost_ret (v := .slice (some ⟨w.heap.size, 0, none⟩) 4 4) (by simp [results, Try.results39, go_sem]) rfl ⟨⟨_, rfl, ?_⟩, bl_alloc (Below.refl _ _) _⟩
  exact own_of_block b0 (reps_of gen_ok) (Nat.le_refl _) rfl (by simp [maxLen])
theorem info3 : (Try.prog.info? 3).map (fun i => (i.zero, i.size, i.bytes)) = some (some (.int .i64 0), 1, 8) := by kernel_rfl
set_option maxHeartbeats 3200000 in
set_option maxRecDepth 100000 in
theorem reffold_calls (l : List Block) (A : Option Addr) (n c : Nat) (w : World) (B : Nat) (hn : n = l.length) (hl : l.length ≤ 2097152) (hT : txN l ≤ 2097152) (hr : kBlock.Row 79 B w A l) :
    Calls Try.prog 13 #[.slice A n c] w
      fun e w' => (∃ v ev, e = .returned (.tuple #[v, ev]) ∧ kAccount.Own 69 w.heap.size w' w.heap.size v (foldF l).1 ∧ Kd.int.Own 3 w.heap.size w' w.heap.size ev (foldF l).2) ∧ Below w.heap.size w w' := by
  subst hn
  obtain ⟨i0, hi, hz0, hz1, hz2⟩ := info_parts info3
  go_enter Try.func13, Try.ntmps13
  go_wp2_with (go_at_call 39; refine (refaccounts_calls _).mono ?_; rintro e w1 ⟨⟨v, rfl, own1⟩, b1⟩)
  go_loopw [4, 5, 6] (fun av ev kv w' => ∃ k : Nat, k ≤ l.length ∧ kv = .int .i64 k ∧ kAccount.Own 69 w.heap.size w' w.heap.size av (foldG (l.take k) (genesisF, [])).1 ∧ Kd.int.Own 3 w.heap.size w' w.heap.size ev (foldG (l.take k) (genesisF, [])).2 ∧ Below w.heap.size w w') (fun _ _ kv _ => l.length - (intOf kv).toNat)
  case atStart => exact ⟨0, by omega, rfl, by simpa [foldG] using own1, by simpa [foldG] using Kd.own_nil _ _ _ _ _, b1⟩
  case round =>
    clear own1 b1
    obtain ⟨k, h1, rfl, own, oerr, bel⟩ := hrel
    by_cases h : k < l.length
    · obtain ⟨b, hb⟩ : ∃ b, l[k]? = some b := ⟨_, List.getElem?_eq_getElem h⟩
      obtain ⟨ad, rfl, A6, c6, A7, c7, e0, e1, e2, e3, e4, e5, e6, e7, e8, hcond⟩ := kBlock_at hr hb
      obtain ⟨_, _, _, _, _, _, _, _, _, hl7, hm7, hr7, _⟩ := hcond
      have hstep := fold_step hb (genesisF, [])
      have hN := txN_step hb
      have hlen := fold_len (l.take k) (genesisF, [])
      generalize foldG (l.take k) (genesisF, []) = S at *
      have hg1 : S.1.length = 4 := by rw [hlen.1]; rfl
      have hg2 : S.2.length + b.txs.length ≤ 2097152 := by rw [hlen.2]; simp only [List.length_nil]; omega
      have HST := Lib.hid hstep
      have e7' := cell_below bel e7
      clear hstep hlen hN hb e0 e1 e2 e3 e4 e5 e6 e8
      go_wp2_with fail
      go_loopw [4, 5, 7] (fun av ev kv w' => ∃ j : Nat, j ≤ b.txs.length ∧ kv = .int .i64 j ∧ kAccount.Own 69 w.heap.size w' w.heap.size av (txsF (b.txs.take j) S).1 ∧ Kd.int.Own 3 w.heap.size w' w.heap.size ev (txsF (b.txs.take j) S).2 ∧ Below w.heap.size w w') (fun _ _ kv _ => b.txs.length - (intOf kv).toNat)
      case atStart => exact ⟨0, by omega, rfl, by simpa [txsF] using own, by simpa [txsF] using oerr, bel⟩
      case round =>
        clear own oerr bel e7'
        obtain ⟨j, g1, rfl, own, oerr, bel⟩ := hrel
        have e7' := cell_below bel e7
        by_cases hj : j < b.txs.length
        · obtain ⟨t, ht⟩ : ∃ t, b.txs[j]? = some t := ⟨_, List.getElem?_eq_getElem hj⟩
          obtain ⟨ad7, rfl, f0, f1, f2, f3, f4, _⟩ := kTx_at (Kd.row_below bel hr7) ht
          have hst := txs_step ht S
          have hlen := txs_len (b.txs.take j) S
          generalize txsF (b.txs.take j) S = T at *
          have hk1 : T.1.length ≤ 1048576 := by rw [hlen.1, hg1]; omega
          have hk2 : T.2.length + 1 ≤ 4194304 := by rw [hlen.2, List.length_take]; omega
          have HS := Lib.hid hst
          clear hst hlen ht
          obtain ⟨Aa, ca, rfl, _, _, rowa, _⟩ := Kd.own_row own
          obtain ⟨Ae, ce, rfl, _, _, rowe, _⟩ := Kd.own_row oerr
          have hek := apply_err T.1 t
          go_wp2_with (first
            | (go_at_call 11; refine (refapply_calls T.1 t Aa _ ca _ w.heap.size rfl hk1 rowa).mono ?_; rintro e w3 ⟨⟨v3, rfl, own3⟩, b3⟩; have bel3 := bl_trans bel b3; have own4 := own_acc (B' := w.heap.size) own3 bel.size; have bf := bl_alloc (Below.refl w3.heap.size w3) (.cells #[.int .i64 (applyF T.1 t).2] 3); have own5 := Kd.own_below own4 bf; have oerr5 := Kd.own_below (Kd.own_below oerr b3) bf; have bel5 := bl_trans bel3 bf)
            | (at_builtin; refine wpList_append_row _ rfl (.tmp 39) (.tmp 41) 35 rfl Kd.int w.heap.size w.heap.size 3 i0 _ 8 Try.underlying35 hi hz0 hz1 hz2 rfl (by decide) _ _ rfl oerr5 _ _ _ [(applyF T.1 t).2] rfl rfl (Kd.row_fresh1 ⟨rfl, hek⟩) (by simp only [List.length_singleton]; omega) (by decide) bel5.size (Nat.le_refl _) (by decide) ?_; intro v' w' own' grw at'; have own6 := Kd.own_keep own5 (Kd.own_keeps oerr5 grw (Nat.le_refl _) (by decide)); have bel6 := Kd.own_step bel5 oerr5 grw))
          go_roundw
          case rel => exact ⟨j + 1, by omega, by go_num, by rw [HS.out]; exact own6, by rw [HS.out]; exact own', bel6⟩
          case measure => simp [intOf]; omega
        · have hjj : j = b.txs.length := by omega
          subst hjj
          rw [List.take_of_length_le (Nat.le_refl _), ← HST.out] at own oerr
          go_wp2_with fail
          go_roundw
          case rel => exact ⟨k + 1, by omega, by go_num, own, oerr, bel⟩
          case measure => simp [intOf]; omega
    · have hk : k = l.length := by omega
      subst hk
      rw [List.take_of_length_le (Nat.le_refl _)] at own oerr
      go_wp2_with fail
      refine bodyPost_ret (v := .tuple #[u4, u5]) (by simp [results, Try.results13, go_sem]) rfl ⟨⟨u4, u5, rfl, own, oerr⟩, bel⟩
/-- What all transactions do, one behind the other, and whether each could be done. -/
def canStep (s : List Account × Bool) (t : Tx) : List Account × Bool := ((applyF s.1 t).1, s.2 && ((applyF s.1 t).2 != 9) && ((applyF s.1 t).2 != 72))
def canS (l : List Tx) (s : List Account × Bool) : List Account × Bool := l.foldl canStep s
theorem canS_step {l : List Tx} {k : Nat} {t : Tx} (h : l[k]? = some t) (s : List Account × Bool) : canS (l.take (k + 1)) s = canStep (canS (l.take k) s) t := by
  rw [List.take_add_one, h]
  simp [canS]
theorem canS_false : ∀ (l : List Tx) (s : List Account × Bool), s.2 = false → (canS l s).2 = false
  | [], s, h => h
  | t :: l, s, h => canS_false l (canStep s t) (by simp [canStep, h])
theorem canS_drop (l : List Tx) (k : Nat) (s : List Account × Bool) (h : (canS (l.take k) s).2 = false) : (canS l s).2 = false := by
  have e : canS l s = canS (l.drop k) (canS (l.take k) s) := by
    unfold canS
    rw [← List.foldl_append, List.take_append_drop]
  rw [e]
  exact canS_false _ _ h
theorem canS_len : ∀ (l : List Tx) (s : List Account × Bool), (canS l s).1.length = s.1.length
  | [], s => rfl
  | t :: l, s => by
    have := canS_len l (canStep s t)
    rw [show canS (t :: l) s = canS l (canStep s t) from rfl, this]
    exact apply_len _ _
set_option maxHeartbeats 1600000 in
set_option maxRecDepth 100000 in
theorem next_calls (a : List Account) (l : List Tx) (A A' : Option Addr) (n c n' c' : Nat) (w : World) (B B' : Nat) (hn : n = a.length) (hn' : n' = l.length) (ha : a.length ≤ 1048576) (hl : l.length ≤ 1048576) (hr : kAccount.Row 69 B w A a) (hr' : kTx.Row 24 B' w A' l) :
    Calls Try.prog 16 #[.slice A n c, .slice A' n' c'] w fun e w' => e = .returned (.bool (canS l (a, true)).2) ∧ Below w.heap.size w w' := by
  subst hn hn'
  go_enter Try.func16, Try.ntmps16
  go_wp2_with fail
  go_loopw [0, 11] (fun av kv w' => ∃ (k : Nat) (Ak : Option Addr) (ck Bk : Nat), k ≤ l.length ∧ kv = .int .i64 k ∧ av = .slice Ak (canS (l.take k) (a, true)).1.length ck ∧ kAccount.Row 69 Bk w' Ak (canS (l.take k) (a, true)).1 ∧ (canS (l.take k) (a, true)).2 = true ∧ Below w.heap.size w w') (fun _ kv _ => l.length - (intOf kv).toNat)
  case atStart => exact ⟨0, A, c, B, by omega, rfl, rfl, hr, rfl, Below.refl _ _⟩
  case round =>
    obtain ⟨k, Ak, ck, Bk, h1, rfl, rfl, rowk, hk, bel⟩ := hrel
    by_cases h : k < l.length
    · obtain ⟨t, ht⟩ : ∃ t, l[k]? = some t := ⟨_, List.getElem?_eq_getElem h⟩
      obtain ⟨ad, rfl, f0, f1, f2, f3, f4, _⟩ := kTx_at (Kd.row_below bel hr') ht
      have hst := canS_step ht (a, true)
      have hlen := canS_len (l.take k) (a, true)
      have hdr := canS_drop l (k + 1) (a, true)
      generalize canS (l.take k) (a, true) = S at *
      have hk1 : S.1.length ≤ 1048576 := by rw [hlen]; exact ha
      have hn1 : (applyF S.1 t).1.length = S.1.length := apply_len _ _
      clear hlen
      by_cases h9 : (applyF S.1 t).2 = 9 ∨ (applyF S.1 t).2 = 72
      · have hf : (canS l (a, true)).2 = false := by
          apply hdr
          rw [hst]
          unfold canStep
          rcases h9 with h9 | h9 <;> simp [h9]
        have HF := Lib.hid hf
        clear hf hst hdr hn1 hk ht
        rcases h9 with h9 | h9
        all_goals
          have H9 := Lib.hid h9
          clear h9
          go_wp2_with (go_at_call 10; refine (apply_calls S.1 t Ak _ ck _ Bk rfl hk1 (Kd.row_below (bl_alloc (Below.refl _ _) _) rowk)).mono ?_; rw [H9.out]; rintro e w3 ⟨⟨v3, rfl, own3⟩, b3⟩; have bt := bl_trans (bl_alloc (Below.refl wr.heap.size wr) _) b3; have bel3 := bl_trans bel bt)
          go_ret
          exact ⟨by rw [HF.out]; rfl, bel3⟩
      · have h9' : ((applyF S.1 t).2 == 9) = false := by simp; omega
        have h72' : ((applyF S.1 t).2 == 72) = false := by simp; omega
        have hs2 : canS (l.take (k + 1)) (a, true) = ((applyF S.1 t).1, true) := by
          rw [hst]
          unfold canStep
          simp [hk]
          omega
        have HS := Lib.hid hs2
        clear hst hdr hn1 hk ht h9 hs2
        go_wp2_with (go_at_call 10; refine (apply_calls S.1 t Ak _ ck _ Bk rfl hk1 (Kd.row_below (bl_alloc (Below.refl _ _) _) rowk)).mono ?_; rintro e w3 ⟨⟨v3, rfl, own3⟩, b3⟩; have bt := bl_trans (bl_alloc (Below.refl wr.heap.size wr) _) b3; have bel3 := bl_trans bel bt; obtain ⟨Aa, ca, rfl, _, _, rowa, _⟩ := Kd.own_row own3)
        go_roundw
        case rel => exact ⟨k + 1, Aa, ca, _, by omega, by go_num, by rw [HS.out], by rw [HS.out]; exact rowa, by rw [HS.out], bel3⟩
        case measure => simp [intOf]; omega
    · have hkk : k = l.length := by omega
      subst hkk
      rw [List.take_of_length_le (Nat.le_refl _)] at hk
      have HK := Lib.hid hk
      clear hk
      go_wp2_with fail
      go_ret
      exact ⟨by rw [HK.out]; rfl, bel⟩
theorem num16_calls (n : Int) (w : World) : Calls Try.prog 15 #[.int .i64 n] w fun e w' => e = .returned (.int .i64 n) ∧ w' = w := by
  go_enter Try.func15, Try.ntmps15
  go_wp2_with fail
  go_ret
  exact ⟨rfl, rfl⟩
end Go.Proofs.Ytflfpfaebndefab
