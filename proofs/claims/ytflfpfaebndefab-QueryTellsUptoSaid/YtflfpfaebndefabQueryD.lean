/- Package mootlaw28: the walk of QueryAdds. No claim of its own; no condition. -/
import Derived.Test.YtflfpfaebndefabQueryA
import Derived.Test.YtflfpfaebndefabBankV
namespace Go.Proofs.Ytflfpfaebndefab
open Go.ChangeShapes Go.WideShapes Go.ChangeAt Go.RowKit
set_option linter.unusedVariables false
set_option linter.unusedSimpArgs false
def okE (e : Int) : Bool := e == 0 || e == 73
structure Inv (s : BankS × List Entry) : Prop where
  len : s.1.1.length = 4
  non : ∀ (c : Nat) (a : Account), s.1.1[c]? = some a → a.nonce = ((doneF c s.2 + failF c s.2 : Nat) : Int)
  errs : s.1.2 = s.2.map (·.e)
  frm : ∀ x ∈ s.2, okE x.e = true → 0 ≤ x.tx.frm ∧ x.tx.frm < 4
theorem countP_snoc {α : Type} (p : α → Bool) (l : List α) (x : α) : (l ++ [x]).countP p = l.countP p + if p x then 1 else 0 := by
  rw [List.countP_append]; simp [List.countP_cons]
theorem inv_step {s : BankS × List Entry} (h : Inv s) (i : Nat) (t : Tx) : Inv (dStep i s t) := by
  obtain ⟨⟨L, es⟩, out⟩ := s
  have h1 := h.len
  have h2 := h.non
  simp only at h1 h2
  by_cases hz : readyF L t = 0
  · obtain ⟨f, g, a, b, e1, e2, hfg, h3, h4, ha, hb, hno, hT⟩ := readyF_zero hz
    have hap : applyF L t = if a.balance < t.amount then (L.set f ⟨a.balance, a.nonce + 1⟩, 73) else ((L.set f ⟨a.balance - t.amount, a.nonce + 1⟩).set g ⟨wrap64 (b.balance + t.amount), b.nonce⟩, 0) := by
      unfold applyF
      rw [if_pos hz, e1, e2]
      simp only [Int.toNat_natCast, ha, hb]
    have key : ∃ L' e, applyF L t = (L', e) ∧ L'.length = 4 ∧ (e = 0 ∨ e = 73) ∧ ∀ (c : Nat) (x : Account), L'[c]? = some x → (c = f → x.nonce = a.nonce + 1) ∧ (c ≠ f → ∃ y, L[c]? = some y ∧ x.nonce = y.nonce) := by
      rw [hap]
      split
      · refine ⟨_, _, rfl, by simpa using h1, .inr rfl, fun c x hx => ⟨fun hc => ?_, fun hc => ?_⟩⟩
        · subst hc
          rw [List.getElem?_set_self h3] at hx
          obtain rfl := Option.some.inj hx
          rfl
        · rw [List.getElem?_set_ne (fun e => hc e.symm)] at hx
          exact ⟨x, hx, rfl⟩
      · refine ⟨_, _, rfl, by simpa using h1, .inl rfl, fun c x hx => ⟨fun hc => ?_, fun hc => ?_⟩⟩
        · subst hc
          rw [List.getElem?_set_ne (fun e => hfg e.symm), List.getElem?_set_self h3] at hx
          obtain rfl := Option.some.inj hx
          rfl
        · by_cases hg : c = g
          · subst hg
            rw [List.getElem?_set_self (by simpa using h4)] at hx
            obtain rfl := Option.some.inj hx
            exact ⟨b, hb, rfl⟩
          · rw [List.getElem?_set_ne (fun e => hg e.symm), List.getElem?_set_ne (fun e => hc e.symm)] at hx
            exact ⟨x, hx, rfl⟩
    obtain ⟨L', e, hLe, hl', he, hx⟩ := key
    refine ⟨?_, ?_, ?_, ?_⟩
    · simpa [dStep, txStep, hLe] using hl'
    · intro c x hc
      simp only [dStep, txStep, hLe] at hc ⊢
      obtain ⟨p1, p2⟩ := hx c x hc
      rw [doneF, failF, countP_snoc, countP_snoc]
      by_cases hcf : c = f
      · rw [p1 hcf, h2 f a ha]
        subst hcf
        rcases he with rfl | rfl
        · simp [isDone, isFail, e1, doneF, failF]; omega
        · simp [isDone, isFail, e1, doneF, failF]; omega
      · obtain ⟨y, hy, hxy⟩ := p2 hcf
        rw [hxy, h2 c y hy]
        have hne : ¬ (t.frm = (c : Int)) := by omega
        simp [isDone, isFail, hne, doneF, failF]
    · have := h.errs
      simp only at this
      simp [dStep, txStep, this]
    · intro x hx hok
      simp only [dStep, List.mem_append, List.mem_singleton] at hx
      rcases hx with hx | rfl
      · exact h.frm x hx hok
      · unfold TxOk at hT
        exact hT.1
  · have hap : applyF L t = (L, readyF L t) := if_neg hz
    have hor : readyF L t = 9 ∨ readyF L t = 72 := by
      have : readyF L t = 0 ∨ readyF L t = 9 ∨ readyF L t = 72 := by
        unfold readyF
        split
        · split
          · split <;> simp
          · simp
        · simp
      rcases this with h | h | h
      · exact absurd h hz
      · exact .inl h
      · exact .inr h
    refine ⟨?_, ?_, ?_, ?_⟩
    · simpa [dStep, txStep, hap] using h1
    · intro c x hc
      simp only [dStep, txStep, hap] at hc ⊢
      rw [doneF, failF, countP_snoc, countP_snoc, h2 c x hc]
      rcases hor with h | h <;> simp [isDone, isFail, h, doneF, failF]
    · have := h.errs
      simp only at this
      simp [dStep, txStep, this]
    · intro x hx hok
      simp only [dStep, List.mem_append, List.mem_singleton] at hx
      rcases hx with hx | rfl
      · exact h.frm x hx hok
      · simp only [hap, okE] at hok
        rcases hor with h | h <;> simp [h] at hok
theorem inv_dT (i : Nat) : ∀ (l : List Tx) {s : BankS × List Entry}, Inv s → Inv (dT i l s)
  | [], s, h => h
  | t :: l, s, h => inv_dT i l (s := dStep i s t) (inv_step h i t)
theorem inv_dG : ∀ (l : List Block) (i : Nat) {s : BankS × List Entry}, Inv s → Inv (dG l i s)
  | [], i, s, h => h
  | b :: l, i, s, h => inv_dG l (i + 1) (s := dT i b.txs s) (inv_dT i b.txs h)
theorem inv_d0 : Inv d0 := ⟨rfl, fun c a ha => by
  obtain rfl : a = gen := by
    have := List.mem_of_getElem? ha
    simpa [d0, genesisF, half] using this
  simp [gen, d0, doneF, failF], rfl, fun x hx => by simp [d0] at hx⟩
def sumC (E : List Entry) : Nat → Nat
  | 0 => 0
  | c + 1 => sumC E c + doneF c E + failF c E
theorem sum_four (E : List Entry) (h : ∀ x ∈ E, okE x.e = true → 0 ≤ x.tx.frm ∧ x.tx.frm < 4) : sumC E 4 = (E.map (·.e)).countP okE := by
  induction E with
  | nil => simp [sumC, doneF, failF]
  | cons x E ih =>
    have h2 := ih fun y hy => h y (by simp [hy])
    have h3 := h x (by simp)
    simp only [sumC, doneF, failF, List.countP_cons, List.map_cons] at *
    generalize List.countP (isDone ((0 : Nat) : Int)) E = d0 at *
    generalize List.countP (isFail ((0 : Nat) : Int)) E = f0 at *
    generalize List.countP (isDone ((1 : Nat) : Int)) E = d1 at *
    generalize List.countP (isFail ((1 : Nat) : Int)) E = f1 at *
    generalize List.countP (isDone ((2 : Nat) : Int)) E = d2 at *
    generalize List.countP (isFail ((2 : Nat) : Int)) E = f2 at *
    generalize List.countP (isDone ((3 : Nat) : Int)) E = d3 at *
    generalize List.countP (isFail ((3 : Nat) : Int)) E = f3 at *
    generalize List.countP okE (List.map (fun x => x.e) E) = tt at *
    by_cases ho : okE x.e = true
    · obtain ⟨p1, p2⟩ := h3 ho
      have hf : x.tx.frm = 0 ∨ x.tx.frm = 1 ∨ x.tx.frm = 2 ∨ x.tx.frm = 3 := by omega
      have he : x.e = 0 ∨ x.e = 73 := by simpa [okE] using ho
      rcases hf with hf | hf | hf | hf <;> rcases he with he | he <;> simp [isDone, isFail, hf, he, okE] <;> omega
    · have hn : x.e ≠ 0 ∧ x.e ≠ 73 := by simpa [okE] using ho
      simp [isDone, isFail, hn.1, hn.2, okE]
      omega
theorem adds_pure (l : List Block) : (∀ (c : Nat) (a : Account), (foldF l).1[c]? = some a → a.nonce = ((doneF c (entsF l) + failF c (entsF l) : Nat) : Int)) ∧ sumC (entsF l) 4 = (foldF l).2.countP okE := by
  have h := inv_dG l 0 inv_d0
  have e1 : (dG l 0 d0).1 = foldF l := dG_fst l 0 d0
  rw [ents_eq]
  refine ⟨fun c a ha => h.non c a (by rw [e1]; exact ha), ?_⟩
  rw [sum_four _ h.frm, ← h.errs, e1]
theorem alive28_calls (w : World) : Calls Try.prog 31 #[] w fun e w' => e = .returned (.bool true) ∧ Below w.heap.size w w' := by
  have h := fun (B : Nat) (W : World) => ask_calls [] 2 gen none 0 0 W B rfl (by decide) (by decide) (Kd.row_nil _ _ _ _ _) (by decide) (by decide)
  go_enter Try.func31, Try.ntmps31
  go_wp2_with (go_at_call 32; refine (h 0 _).mono ?_; rintro e w1 ⟨rfl, b1⟩)
  go_ret
  exact ⟨rfl, bl_alloc b1 _⟩
theorem cnt_step {p : Int → Bool} {l : List Int} {k : Nat} {x : Int} (h : l[k]? = some x) : (l.take (k + 1)).countP p = (l.take k).countP p + (if p x then 1 else 0) := by
  rw [List.take_add_one, h, List.countP_append]; simp [List.countP_cons]
theorem sumC_mono (E : List Entry) (c : Nat) : sumC E c ≤ sumC E (c + 1) := by simp only [sumC]; omega
set_option maxHeartbeats 3200000 in
set_option maxRecDepth 100000 in
theorem queryadds_walk (l : List Block) (A : Option Addr) (c : Nat) (w : World) (hl : l.length ≤ 1048576) (hT : txN l ≤ 1048576) (hr : kBlock.Row 79 w.heap.size w A l) :
    Calls Try.prog 7 #[.slice A l.length c] w fun e w' => e = .returned (.bool true) ∧ Below w.heap.size w w' := by
  obtain ⟨hp1, hp2⟩ := adds_pure l
  have hfl := fold_len l (genesisF, [])
  obtain ⟨E, hE⟩ : ∃ E, E = entsF l := ⟨_, rfl⟩
  rw [← hE] at hp1 hp2
  have hlen : E.length = txN l := by rw [hE]; show (entG _ l 0 []).length = _; rw [entG_len]; simp
  have hEl : E.length ≤ 1048576 := by omega
  obtain ⟨F, hF⟩ : ∃ F, F = foldF l := ⟨_, rfl⟩
  have hf1 : F.1.length = 4 := by rw [hF]; show (foldG l (genesisF, [])).1.length = _; rw [hfl.1]; rfl
  have hf2 : F.2.length ≤ 1048576 := by rw [hF]; show (foldG l (genesisF, [])).2.length ≤ _; rw [hfl.2]; simpa using hT
  rw [← hF] at hp1 hp2
  have hcnt : sumC E 4 ≤ 1048576 := by rw [hp2]; exact Nat.le_trans List.countP_le_length hf2
  have HF := Lib.hid hF
  have HE := Lib.hid hE
  have HP1 := Lib.hid hp1
  have HP2 := Lib.hid hp2
  have HF1 := Lib.hid hf1
  clear hE hF hp1 hp2 hlen hfl hf1
  go_enter Try.func7, Try.ntmps7
  go_wp2_with (first
    | (go_at_call 31; refine (alive28_calls _).mono ?_; rintro e w1 ⟨rfl, b1⟩)
    | (go_at_call 13; refine (reffold_calls l A l.length c _ _ rfl (by omega) (by omega) (Kd.row_below b1 hr)).mono ?_; rw [← HF.out]; rintro e w3 ⟨⟨v3, ev3, rfl, own3, oer3⟩, b3⟩; obtain ⟨Ae, ce, rfl, _, _, rowe, _⟩ := Kd.own_row oer3))
  clear own3 oer3
  go_loopw [5, 6] (fun nv kv w' => ∃ k : Nat, k ≤ F.2.length ∧ kv = .int .i64 k ∧ nv = .int .i64 ((F.2.take k).countP okE : Nat) ∧ Below w3.heap.size w3 w') (fun _ kv _ => F.2.length - (intOf kv).toNat)
  case atStart => exact ⟨0, by omega, rfl, by simp, Below.refl _ _⟩
  case round =>
    obtain ⟨k, h1, rfl, rfl, bel⟩ := hrel
    by_cases h : k < F.2.length
    · obtain ⟨x, hx⟩ : ∃ x, F.2[k]? = some x := ⟨_, List.getElem?_eq_getElem h⟩
      obtain ⟨ad, cs, rfl, _, hK, hc⟩ := Kd.row_at (Kd.row_below bel rowe) hx
      obtain ⟨rfl, _⟩ := hK
      have e1 : wr.cell? (ad.add k) = some (.int .i64 x) := by simpa [Kd.int] using hc 0 _ rfl
      have hcs := cnt_step (p := okE) hx
      have hcl := List.countP_le_length (p := okE) (l := F.2.take k)
      rw [List.length_take] at hcl
      have hi : (k : Int) < (F.2.length : Int) := by omega
      generalize hN : (F.2.take k).countP okE = N at *
      clear hc hx hN
      by_cases h0 : x = 0
      · have d0 : (x == 0) = true := by simp [h0]
        have hcs2 : (F.2.take (k + 1)).countP okE = N + 1 := by rw [hcs]; simp [okE, h0]
        have HC := Lib.hid hcs2
        clear hcs hcs2 h0
        go_wp2_with fail
        go_roundw
        case rel => exact ⟨k + 1, by omega, by go_num, by rw [HC.out]; go_num, bel⟩
        case measure => simp [intOf]; omega
      · have d0 : (x == 0) = false := by simp [h0]
        by_cases h73 : x = 73
        · have d1 : (x == 73) = true := by simp [h73]
          have hcs2 : (F.2.take (k + 1)).countP okE = N + 1 := by rw [hcs]; simp [okE, h73]
          have HC := Lib.hid hcs2
          clear hcs hcs2 h0 h73
          go_wp2_with fail
          go_roundw
          case rel => exact ⟨k + 1, by omega, by go_num, by rw [HC.out]; go_num, bel⟩
          case measure => simp [intOf]; omega
        · have d1 : (x == 73) = false := by simp [h73]
          have hcs2 : (F.2.take (k + 1)).countP okE = N := by rw [hcs]; simp [okE, h0, h73]
          have HC := Lib.hid hcs2
          clear hcs hcs2 h0 h73
          go_wp2_with fail
          go_roundw
          case rel => exact ⟨k + 1, by omega, by go_num, by rw [HC.out], bel⟩
          case measure => simp [intOf]; omega
    · have hk : k = F.2.length := by omega
      subst hk
      rw [List.take_of_length_le (Nat.le_refl _)]
      have b4 := bl_trans b1 (bl_trans b3 bel)
      have hT0 : F.2.countP okE = sumC E 4 := HP2.out.symm
      rw [hT0]
      clear hT0
      go_wp2_with fail
      go_loopw [5, 7] (fun nv kv w' => ∃ k : Nat, k ≤ 4 ∧ kv = .int .i64 k ∧ nv = .int .i64 ((sumC E 4 : Int) - (sumC E k : Int)) ∧ sumC E k ≤ sumC E 4 ∧ Below wr.heap.size wr w') (fun _ kv _ => 4 - (intOf kv).toNat)
      case atStart => exact ⟨0, by omega, rfl, by simp [sumC], by simp [sumC], Below.refl _ _⟩
      case round =>
        obtain ⟨k, h1, rfl, rfl, hle, bel2⟩ := hrel
        by_cases h : k < 4
        · obtain ⟨a, ha⟩ : ∃ a, F.1[k]? = some a := ⟨_, List.getElem?_eq_getElem (by rw [HF1.out]; exact h)⟩
          have hno := HP1.out k a ha
          have ha2 : (foldF l).1[k]? = some a := by rw [← HF.out]; exact ha
          have hle4 : sumC E (k + 1) ≤ sumC E 4 := by
            have m0 := sumC_mono E 0
            have m1 := sumC_mono E 1
            have m2 := sumC_mono E 2
            have m3 := sumC_mono E 3
            have : k = 0 ∨ k = 1 ∨ k = 2 ∨ k = 3 := by omega
            rcases this with rfl | rfl | rfl | rfl <;> simp only [Nat.reduceAdd] at * <;> omega
          have hst : sumC E (k + 1) = sumC E k + doneF k E + failF k E := rfl
          rw [hst] at hle4
          have HA := Lib.hid ha2
          have hk4 : ((k : Int) < 4) := by omega
          obtain ⟨D, hD⟩ : ∃ D, D = doneF k E := ⟨_, rfl⟩
          obtain ⟨G, hG⟩ : ∃ G, G = failF k E := ⟨_, rfl⟩
          rw [← hD, ← hG] at hle4 hst hno
          have HD := Lib.hid hD
          have HG := Lib.hid hG
          have HST := Lib.hid hst
          have hd : (a.nonce != (D : Int) + (G : Int)) = false := by simp [hno]
          have b5 := bl_trans b4 bel2
          clear ha ha2 hst hD hG hno
          go_wp2_with (go_at_call 32; refine (ask_calls l k a A l.length c _ _ rfl (by omega) (by omega) (Kd.row_below b5 hr) h HA.out).mono ?_; rw [← HE.out, ← HD.out, ← HG.out]; rintro e w7 ⟨rfl, b7⟩)
          go_roundw
          case rel => exact ⟨k + 1, by omega, by go_num, by rw [HST.out]; go_num, by rw [HST.out]; exact hle4, bl_alloc (bl_trans bel2 b7) _⟩
          case measure => simp [intOf]; omega
        · have hk : k = 4 := by omega
          subst hk
          have hz : (((sumC E 4 : Int) - (sumC E 4 : Int)) == 0) = true := by simp
          go_wp2_with fail
          go_ret
          exact ⟨by simp, bl_trans b4 bel2⟩
end Go.Proofs.Ytflfpfaebndefab
