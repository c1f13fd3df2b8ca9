/- Regions that draw their order, with a tail: each operation at a frame that is a letter. No claim of its own; no condition. -/
import Derived.Test.YtcbfpdenjdgnlaaGreatQt14
import Derived.Test.YtcbfpdenjdgnlaaGreatQt20
namespace Go.Proofs.YtcbfpdenjdgnlaaGreat
set_option linter.unusedVariables false
variable {P : Program} {md : Region.Mode}
/-- No operation that the mask names writes a slot. -/
def notD : List Bool → List Oper → Nat → Bool
  | true :: ms, o :: l, s => o.dst != some s && notD ms l s
  | false :: ms, _ :: l, s => notD ms l s
  | _, _, _ => true
theorem frameM_old : ∀ (ms : List Bool) (l : List Oper) (k : Nat) (a : Act) (u : Nat → Value) (s : Nat), notD ms l s = true → (frameM ms l k a u).tmps[s]? = a.tmps[s]?
  | [], l, _, _, _, _, _ => by cases l <;> rfl
  | b :: _, [], _, _, _, _, _ => by cases b <;> rfl
  | false :: ms, o :: l, k, a, u, s, h => frameM_old ms l (k + 1) a u s h
  | true :: ms, o :: l, k, a, u, s, h => by
    simp only [notD, Bool.and_eq_true] at h
    show (frameM ms l (k + 1) (a.put o.dst (u k)) u).tmps[s]? = _
    rw [frameM_old ms l (k + 1) _ u s h.2]
    have h1 : o.dst ≠ some s := by simpa using h.1
    cases hd : o.dst with
    | none => rfl
    | some d =>
      rw [hd] at h1
      show (a.tmps.setIfInBounds d (u k))[s]? = _
      exact Array.getElem?_setIfInBounds_ne (fun e => h1 (by rw [e]))
theorem notD_of : ∀ (ms : List Bool) (l : List Oper) (s : Nat), (l.all fun o => o.dst != some s) = true → notD ms l s = true
  | [], l, _, _ => by cases l <;> rfl
  | b :: _, [], _, _ => by cases b <;> rfl
  | false :: ms, o :: l, s, h => by
    rw [List.all_cons, Bool.and_eq_true] at h
    exact notD_of ms l s h.2
  | true :: ms, o :: l, s, h => by
    rw [List.all_cons, Bool.and_eq_true] at h
    simp only [notD, Bool.and_eq_true]
    exact ⟨h.1, notD_of ms l s h.2⟩
theorem frameM_get : ∀ (ms : List Bool) (l : List Oper) (k : Nat) (a : Act) (u : Nat → Value), onceB l = true → ∀ (i : Nat) (o : Oper) (s : Nat), l[i]? = some o → ms[i]? = some true → o.dst = some s → s < a.tmps.size → (frameM ms l k a u).tmps[s]? = some (u (k + i))
  | [], _, _, _, _, _, _, _, _, _, hm, _, _ => by cases hm
  | _ :: _, [], _, _, _, _, _, _, _, hi, _, _, _ => by cases hi
  | b :: ms, o0 :: l, k, a, u, hB, 0, o, s, hi, hm, hd, hs => by
    cases hi
    cases hm
    simp only [onceB, Bool.and_eq_true] at hB
    show (frameM ms l (k + 1) (a.put o0.dst (u k)) u).tmps[s]? = _
    rw [frameM_old ms l (k + 1) _ u s (notD_of ms l s (by have := hB.1; rw [hd] at this; exact this)), hd]
    show (a.tmps.setIfInBounds s (u k))[s]? = _
    rw [Array.getElem?_setIfInBounds_self]
    simp [hs]
  | false :: ms, o0 :: l, k, a, u, hB, i + 1, o, s, hi, hm, hd, hs => by
    simp only [onceB, Bool.and_eq_true] at hB
    show (frameM ms l (k + 1) a u).tmps[s]? = _
    rw [frameM_get ms l (k + 1) _ u hB.2 i o s (by simpa using hi) (by simpa using hm) hd hs, show k + 1 + i = k + (i + 1) by omega]
  | true :: ms, o0 :: l, k, a, u, hB, i + 1, o, s, hi, hm, hd, hs => by
    simp only [onceB, Bool.and_eq_true] at hB
    show (frameM ms l (k + 1) (a.put o0.dst (u k)) u).tmps[s]? = _
    rw [frameM_get ms l (k + 1) _ u hB.2 i o s (by simpa using hi) (by simpa using hm) hd (by rw [put_size]; exact hs), show k + 1 + i = k + (i + 1) by omega]
/-- Each operation that the mask names, once; its frame a letter. -/
def InvStepsMA (P : Program) (md : Region.Mode) (ops : Array Oper) (R : World → World → Prop) (φ : Nat → Value → World → Prop) (l0 : List Oper) (ms0 : List Bool) (a0 : Act) (w0 : World) (Q : Exit → Act → World → Prop) : Nat → List Bool → List Oper → Prop
  | k, true :: ms, o :: l => (∀ (A : Act) (u : Nat → Value), (∀ (i : Nat) (o' : Oper) (s : Nat), l0[i]? = some o' → o'.dst = some s → (Nat.blt s a0.tmps.size && ms0[i]? == some true) = true → A.tmps[s]? = some (u i)) →
      (∀ (s : Nat) (v : Value), notD ms0 l0 s = true → a0.tmps[s]? = some v → A.tmps[s]? = some v) → ∀ (w1 : World), R w0 w1 → (∀ j, (o.after.any fun e => Region.binds md e && (e.on == j && ms0.getD j false)) = true → ∀ w', R w1 w' → φ j (u j) w') →
      ∀ K : Act → World → Prop, (∀ v w2, R w1 w2 → (∀ w3, R w2 w3 → φ k v w3) → K (A.put o.dst v) w2) →
        if Region.wanted o (yielded ops A.tmps) = true then Oper.wp P o A w1 K Q else K (A.put o.dst undef) w1) ∧ InvStepsMA P md ops R φ l0 ms0 a0 w0 Q (k + 1) ms l
  | k, false :: ms, _ :: l => InvStepsMA P md ops R φ l0 ms0 a0 w0 Q (k + 1) ms l
  | _, _, _ => True
theorem invStepsM_of {ops : Array Oper} {R : World → World → Prop} {φ : Nat → Value → World → Prop} {l0 : List Oper} {ms0 : List Bool} {a0 : Act} (hB : onceB l0 = true) {w0 : World} {Q : Exit → Act → World → Prop} : ∀ (k : Nat) (ms : List Bool) (l : List Oper), InvStepsMA P md ops R φ l0 ms0 a0 w0 Q k ms l → InvStepsM P md ops R φ (frameM ms0 l0 0 a0) ms0 w0 Q k ms l
  | _, [], _, _ => by unfold InvStepsM; trivial
  | _, b :: _, [], _ => by cases b <;> (unfold InvStepsM; trivial)
  | k, false :: ms, _ :: l, h => invStepsM_of hB (k + 1) ms l h
  | k, true :: ms, o :: l, h => ⟨fun u w1 hR hd K hK => h.1 (frameM ms0 l0 0 a0 u) u (fun i o' s h1 h2 h3 => by
      simp only [Bool.and_eq_true, beq_iff_eq] at h3
      have := frameM_get ms0 l0 0 a0 u hB i o' s h1 h3.2 h2 (by simpa using h3.1)
      rwa [Nat.zero_add] at this) (fun s v h1 h2 => (frameM_old ms0 l0 0 a0 u s h1).trans h2) w1 hR (fun j hj => hd j hj) K hK, invStepsM_of hB (k + 1) ms l h.2⟩
/-- **The rule**, each frame a letter. -/
theorem wpAny_invtA {fuel : Nat} {Q : Exit → Act → World → Prop} {a0 : Act} {w0 : World} {l : List Oper} {listed0 : Array Bool} (ms : List Bool) (T : List Nat) (hB : invtB md l ms T listed0 = true) (hfu : decide (unlistedM l.length ms listed0 + T.length ≤ fuel) = true) (R : World → World → Prop) (φ : Nat → Value → World → Prop) (hR : ∀ w, R w w) (hT : ∀ a b c, R a b → R b c → R a c)
    (hs : InvStepsMA P md l.toArray R φ l ms a0 w0 Q 0 ms l) (hd : ∀ u w, R w0 w → (∀ i, ms.getD i false = true → φ i (u i) w) → wpList P l.toArray Q (pickT l T) (frameM ms l 0 a0 u) w) :
    wpAny P md l.toArray Q fuel listed0 a0 w0 :=
  wpAny_invt' ms T hB hfu R φ hR hT (invStepsM_of (by unfold invtB at hB; exact (Bool.and_eq_true _ _ ▸ hB).1) 0 ms l hs) hd
end Go.Proofs.YtcbfpdenjdgnlaaGreat
/- Regions that draw their order, with a tail, and with operations that compute alone and may come behind the tail's first: these are taken as soon as they may. No claim of its own; no condition. -/
namespace Go.Proofs.YtcbfpdenjdgnlaaGreat
set_option linter.unusedVariables false
section
variable {P : Program} {md : Region.Mode}
/-- What an operation is told: its frame's slots, the world, what it waits for. -/
def Told (md : Region.Mode) (R : World → World → Prop) (φ : Nat → Value → World → Prop) (l0 : List Oper) (ms0 : List Bool) (a0 : Act) (w0 : World) (o : Oper) (A : Act) (u : Nat → Value) (w1 : World) : Prop :=
  (∀ (i : Nat) (o' : Oper) (s : Nat), l0[i]? = some o' → o'.dst = some s → (Nat.blt s a0.tmps.size && ms0[i]? == some true) = true → A.tmps[s]? = some (u i)) ∧
  (∀ (s : Nat) (v : Value), notD ms0 l0 s = true → a0.tmps[s]? = some v → A.tmps[s]? = some v) ∧ R w0 w1 ∧
  (∀ j, (o.after.any fun e => Region.binds md e && (e.on == j && ms0.getD j false)) = true → ∀ w', R w1 w' → φ j (u j) w')
def InvStepsL (P : Program) (md : Region.Mode) (ops : Array Oper) (R : World → World → Prop) (φ : Nat → Value → World → Prop) (l0 : List Oper) (ms0 : List Bool) (a0 : Act) (w0 : World) (Q : Exit → Act → World → Prop) : Nat → List Bool → List Bool → List Oper → Prop
  | k, true :: ms, true :: ls, o :: l => (∀ (A : Act) (u : Nat → Value) (w1 : World), Told md R φ l0 ms0 a0 w0 o A u w1 → ∃ v, (∀ w2, R w1 w2 → φ k v w2) ∧ Yields P ops o v A) ∧ InvStepsL P md ops R φ l0 ms0 a0 w0 Q (k + 1) ms ls l
  | k, true :: ms, false :: ls, o :: l => (∀ (A : Act) (u : Nat → Value) (w1 : World), Told md R φ l0 ms0 a0 w0 o A u w1 →
      ∀ K : Act → World → Prop, (∀ v w2, R w1 w2 → (∀ w3, R w2 w3 → φ k v w3) → K (A.put o.dst v) w2) →
        if Region.wanted o (yielded ops A.tmps) = true then Oper.wp P o A w1 K Q else K (A.put o.dst undef) w1) ∧ InvStepsL P md ops R φ l0 ms0 a0 w0 Q (k + 1) ms ls l
  | k, false :: ms, _ :: ls, _ :: l => InvStepsL P md ops R φ l0 ms0 a0 w0 Q (k + 1) ms ls l
  | _, _, _, _ => True
theorem InvStepsL.rest {ops : Array Oper} {R : World → World → Prop} {φ : Nat → Value → World → Prop} {l0 : List Oper} {ms0 : List Bool} {a0 : Act} {w0 : World} {Q : Exit → Act → World → Prop} {k : Nat} {b c : Bool} {ms ls : List Bool} {o : Oper} {l : List Oper}
    (h : InvStepsL P md ops R φ l0 ms0 a0 w0 Q k (b :: ms) (c :: ls) (o :: l)) : InvStepsL P md ops R φ l0 ms0 a0 w0 Q (k + 1) ms ls l := by
  cases b <;> cases c
  · exact h
  · exact h
  · exact h.2
  · exact h.2
theorem InvStepsL.late {ops : Array Oper} {R : World → World → Prop} {φ : Nat → Value → World → Prop} {l0 : List Oper} {ms0 : List Bool} {a0 : Act} {w0 : World} {Q : Exit → Act → World → Prop} : ∀ {ms ls : List Bool} {l : List Oper} {k : Nat}, InvStepsL P md ops R φ l0 ms0 a0 w0 Q k ms ls l →
    ∀ (i : Nat) (o : Oper), l[i]? = some o → ms[i]? = some true → ls[i]? = some true → ∀ (A : Act) (u : Nat → Value) (w1 : World), Told md R φ l0 ms0 a0 w0 o A u w1 → ∃ v, (∀ w2, R w1 w2 → φ (k + i) v w2) ∧ Yields P ops o v A
  | [], _, _, _, _, i, _, _, hm, _ => by cases hm
  | _ :: _, [], _, _, _, i, _, _, _, hl => by cases hl
  | _ :: _, _ :: _, [], _, _, i, _, hi, _, _ => by cases hi
  | b :: ms, c :: ls, o0 :: l, k, h, 0, o, hi, hm, hl => by cases hi; cases hm; cases hl; exact h.1
  | b :: ms, c :: ls, o0 :: l, k, h, i + 1, o, hi, hm, hl => by
    have := InvStepsL.late h.rest i o (by simpa using hi) (by simpa using hm) (by simpa using hl)
    rwa [show k + 1 + i = k + (i + 1) by omega] at this
theorem InvStepsL.mid {ops : Array Oper} {R : World → World → Prop} {φ : Nat → Value → World → Prop} {l0 : List Oper} {ms0 : List Bool} {a0 : Act} {w0 : World} {Q : Exit → Act → World → Prop} : ∀ {ms ls : List Bool} {l : List Oper} {k : Nat}, InvStepsL P md ops R φ l0 ms0 a0 w0 Q k ms ls l →
    ∀ (i : Nat) (o : Oper), l[i]? = some o → ms[i]? = some true → ls[i]? = some false → ∀ (A : Act) (u : Nat → Value) (w1 : World), Told md R φ l0 ms0 a0 w0 o A u w1 →
      ∀ K : Act → World → Prop, (∀ v w2, R w1 w2 → (∀ w3, R w2 w3 → φ (k + i) v w3) → K (A.put o.dst v) w2) →
        if Region.wanted o (yielded ops A.tmps) = true then Oper.wp P o A w1 K Q else K (A.put o.dst undef) w1
  | [], _, _, _, _, i, _, _, hm, _ => by cases hm
  | _ :: _, [], _, _, _, i, _, _, _, hl => by cases hl
  | _ :: _, _ :: _, [], _, _, i, _, hi, _, _ => by cases hi
  | b :: ms, c :: ls, o0 :: l, k, h, 0, o, hi, hm, hl => by cases hi; cases hm; cases hl; exact h.1
  | b :: ms, c :: ls, o0 :: l, k, h, i + 1, o, hi, hm, hl => by
    have := InvStepsL.mid h.rest i o (by simpa using hi) (by simpa using hm) (by simpa using hl)
    rwa [show k + 1 + i = k + (i + 1) by omega] at this
/-- Apart from each that it does not wait for and that does not wait for it. -/
def farB (md : Region.Mode) (ops : Array Oper) (i : Nat) : Bool :=
  match ops[i]? with
  | none => false
  | some oi => (List.range ops.size).all fun j => j == i || oi.after.any (fun e => Region.binds md e && e.on == j) || match ops[j]? with
      | some oj => oj.after.any (fun e => Region.binds md e && e.on == i) || oi.apart ops oj
      | none => true
theorem farB_spec {ops : Array Oper} {i : Nat} {oi : Oper} (hi : ops[i]? = some oi) (h : farB md ops i = true) (j : Nat) (oj : Oper)
    (hj : ops[j]? = some oj) (hne : j ≠ i) (hun : ∀ e ∈ oi.after, Region.binds md e = true → e.on ≠ j) (hno : ∀ e ∈ oj.after, Region.binds md e = true → e.on ≠ i) :
    oi.apart ops oj = true := by
  simp only [farB, hi, List.all_eq_true, List.mem_range] at h
  have h1 := h j (Array.getElem?_eq_some_iff.1 hj).1
  have h2 : oi.after.any (fun e => Region.binds md e && e.on == j) = false := by
    cases hx : oi.after.any (fun e => Region.binds md e && e.on == j) with
    | false => rfl
    | true =>
      obtain ⟨e, he, hb⟩ := Array.any_eq_true'.1 hx
      simp only [Bool.and_eq_true, beq_iff_eq] at hb
      exact absurd hb.2 (hun e he hb.1)
  have h3 : oj.after.any (fun e => Region.binds md e && e.on == i) = false := by
    cases hx : oj.after.any (fun e => Region.binds md e && e.on == i) with
    | false => rfl
    | true =>
      obtain ⟨e, he, hb⟩ := Array.any_eq_true'.1 hx
      simp only [Bool.and_eq_true, beq_iff_eq] at hb
      exact absurd hb.2 (hno e he hb.1)
  rw [hj, h2] at h1
  dsimp only at h1
  rw [h3] at h1
  simpa [hne] using h1
/-- All that the rule asks of a region's text. -/
def invlB (md : Region.Mode) (l : List Oper) (ms ls : List Bool) (T : List Nat) (listed : Array Bool) : Bool :=
  onceB l && (Region.noSelect l.toArray && (decide (ms.length = l.length) && (decide (ls.length = l.length) && (decide (listed.size = l.length) &&
  ((List.range l.length).all (fun i => match ms.getD i false with
    | true => !listed.getD i true && (!T.contains i && ((if ls.getD i false then farB md l.toArray i else ((List.range l.length).any fun j => decide (i < j) && (Region.waitsFor md l.toArray j i && ((ms.getD j false && !ls.getD j false) || T.head? == some j)))) &&
        match l[i]? with
        | some o => o.after.all fun e => !Region.binds md e || (decide (e.on < i) && !T.contains e.on)
        | none => false))
    | false => if T.contains i then !listed.getD i true else listed.getD i false) &&
  ((List.range l.length).all (fun j => !listed.getD j false || match l[j]? with
    | some o => o.after.all fun e => !Region.binds md e || listed.getD e.on false
    | none => true) &&
  ((List.range T.length).all (fun k => decide (k = 0) || Region.waitsFor md l.toArray (T.getD k 0) (T.getD (k - 1) 0)) &&
  seqT md l.toArray T ((List.range l.length).map fun i => !T.contains i).toArray)))))))
variable {l : List Oper} {ms ls : List Bool} {T : List Nat} {listed0 : Array Bool}
theorem invl_head (hB : invlB md l ms ls T listed0 = true) {i : Nat} (hi : i < l.length) (hm : ms.getD i false = true) :
    listed0.getD i true = false ∧ T.contains i = false ∧ (if ls.getD i false then farB md l.toArray i = true else ∃ j, j < l.length ∧ i < j ∧ Region.waitsFor md l.toArray j i = true ∧ ((ms.getD j false = true ∧ ls.getD j false = false) ∨ T.head? = some j)) ∧
    ∃ o, l[i]? = some o ∧ ∀ e ∈ o.after, Region.binds md e = true → e.on < i ∧ T.contains e.on = false := by
  simp only [invlB, Bool.and_eq_true, decide_eq_true_eq] at hB
  have h := List.all_eq_true.1 hB.2.2.2.2.2.1 i (List.mem_range.2 hi)
  rw [hm] at h
  simp only [Bool.and_eq_true, Bool.not_eq_true'] at h
  obtain ⟨h1, h2, h3, h4⟩ := h
  refine ⟨h1, h2, ?_, ?_⟩
  · cases hl : ls.getD i false with
    | true =>
      rw [hl] at h3
      simpa using h3
    | false =>
      rw [hl] at h3
      simp only [Bool.false_eq_true, if_false] at h3 ⊢
      obtain ⟨j, hj, hj2⟩ := List.any_eq_true.1 h3
      simp only [Bool.and_eq_true, decide_eq_true_eq, Bool.or_eq_true, beq_iff_eq, Bool.not_eq_true'] at hj2
      exact ⟨j, List.mem_range.1 hj, hj2.1, hj2.2.1, hj2.2.2⟩
  · cases ho : l[i]? with
    | none => rw [ho] at h4; cases h4
    | some o =>
      rw [ho] at h4
      refine ⟨o, rfl, fun e he hb => ?_⟩
      have := Array.all_eq_true_iff_forall_mem.1 h4 e he
      simpa [hb] using this
/-- As long as one of the middle that is not late has not come up, none of the tail may. -/
theorem invl_wait (hB : invlB md l ms ls T listed0 = true) {listed : Array Bool} (inv : MInv md l ms T listed) : ∀ (d i : Nat), l.length - i = d → i < l.length → ms.getD i false = true → ls.getD i false = false → listed.getD i true = false →
    ∀ t ∈ Region.ready md l.toArray listed, T.contains t = false := by
  intro d
  induction d using Nat.strongRecOn with
  | _ d ih =>
    intro i hd hi hm hll hun t ht
    obtain ⟨_, _, hj0, _⟩ := invl_head hB hi hm
    rw [hll] at hj0
    simp only [Bool.false_eq_true, if_false] at hj0
    obtain ⟨j, hjl, hij, hw, hj⟩ := hj0
    obtain ⟨oj, hoj, e, he, hb, hon⟩ := Region.waitsFor_spec hw
    have hoj' : l[j]? = some oj := by simpa using hoj
    have no : ¬ listed.getD e.on false = true := by rw [hon, getD_both hun]; simp
    rcases hj with ⟨hj, hj'⟩ | hj
    · cases hl : listed.getD j false with
      | true => exact absurd (inv.closed j oj hoj' hl e he hb) no
      | false => exact ih (l.length - j) (by omega) j rfl hjl hj hj' (getD_in (by rw [inv.size]; omega) hl) t ht
    · cases hc : T.contains t with
      | false => rfl
      | true =>
        exfalso
        have htm := List.contains_iff_mem.1 hc
        obtain ⟨_, ot, hot, hall⟩ := mem_ready.1 ht
        have htl : t < l.length := by have := (Array.getElem?_eq_some_iff.1 hot).1; simpa using this
        obtain ⟨k, hk, hkt⟩ := List.getElem_of_mem htm
        by_cases hk0 : k = 0
        · subst hk0
          have h0 : T.head? = some t := by rw [List.head?_eq_getElem?, List.getElem?_eq_getElem hk, hkt]
          cases h0.symm.trans hj
          cases hot.symm.trans hoj
          exact no (hall e he hb)
        · simp only [invlB, Bool.and_eq_true, decide_eq_true_eq] at hB
          have h1 := List.all_eq_true.1 hB.2.2.2.2.2.2.2.1 k (List.mem_range.2 hk)
          rw [Bool.or_eq_true, decide_eq_true_eq] at h1
          have h2 := h1.resolve_left hk0
          rw [List.getD_eq_getElem?_getD, List.getElem?_eq_getElem hk, Option.getD_some, hkt] at h2
          obtain ⟨o', ho', e', he', hb', hon'⟩ := Region.waitsFor_spec h2
          cases ho'.symm.trans hot
          have h3 := hall e' he' hb'
          have hkm : T.getD (k - 1) 0 ∈ T := by
            rw [List.getD_eq_getElem?_getD, List.getElem?_eq_getElem (by omega), Option.getD_some]
            exact List.getElem_mem _
          have hlt : e'.on < listed.size := by
            rcases Nat.lt_or_ge e'.on listed.size with h | h
            · exact h
            · simp [Array.getElem?_eq_none h] at h3
          rw [hon'] at h3 hlt
          have h4 := inv.noT _ hkm (by rw [← inv.size]; exact hlt)
          rw [getD_both h4] at h3
          cases h3
/-- One of the middle that may come up, as long as one has not; and one that is not late, where no late one may. -/
theorem invl_some (hB : invlB md l ms ls T listed0 = true) {listed : Array Bool} (inv : MInv md l ms T listed) : ∀ (i : Nat), i < l.length → ms.getD i false = true → listed.getD i true = false → ∃ j, j < l.length ∧ ms.getD j false = true ∧ listed.getD j true = false ∧ j ∈ Region.ready md l.toArray listed := by
  intro i
  induction i using Nat.strongRecOn with
  | _ i ih =>
    intro hi hm hun
    obtain ⟨_, _, _, o, ho, hdep⟩ := invl_head hB hi hm
    by_cases hall : ∀ e ∈ o.after, Region.binds md e = true → listed.getD e.on false = true
    · exact ⟨i, hi, hm, hun, mem_ready.2 ⟨hun, o, by simpa using ho, hall⟩⟩
    · obtain ⟨e, he⟩ := Classical.not_forall.1 hall
      obtain ⟨he1, he2⟩ := Classical.not_imp.1 he
      obtain ⟨hb, hne⟩ := Classical.not_imp.1 he2
      obtain ⟨hlt, hc⟩ := hdep e he1 hb
      have hf : listed.getD e.on false = false := by simpa using hne
      have hme : ms.getD e.on false = true := by
        cases hx : ms.getD e.on false with
        | true => rfl
        | false => rw [inv.pre e.on (by omega) hx hc] at hf; cases hf
      exact ih e.on hlt (by omega) hme (getD_in (by rw [inv.size]; omega) hf)
theorem getD_opt {ms : List Bool} {i : Nat} (h : ms.getD i false = true) : ms[i]? = some true := by
  rw [List.getD_eq_getElem?_getD] at h
  cases hx : ms[i]? with
  | none => rw [hx] at h; cases h
  | some b => rw [hx] at h; exact congrArg some h
theorem getD_optF {ms : List Bool} {i n : Nat} (hn : ms.length = n) (hi : i < n) (h : ms.getD i false = false) : ms[i]? = some false := by
  rw [List.getD_eq_getElem?_getD] at h
  rw [List.getElem?_eq_getElem (by omega)] at h ⊢
  exact congrArg some h
theorem wpAny_invl {R : World → World → Prop} {φ : Nat → Value → World → Prop} {Q : Exit → Act → World → Prop} {a0 : Act} {w0 : World} (hB : invlB md l ms ls T listed0 = true) (hR : ∀ w, R w w) (hT : ∀ a b c, R a b → R b c → R a c)
    (hQ : ∀ c a d v w, Q (.panic c) (Act.put a d v) w → Q (.panic c) a w)
    (hs : InvStepsL P md l.toArray R φ l ms a0 w0 Q 0 ms ls l) (hd : ∀ u w, R w0 w → (∀ i, ms.getD i false = true → φ i (u i) w) → wpList P l.toArray Q (pickT l T) (frameM ms l 0 a0 u) w) :
    ∀ (fuel : Nat) (listed : Array Bool) (u : Nat → Value) (w : World), MInv md l ms T listed → unlistedM l.length ms listed + T.length ≤ fuel → R w0 w →
      (∀ i, i < l.length → ms.getD i false = true → listed.getD i false = true → Later R φ i (u i) w) → wpAny P md l.toArray Q fuel listed (frameM ms l 0 a0 u) w := by
  have hB' := hB
  simp only [invlB, Bool.and_eq_true, decide_eq_true_eq] at hB'
  obtain ⟨hO, hsel, hml, hll, _, _, _, _, hseq⟩ := hB'
  have fin : ∀ (fuel : Nat) (listed : Array Bool) (u : Nat → Value) (w : World), MInv md l ms T listed → T.length ≤ fuel → R w0 w → (∀ i, i < l.length → ms.getD i false = true → listed.getD i false = true) →
      (∀ i, i < l.length → ms.getD i false = true → listed.getD i false = true → Later R φ i (u i) w) → wpAny P md l.toArray Q fuel listed (frameM ms l 0 a0 u) w := fun fuel listed u w inv hf hw hall hl => by
    have e : listed = ((List.range l.length).map fun i => !T.contains i).toArray := by
      apply Array.ext
      · simp [inv.size]
      · intro i h1 h2
        have hil : i < l.length := by rw [← inv.size]; exact h1
        simp only [List.getElem_toArray, List.getElem_map, List.getElem_range]
        cases hc : T.contains i with
        | true =>
          have := inv.noT i (List.contains_iff_mem.1 hc) hil
          simpa [h1] using this
        | false =>
          have : listed.getD i false = true := by
            cases hx : ms.getD i false with
            | true => exact hall i hil hx
            | false => exact inv.pre i hil hx hc
          simpa [h1] using this
    refine wpAny_tail T listed fuel _ w hf (by rw [e]; exact hseq) (tailW_of T _ _ (hd u w hw fun i hi => ?_))
    have hil : i < l.length := by
      rw [← hml]
      rcases Nat.lt_or_ge i ms.length with h | h
      · exact h
      · rw [List.getD_eq_getElem?_getD, List.getElem?_eq_none h] at hi; cases hi
    exact hl i hil hi (hall i hil hi) w (hR w)
  intro fuel
  induction fuel with
  | zero =>
    intro listed u w inv hf hw hl
    refine fin 0 listed u w inv (by omega) hw (fun i hi hm => ?_) hl
    cases hx : listed.getD i false with
    | true => rfl
    | false =>
      exfalso
      have : 0 < unlistedM l.length ms listed := List.countP_pos_iff.2 ⟨i, List.mem_range.2 hi, by rw [hm, getD_in (by rw [inv.size]; omega) hx]; rfl⟩
      omega
  | succ fuel ih =>
    intro listed u w inv hf hw hl
    by_cases hall : ∀ i, i < l.length → ms.getD i false = true → listed.getD i false = true
    · exact fin (fuel + 1) listed u w inv (by omega) hw hall hl
    · obtain ⟨i0, h0⟩ := Classical.not_forall.1 hall
      obtain ⟨hi0, h0⟩ := Classical.not_imp.1 h0
      obtain ⟨hm0, h0⟩ := Classical.not_imp.1 h0
      have hun0 : listed.getD i0 true = false := getD_in (by rw [inv.size]; omega) (by simpa using h0)
      -- what any operation of the middle that may come up is told
      have told : ∀ (i : Nat) (o : Oper), i ∈ Region.ready md l.toArray listed → l[i]? = some o → Told md R φ l ms a0 w0 o (frameM ms l 0 a0 u) u w := fun i o hi h2 => by
        obtain ⟨_, o', h2', h3⟩ := mem_ready.1 hi
        have h2'' : l[i]? = some o' := by simpa using h2'
        cases h2''.symm.trans h2
        refine ⟨fun i' o' s k1 k2 k3 => ?_, fun s v k1 k2 => (frameM_old ms l 0 a0 u s k1).trans k2, hw, fun j hj => ?_⟩
        · simp only [Bool.and_eq_true, beq_iff_eq] at k3
          have := frameM_get ms l 0 a0 u hO i' o' s k1 k3.2 k2 (by simpa using k3.1)
          rwa [Nat.zero_add] at this
        · obtain ⟨e, he, hb⟩ := Array.any_eq_true'.1 hj
          simp only [Bool.and_eq_true, beq_iff_eq] at hb
          have := h3 e he hb.1
          rw [hb.2.1] at this
          have hjl : j < l.length := by
            rw [← hml]
            rcases Nat.lt_or_ge j ms.length with h | h
            · exact h
            · have := hb.2.2; rw [List.getD_eq_getElem?_getD, List.getElem?_eq_none h] at this; cases this
          exact hl j hjl hb.2.2 this
      -- one step on
      have next : ∀ (i : Nat) (o : Oper), i ∈ Region.ready md l.toArray listed → l[i]? = some o → ms.getD i false = true → ∀ v w2, R w w2 → (∀ w3, R w2 w3 → φ i v w3) →
          wpAny P md l.toArray Q fuel (listed.setIfInBounds i true) ((frameM ms l 0 a0 u).put o.dst v) w2 := fun i o hi h2' hmi v w2 hw2 hv => by
        have hilt : i < l.length := by have := (List.getElem?_eq_some_iff.1 h2').1; exact this
        have h1 := (mem_ready.1 hi).1
        have hTi := (invl_head hB hilt hmi).2.1
        rw [frameM_upd ms l 0 a0 u hO i o h2' (getD_opt hmi) v]
        rw [Nat.zero_add]
        refine ih _ _ _ (inv.set hi hTi) ?_ (hT _ _ _ hw hw2) fun j hj hmj hjl => ?_
        · have : unlistedM l.length ms (listed.setIfInBounds i true) < unlistedM l.length ms listed := by
            refine countP_less _ _ _ (fun x hx => ?_) (List.mem_range.2 hilt) (by rw [hmi, h1]; rfl) ?_
            · by_cases hxi : i = x
              · subst hxi
                simp [inv.size, hilt] at hx
              · rwa [getD_set_ne true hxi] at hx
            · simp [inv.size, hilt]
          omega
        · by_cases hji : i = j
          · subst hji
            intro w3 h3
            rw [show updV u i v i = v by simp [updV]]
            exact hv w3 h3
          · rw [getD_set_ne false hji] at hjl
            intro w3 h3
            rw [show updV u i v j = u j by simp [updV]; omega]
            exact hl j hj hmj hjl w3 (hT _ _ _ hw2 h3)
      by_cases hlate : ∃ i, i < l.length ∧ ms.getD i false = true ∧ ls.getD i false = true ∧ i ∈ Region.ready md l.toArray listed
      · obtain ⟨i, hi, hmi, hli, hri⟩ := hlate
        have h4 := invl_head hB hi hmi
        rw [hli] at h4
        obtain ⟨_, _, hfree, o, ho, _⟩ := h4
        simp only [if_true] at hfree
        obtain ⟨v, hv, hy⟩ := hs.late i o ho (getD_opt hmi) (getD_opt hli) _ u w (told i o hri ho)
        rw [Nat.zero_add] at hv
        have hoa : l.toArray[i]? = some o := by simpa using ho
        refine wpAny_first hoa (Region.noSelect_spec hsel) (fun c a w h => hQ c a _ _ w h) fuel listed _ w (fun j oj hj hne hun hno => ?_) hri hy (next i o hri ho hmi v w (hR w) hv)
        have hjl : j < l.length := by have := (Array.getElem?_eq_some_iff.1 hj).1; simpa using this
        obtain ⟨_, o', ho', hdeps⟩ := mem_ready.1 hri
        cases ho'.symm.trans hoa
        refine farB_spec hoa hfree j oj hj hne (fun e he hb hon => ?_) hno
        have := hdeps e he hb
        rw [hon, getD_both hun] at this
        cases this
      · obtain ⟨j0, _, _, _, hj0⟩ := invl_some hB inv i0 hi0 hm0 hun0
        -- one that is not late has not come up: else a late one might
        have hmid : ∃ i, i < l.length ∧ ms.getD i false = true ∧ ls.getD i false = false ∧ listed.getD i true = false := by
          obtain ⟨j, hj1, hj2, hj3, hj4⟩ := invl_some hB inv i0 hi0 hm0 hun0
          cases hx : ls.getD j false with
          | true => exact absurd ⟨j, hj1, hj2, hx, hj4⟩ hlate
          | false => exact ⟨j, hj1, hj2, hx, hj3⟩
        obtain ⟨i1, hi1, hm1, hl1, hun1⟩ := hmid
        refine ⟨fun h => (by rw [h] at hj0; cases hj0), fun i hi => ?_⟩
        obtain ⟨h1, o, h2, h3⟩ := mem_ready.1 hi
        have hilt : i < l.length := by have := (Array.getElem?_eq_some_iff.1 h2).1; simpa using this
        have h2' : l[i]? = some o := by simpa using h2
        have hTi := invl_wait hB inv _ i1 rfl hi1 hm1 hl1 hun1 i hi
        have hmi : ms.getD i false = true := by
          cases hx : ms.getD i false with
          | true => rfl
          | false =>
            have := inv.pre i hilt hx hTi
            rw [getD_both h1] at this
            cases this
        have hli : ls.getD i false = false := by
          cases hx : ls.getD i false with
          | true => exact absurd ⟨i, hilt, hmi, hx, hi⟩ hlate
          | false => rfl
        have hst := hs.mid i o h2' (getD_opt hmi) (getD_optF hll hilt hli) _ u w (told i o hi h2') (wpAny P md l.toArray Q fuel (listed.setIfInBounds i true)) (fun v w2 k1 k2 => by
          rw [Nat.zero_add] at k2
          exact next i o hi h2' hmi v w2 k1 k2)
        unfold wpOp
        simp only [h2]
        split
        · rename_i hwant
          rw [if_pos hwant] at hst
          exact .inl hst
        · rename_i hwant
          rw [if_neg hwant] at hst
          exact hst
/-- **The rule.** -/
theorem wpAny_invlA {fuel : Nat} {Q : Exit → Act → World → Prop} {a0 : Act} {w0 : World} (ms ls : List Bool) (T : List Nat) (hB : invlB md l ms ls T listed0 = true) (hfu : decide (unlistedM l.length ms listed0 + T.length ≤ fuel) = true) (R : World → World → Prop) (φ : Nat → Value → World → Prop) (hR : ∀ w, R w w) (hT : ∀ a b c, R a b → R b c → R a c)
    (hQ : ∀ c a d v w, Q (.panic c) (Act.put a d v) w → Q (.panic c) a w)
    (hs : InvStepsL P md l.toArray R φ l ms a0 w0 Q 0 ms ls l) (hd : ∀ u w, R w0 w → (∀ i, ms.getD i false = true → φ i (u i) w) → wpList P l.toArray Q (pickT l T) (frameM ms l 0 a0 u) w) :
    wpAny P md l.toArray Q fuel listed0 a0 w0 := by
  obtain ⟨u, hu⟩ := frameM_start ms l 0 a0
  have hB' := hB
  simp only [invlB, Bool.and_eq_true, decide_eq_true_eq] at hB'
  obtain ⟨hO, _, hml, _, hsz, h4, h5, _, _⟩ := hB'
  have inv : MInv md l ms T listed0 := by
    refine ⟨hsz, fun j oj hj hl e he hb => ?_, fun t ht htl => ?_, fun i hi hm hc => ?_⟩
    · have hjl : j < l.length := (List.getElem?_eq_some_iff.1 hj).1
      have h := List.all_eq_true.1 h5 j (List.mem_range.2 hjl)
      rw [hl, hj] at h
      simp only [Bool.not_true, Bool.false_or] at h
      have := Array.all_eq_true_iff_forall_mem.1 h e he
      simpa [hb] using this
    · have h := List.all_eq_true.1 h4 t (List.mem_range.2 htl)
      have hc : T.contains t = true := List.contains_iff_mem.2 ht
      cases hx : ms.getD t false with
      | true => rw [hx] at h; simp only [Bool.and_eq_true, Bool.not_eq_true', hc] at h; exact h.1
      | false =>
        have h2 : (if T.contains t = true then !listed0.getD t true else listed0.getD t false) = true := by rw [hx] at h; exact h
        rw [if_pos hc] at h2
        rwa [Bool.not_eq_true'] at h2
    · have h := List.all_eq_true.1 h4 i (List.mem_range.2 hi)
      have h2 : (if T.contains i = true then !listed0.getD i true else listed0.getD i false) = true := by rw [hm] at h; exact h
      rwa [if_neg (by rw [hc]; simp)] at h2
  have H := wpAny_invl (md := md) hB hR hT hQ hs hd fuel listed0 u w0 inv (of_decide_eq_true hfu) (hR _) (fun i hi hm h => by
    have := (invl_head hB hi hm).1
    rw [getD_both this] at h
    cases h)
  rwa [hu] at H
end
end Go.Proofs.YtcbfpdenjdgnlaaGreat
