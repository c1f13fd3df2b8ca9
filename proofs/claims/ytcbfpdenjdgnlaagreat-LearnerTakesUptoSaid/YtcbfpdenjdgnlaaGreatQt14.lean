/- Words: a region that draws its order: some operations taken first, then each of the others walked once, then a tail in its order. No claim of its own; no condition. -/
import Derived.Test.YtcbfpdenjdgnlaaGreatQt09
namespace Go.Proofs.YtcbfpdenjdgnlaaGreat
set_option linter.unusedVariables false
section
variable {P : Program} {md : Region.Mode}
/-- The frame with the values of the operations that the mask names. -/
def frameM : List Bool → List Oper → Nat → Act → (Nat → Value) → Act
  | true :: ms, o :: l, k, a, u => frameM ms l (k + 1) (a.put o.dst (u k)) u
  | false :: ms, _ :: l, k, a, u => frameM ms l (k + 1) a u
  | _, _, _, a, _ => a
theorem frameM_nil (l : List Oper) (k : Nat) (a : Act) (u : Nat → Value) : frameM [] l k a u = a := by cases l <;> rfl
theorem frameM_congr : ∀ (ms : List Bool) (l : List Oper) (k : Nat) (a : Act) (u u' : Nat → Value), (∀ j, k ≤ j → u j = u' j) → frameM ms l k a u = frameM ms l k a u'
  | [], l, _, _, _, _, _ => by cases l <;> rfl
  | _ :: _, [], _, _, _, _, _ => by rename_i b _ _ _ _ _ _; cases b <;> rfl
  | true :: ms, o :: l, k, a, u, u', h => by
    show frameM ms l (k + 1) (a.put o.dst (u k)) u = frameM ms l (k + 1) (a.put o.dst (u' k)) u'
    rw [h k (Nat.le_refl _)]
    exact frameM_congr ms l (k + 1) _ u u' fun j hj => h j (by omega)
  | false :: ms, o :: l, k, a, u, u', h => frameM_congr ms l (k + 1) a u u' fun j hj => h j (by omega)
theorem frameM_put_far : ∀ (ms : List Bool) (l : List Oper) (k : Nat) (a : Act) (u : Nat → Value) (d : Option Tmp) (v : Value), (∀ o ∈ l, ∀ t, d = some t → o.dst ≠ some t) → frameM ms l k (a.put d v) u = (frameM ms l k a u).put d v
  | [], l, _, _, _, _, _, _ => by cases l <;> rfl
  | b :: _, [], _, _, _, _, _, _ => by cases b <;> rfl
  | true :: ms, o :: l, k, a, u, d, v, h => by
    show frameM ms l (k + 1) ((a.put d v).put o.dst (u k)) u = (frameM ms l (k + 1) (a.put o.dst (u k)) u).put d v
    rw [Act.put_comm a v (u k) (fun t ht => h o (by simp) t ht)]
    exact frameM_put_far ms l (k + 1) _ u d v fun o' ho' => h o' (by simp [ho'])
  | false :: ms, o :: l, k, a, u, d, v, h => frameM_put_far ms l (k + 1) a u d v fun o' ho' => h o' (by simp [ho'])
theorem frameM_upd : ∀ (ms : List Bool) (l : List Oper) (k : Nat) (a : Act) (u : Nat → Value), onceB l = true → ∀ (i : Nat) (o : Oper), l[i]? = some o → ms[i]? = some true → ∀ v, (frameM ms l k a u).put o.dst v = frameM ms l k a (updV u (k + i) v)
  | [], _, _, _, _, _, i, _, _, hm, _ => by cases hm
  | _ :: _, [], _, _, _, _, i, _, hi, _, _ => by cases hi
  | b :: ms, o0 :: l, k, a, u, hB, i, o, hi, hm, v => by
    simp only [onceB, Bool.and_eq_true, List.all_eq_true] at hB
    have hfar : ∀ o' ∈ l, ∀ t, o0.dst = some t → o'.dst ≠ some t := fun o' ho' t ht => by
      have := hB.1 o' ho'
      rw [ht] at this
      simpa using this
    cases i with
    | zero =>
      cases hi
      cases hm
      show (frameM ms l (k + 1) (a.put o0.dst (u k)) u).put o0.dst v = frameM ms l (k + 1) (a.put o0.dst (updV u k v k)) (updV u k v)
      rw [← frameM_put_far ms l (k + 1) _ u o0.dst v hfar, put_put]
      rw [show updV u k v k = v by simp [updV]]
      exact frameM_congr ms l (k + 1) _ _ _ fun j hj => by simp [updV]; omega
    | succ i =>
      have hi' : l[i]? = some o := by simpa using hi
      have hm' : ms[i]? = some true := by simpa using hm
      cases b with
      | true =>
        show (frameM ms l (k + 1) (a.put o0.dst (u k)) u).put o.dst v = frameM ms l (k + 1) (a.put o0.dst (updV u (k + (i + 1)) v k)) (updV u (k + (i + 1)) v)
        rw [frameM_upd ms l (k + 1) _ u hB.2 i o hi' hm' v, show updV u (k + (i + 1)) v k = u k by simp [updV], show k + 1 + i = k + (i + 1) by omega]
      | false =>
        show (frameM ms l (k + 1) a u).put o.dst v = frameM ms l (k + 1) a (updV u (k + (i + 1)) v)
        rw [frameM_upd ms l (k + 1) _ u hB.2 i o hi' hm' v, show k + 1 + i = k + (i + 1) by omega]
theorem frameM_start : ∀ (ms : List Bool) (l : List Oper) (k : Nat) (a : Act), ∃ u, frameM ms l k a u = a
  | [], l, _, a => ⟨fun _ => undef, by cases l <;> rfl⟩
  | b :: _, [], _, a => ⟨fun _ => undef, by cases b <;> rfl⟩
  | true :: ms, o :: l, k, a => by
    obtain ⟨v, hv⟩ := put_same a o.dst
    obtain ⟨u, hu⟩ := frameM_start ms l (k + 1) a
    refine ⟨updV u k v, ?_⟩
    show frameM ms l (k + 1) (a.put o.dst (updV u k v k)) (updV u k v) = a
    rw [show updV u k v k = v by simp [updV], hv]
    exact (frameM_congr ms l (k + 1) a (updV u k v) u fun j hj => by simp [updV]; omega).trans hu
  | false :: ms, o :: l, k, a => frameM_start ms l (k + 1) a
/-- Each operation that the mask names, once. -/
def InvStepsM (P : Program) (md : Region.Mode) (ops : Array Oper) (R : World → World → Prop) (φ : Nat → Value → World → Prop) (fr : (Nat → Value) → Act) (ms0 : List Bool) (w0 : World) (Q : Exit → Act → World → Prop) : Nat → List Bool → List Oper → Prop
  | k, true :: ms, o :: l => (∀ (u : Nat → Value) (w1 : World), R w0 w1 → (∀ j, (o.after.any fun e => Region.binds md e && (e.on == j && ms0.getD j false)) = true → Later R φ j (u j) w1) →
      ∀ K : Act → World → Prop, (∀ v w2, R w1 w2 → (∀ w3, R w2 w3 → φ k v w3) → K ((fr u).put o.dst v) w2) →
        if Region.wanted o (yielded ops (fr u).tmps) = true then Oper.wp P o (fr u) w1 K Q else K ((fr u).put o.dst undef) w1) ∧ InvStepsM P md ops R φ fr ms0 w0 Q (k + 1) ms l
  | k, false :: ms, _ :: l => InvStepsM P md ops R φ fr ms0 w0 Q (k + 1) ms l
  | _, _, _ => True
theorem InvStepsM.get {ops : Array Oper} {R : World → World → Prop} {φ : Nat → Value → World → Prop} {fr : (Nat → Value) → Act} {ms0 : List Bool} {w0 : World} {Q : Exit → Act → World → Prop} : ∀ {ms : List Bool} {l : List Oper} {k : Nat}, InvStepsM P md ops R φ fr ms0 w0 Q k ms l →
    ∀ (i : Nat) (o : Oper), l[i]? = some o → ms[i]? = some true →
    ∀ (u : Nat → Value) (w1 : World), R w0 w1 → (∀ j, (o.after.any fun e => Region.binds md e && (e.on == j && ms0.getD j false)) = true → Later R φ j (u j) w1) →
      ∀ K : Act → World → Prop, (∀ v w2, R w1 w2 → (∀ w3, R w2 w3 → φ (k + i) v w3) → K ((fr u).put o.dst v) w2) →
        if Region.wanted o (yielded ops (fr u).tmps) = true then Oper.wp P o (fr u) w1 K Q else K ((fr u).put o.dst undef) w1
  | [], _, _, _, i, _, _, hm => by cases hm
  | _ :: _, [], _, _, i, _, hi, _ => by cases hi
  | true :: ms, o0 :: l, k, h, 0, o, hi, _ => by cases hi; exact h.1
  | false :: ms, o0 :: l, k, h, 0, o, hi, hm => by cases hm
  | true :: ms, o0 :: l, k, h, i + 1, o, hi, hm => by
    have := InvStepsM.get (ms := ms) h.2 i o (by simpa using hi) (by simpa using hm)
    rwa [show k + 1 + i = k + (i + 1) by omega] at this
  | false :: ms, o0 :: l, k, h, i + 1, o, hi, hm => by
    have h' : InvStepsM P md ops R φ fr ms0 w0 Q (k + 1) ms l := h
    have := InvStepsM.get h' i o (by simpa using hi) (by simpa using hm)
    rwa [show k + 1 + i = k + (i + 1) by omega] at this
/-- The tail, one behind the other. -/
def tailW (P : Program) (ops : Array Oper) (Q : Exit → Act → World → Prop) : List Nat → Act → World → Prop
  | [], a, w => Q .normal a w
  | t :: T, a, w => wpOp P ops Q t (tailW P ops Q T) a w
def seqT (md : Region.Mode) (ops : Array Oper) : List Nat → Array Bool → Bool
  | [], listed => (Region.ready md ops listed).isEmpty
  | t :: T, listed => decide (Region.ready md ops listed = [t]) && seqT md ops T (listed.setIfInBounds t true)
theorem wpAny_tail {ops : Array Oper} {Q : Exit → Act → World → Prop} : ∀ (T : List Nat) (listed : Array Bool) (fuel : Nat) (a : Act) (w : World), T.length ≤ fuel → seqT md ops T listed = true → tailW P ops Q T a w → wpAny P md ops Q fuel listed a w
  | [], listed, fuel, a, w, _, hB, h => by
    have hr : Region.ready md ops listed = [] := by simpa [seqT] using hB
    cases fuel with
    | zero => exact ⟨hr, h⟩
    | succ f => exact ⟨fun _ => h, fun i hi => by rw [hr] at hi; cases hi⟩
  | t :: T, listed, fuel, a, w, hf, hB, h => by
    simp only [seqT, Bool.and_eq_true, decide_eq_true_eq] at hB
    obtain ⟨f, rfl⟩ : ∃ f, fuel = f + 1 := ⟨fuel - 1, by simp at hf; omega⟩
    refine ⟨fun h0 => (by rw [hB.1] at h0; cases h0), fun i hi => ?_⟩
    rw [hB.1] at hi
    obtain rfl : i = t := by simpa using hi
    exact wpOp_mono (fun a' w' h' => wpAny_tail T _ f a' w' (by simp at hf; omega) hB.2 h') h
/-- The tail's operations. -/
def pickT (l : List Oper) : List Nat → List Oper
  | [] => []
  | t :: T => match l[t]? with
    | some o => o :: pickT l T
    | none => pickT l T
theorem tailW_of {l : List Oper} {Q : Exit → Act → World → Prop} : ∀ (T : List Nat) (a : Act) (w : World), wpList P l.toArray Q (pickT l T) a w → tailW P l.toArray Q T a w
  | [], a, w, h => h
  | t :: T, a, w, h => by
    show wpOp P l.toArray Q t (tailW P l.toArray Q T) a w
    cases ho : l[t]? with
    | none =>
      have h' : wpList P l.toArray Q (pickT l T) a w := by simpa [pickT, ho] using h
      unfold wpOp
      rw [show l.toArray[t]? = none by simpa using ho]
      exact tailW_of T a w h'
    | some o =>
      have h' : wpList P l.toArray Q (o :: pickT l T) a w := by simpa [pickT, ho] using h
      have hw : wpOp P l.toArray Q t (wpList P l.toArray Q (pickT l T)) a w := by
        unfold wpOp
        rw [show l.toArray[t]? = some o by simpa using ho]
        exact h'
      exact wpOp_mono (fun a' w' => tailW_of T a' w') hw
/-- All that the rule asks of a region's text: 'ms' names the operations in the middle, 'T' is the tail; the others are listed. -/
def invtB (md : Region.Mode) (l : List Oper) (ms : List Bool) (T : List Nat) (listed : Array Bool) : Bool :=
  onceB l && (decide (ms.length = l.length) && (decide (listed.size = l.length) &&
  ((List.range l.length).all (fun i => match ms.getD i false with
    | true => !listed.getD i true && (!T.contains i && (((List.range l.length).any fun j => decide (i < j) && (Region.waitsFor md l.toArray j i && (ms.getD j false || T.head? == some j))) &&
        match l[i]? with
        | some o => o.after.all fun e => !Region.binds md e || (decide (e.on < i) && !T.contains e.on)
        | none => false))
    | false => if T.contains i then !listed.getD i true else listed.getD i false) &&
  ((List.range l.length).all (fun j => !listed.getD j false || match l[j]? with
    | some o => o.after.all fun e => !Region.binds md e || listed.getD e.on false
    | none => true) &&
  ((List.range T.length).all (fun k => decide (k = 0) || Region.waitsFor md l.toArray (T.getD k 0) (T.getD (k - 1) 0)) &&
  seqT md l.toArray T ((List.range l.length).map fun i => !T.contains i).toArray)))))
/-- What holds of the list of those that have come up, while the middle is on. -/
structure MInv (md : Region.Mode) (l : List Oper) (ms : List Bool) (T : List Nat) (listed : Array Bool) : Prop where
  size : listed.size = l.length
  closed : ∀ j oj, l[j]? = some oj → listed.getD j false = true → ∀ e ∈ oj.after, Region.binds md e = true → listed.getD e.on false = true
  noT : ∀ t ∈ T, t < l.length → listed.getD t true = false
  pre : ∀ i, i < l.length → ms.getD i false = false → T.contains i = false → listed.getD i false = true
theorem MInv.set {l : List Oper} {ms : List Bool} {T : List Nat} {listed : Array Bool} (inv : MInv md l ms T listed) {i : Nat} (hi : i ∈ Region.ready md l.toArray listed) (hT : T.contains i = false) : MInv md l ms T (listed.setIfInBounds i true) := by
  obtain ⟨_, oi, hoi, hall⟩ := mem_ready.1 hi
  have hoi' : l[i]? = some oi := by simpa using hoi
  refine ⟨by simp [inv.size], fun j oj hj hl e he hb => ?_, fun t ht hlt => ?_, fun j hj hm hc => getD_set_true (inv.pre j hj hm hc)⟩
  · by_cases hij : i = j
    · subst hij
      cases hj.symm.trans hoi'
      exact getD_set_true (hall e he hb)
    · rw [getD_set_ne false hij] at hl
      exact getD_set_true (inv.closed j oj hj hl e he hb)
  · have hne : i ≠ t := by
      rintro rfl
      rw [List.contains_iff_mem.2 ht] at hT
      cases hT
    rw [getD_set_ne true hne]
    exact inv.noT t ht hlt
section
variable {l : List Oper} {ms : List Bool} {T : List Nat} {listed0 : Array Bool}
theorem invt_head (hB : invtB md l ms T listed0 = true) {i : Nat} (hi : i < l.length) (hm : ms.getD i false = true) :
    listed0.getD i true = false ∧ T.contains i = false ∧ (∃ j, j < l.length ∧ i < j ∧ Region.waitsFor md l.toArray j i = true ∧ (ms.getD j false = true ∨ T.head? = some j)) ∧
    ∃ o, l[i]? = some o ∧ ∀ e ∈ o.after, Region.binds md e = true → e.on < i ∧ T.contains e.on = false := by
  simp only [invtB, Bool.and_eq_true, decide_eq_true_eq] at hB
  have h := List.all_eq_true.1 hB.2.2.2.1 i (List.mem_range.2 hi)
  rw [hm] at h
  simp only [Bool.and_eq_true, Bool.not_eq_true'] at h
  obtain ⟨h1, h2, h3, h4⟩ := h
  obtain ⟨j, hj, hj2⟩ := List.any_eq_true.1 h3
  simp only [Bool.and_eq_true, decide_eq_true_eq, Bool.or_eq_true, beq_iff_eq] at hj2
  refine ⟨h1, h2, ⟨j, List.mem_range.1 hj, hj2.1, hj2.2.1, hj2.2.2⟩, ?_⟩
  cases ho : l[i]? with
  | none => rw [ho] at h4; cases h4
  | some o =>
    rw [ho] at h4
    refine ⟨o, rfl, fun e he hb => ?_⟩
    have := Array.all_eq_true_iff_forall_mem.1 h4 e he
    simpa [hb] using this
/-- As long as one of the middle has not come up, none of the tail may. -/
theorem invt_wait (hB : invtB md l ms T listed0 = true) {listed : Array Bool} (inv : MInv md l ms T listed) : ∀ (d i : Nat), l.length - i = d → i < l.length → ms.getD i false = true → listed.getD i true = false →
    ∀ t ∈ Region.ready md l.toArray listed, T.contains t = false := by
  intro d
  induction d using Nat.strongRecOn with
  | _ d ih =>
    intro i hd hi hm hun t ht
    obtain ⟨_, _, ⟨j, hjl, hij, hw, hj⟩, _⟩ := invt_head hB hi hm
    obtain ⟨oj, hoj, e, he, hb, hon⟩ := Region.waitsFor_spec hw
    have hoj' : l[j]? = some oj := by simpa using hoj
    have no : ¬ listed.getD e.on false = true := by rw [hon, getD_both hun]; simp
    rcases hj with hj | hj
    · cases hl : listed.getD j false with
      | true => exact absurd (inv.closed j oj hoj' hl e he hb) no
      | false => exact ih (l.length - j) (by omega) j rfl hjl hj (getD_in (by rw [inv.size]; omega) hl) t ht
    · cases hc : T.contains t with
      | false => rfl
      | true =>
        exfalso
        have htm := List.contains_iff_mem.1 hc
        obtain ⟨_, ot, hot, hall⟩ := mem_ready.1 ht
        have htl : t < l.length := by have := (Array.getElem?_eq_some_iff.1 hot).1; simpa using this
        obtain ⟨k, hk, hkt⟩ := List.getElem_of_mem htm
        by_cases hk0 : k = 0
        · subst hk0
          have h0 : T.head? = some t := by rw [List.head?_eq_getElem?, List.getElem?_eq_getElem hk, hkt]
          cases h0.symm.trans hj
          cases hot.symm.trans hoj
          exact no (hall e he hb)
        · simp only [invtB, Bool.and_eq_true, decide_eq_true_eq] at hB
          have h1 := List.all_eq_true.1 hB.2.2.2.2.2.1 k (List.mem_range.2 hk)
          rw [Bool.or_eq_true, decide_eq_true_eq] at h1
          have h2 := h1.resolve_left hk0
          rw [List.getD_eq_getElem?_getD, List.getElem?_eq_getElem hk, Option.getD_some, hkt] at h2
          obtain ⟨o', ho', e', he', hb', hon'⟩ := Region.waitsFor_spec h2
          cases ho'.symm.trans hot
          have h3 := hall e' he' hb'
          have hkm : T.getD (k - 1) 0 ∈ T := by
            rw [List.getD_eq_getElem?_getD, List.getElem?_eq_getElem (by omega), Option.getD_some]
            exact List.getElem_mem _
          have hlt : e'.on < listed.size := by
            rcases Nat.lt_or_ge e'.on listed.size with h | h
            · exact h
            · simp [Array.getElem?_eq_none h] at h3
          rw [hon'] at h3 hlt
          have h4 := inv.noT _ hkm (by rw [← inv.size]; exact hlt)
          rw [getD_both h4] at h3
          cases h3
/-- One of the middle that may come up, as long as one has not. -/
theorem invt_some (hB : invtB md l ms T listed0 = true) {listed : Array Bool} (inv : MInv md l ms T listed) : ∀ (i : Nat), i < l.length → ms.getD i false = true → listed.getD i true = false → ∃ j, j ∈ Region.ready md l.toArray listed := by
  intro i
  induction i using Nat.strongRecOn with
  | _ i ih =>
    intro hi hm hun
    obtain ⟨_, _, _, o, ho, hdep⟩ := invt_head hB hi hm
    by_cases hall : ∀ e ∈ o.after, Region.binds md e = true → listed.getD e.on false = true
    · exact ⟨i, mem_ready.2 ⟨hun, o, by simpa using ho, hall⟩⟩
    · obtain ⟨e, he⟩ := Classical.not_forall.1 hall
      obtain ⟨he1, he2⟩ := Classical.not_imp.1 he
      obtain ⟨hb, hne⟩ := Classical.not_imp.1 he2
      obtain ⟨hlt, hc⟩ := hdep e he1 hb
      have hf : listed.getD e.on false = false := by simpa using hne
      have hme : ms.getD e.on false = true := by
        cases hx : ms.getD e.on false with
        | true => rfl
        | false => rw [inv.pre e.on (by omega) hx hc] at hf; cases hf
      exact ih e.on hlt (by omega) hme (getD_in (by rw [inv.size]; omega) hf)
def unlistedM (n : Nat) (ms : List Bool) (listed : Array Bool) : Nat := (List.range n).countP fun i => ms.getD i false && !listed.getD i true
theorem wpAny_invt {R : World → World → Prop} {φ : Nat → Value → World → Prop} {Q : Exit → Act → World → Prop} {a0 : Act} {w0 : World} (hB : invtB md l ms T listed0 = true) (hR : ∀ w, R w w) (hT : ∀ a b c, R a b → R b c → R a c)
    (hs : InvStepsM P md l.toArray R φ (frameM ms l 0 a0) ms w0 Q 0 ms l) (hd : ∀ u w, R w0 w → (∀ i, ms.getD i false = true → φ i (u i) w) → wpList P l.toArray Q (pickT l T) (frameM ms l 0 a0 u) w) :
    ∀ (fuel : Nat) (listed : Array Bool) (u : Nat → Value) (w : World), MInv md l ms T listed → unlistedM l.length ms listed + T.length ≤ fuel → R w0 w →
      (∀ i, i < l.length → ms.getD i false = true → listed.getD i false = true → Later R φ i (u i) w) → wpAny P md l.toArray Q fuel listed (frameM ms l 0 a0 u) w := by
  have hB' := hB
  simp only [invtB, Bool.and_eq_true, decide_eq_true_eq] at hB'
  obtain ⟨hO, hml, _, _, _, _, hseq⟩ := hB'
  have fin : ∀ (fuel : Nat) (listed : Array Bool) (u : Nat → Value) (w : World), MInv md l ms T listed → T.length ≤ fuel → R w0 w → (∀ i, i < l.length → ms.getD i false = true → listed.getD i false = true) →
      (∀ i, i < l.length → ms.getD i false = true → listed.getD i false = true → Later R φ i (u i) w) → wpAny P md l.toArray Q fuel listed (frameM ms l 0 a0 u) w := fun fuel listed u w inv hf hw hall hl => by
    have e : listed = ((List.range l.length).map fun i => !T.contains i).toArray := by
      apply Array.ext
      · simp [inv.size]
      · intro i h1 h2
        have hil : i < l.length := by rw [← inv.size]; exact h1
        simp only [List.getElem_toArray, List.getElem_map, List.getElem_range]
        cases hc : T.contains i with
        | true =>
          have := inv.noT i (List.contains_iff_mem.1 hc) hil
          simpa [h1] using this
        | false =>
          have : listed.getD i false = true := by
            cases hx : ms.getD i false with
            | true => exact hall i hil hx
            | false => exact inv.pre i hil hx hc
          simpa [h1] using this
    refine wpAny_tail T listed fuel _ w hf (by rw [e]; exact hseq) (tailW_of T _ _ (hd u w hw fun i hi => ?_))
    have hil : i < l.length := by
      rw [← hml]
      rcases Nat.lt_or_ge i ms.length with h | h
      · exact h
      · rw [List.getD_eq_getElem?_getD, List.getElem?_eq_none h] at hi; cases hi
    exact hl i hil hi (hall i hil hi) w (hR w)
  intro fuel
  induction fuel with
  | zero =>
    intro listed u w inv hf hw hl
    refine fin 0 listed u w inv (by omega) hw (fun i hi hm => ?_) hl
    cases hx : listed.getD i false with
    | true => rfl
    | false =>
      exfalso
      have : 0 < unlistedM l.length ms listed := List.countP_pos_iff.2 ⟨i, List.mem_range.2 hi, by rw [hm, getD_in (by rw [inv.size]; omega) hx]; rfl⟩
      omega
  | succ fuel ih =>
    intro listed u w inv hf hw hl
    by_cases hall : ∀ i, i < l.length → ms.getD i false = true → listed.getD i false = true
    · have h0 : unlistedM l.length ms listed = 0 ∨ 0 < unlistedM l.length ms listed := by omega
      exact fin (fuel + 1) listed u w inv (by omega) hw hall hl
    · obtain ⟨i0, h0⟩ := Classical.not_forall.1 hall
      obtain ⟨hi0, h0⟩ := Classical.not_imp.1 h0
      obtain ⟨hm0, h0⟩ := Classical.not_imp.1 h0
      have hun0 : listed.getD i0 true = false := getD_in (by rw [inv.size]; omega) (by simpa using h0)
      have hne := invt_some hB inv i0 hi0 hm0 hun0
      refine ⟨fun h => (by obtain ⟨j, hj⟩ := hne; rw [h] at hj; cases hj), fun i hi => ?_⟩
      obtain ⟨h1, o, h2, h3⟩ := mem_ready.1 hi
      have hilt : i < l.length := by have := (Array.getElem?_eq_some_iff.1 h2).1; simpa using this
      have h2' : l[i]? = some o := by simpa using h2
      have hTi := invt_wait hB inv _ i0 rfl hi0 hm0 hun0 i hi
      have hmi : ms.getD i false = true := by
        cases hx : ms.getD i false with
        | true => rfl
        | false =>
          have := inv.pre i hilt hx hTi
          rw [getD_both h1] at this
          cases this
      have hmi' : ms[i]? = some true := by
        rw [List.getD_eq_getElem?_getD] at hmi
        cases hx : ms[i]? with
        | none => rw [hx] at hmi; cases hmi
        | some b => rw [hx] at hmi; exact congrArg some hmi
      have hK : ∀ v w2, R w w2 → (∀ w3, R w2 w3 → φ (0 + i) v w3) → wpAny P md l.toArray Q fuel (listed.setIfInBounds i true) ((frameM ms l 0 a0 u).put o.dst v) w2 := fun v w2 hw2 hv => by
        rw [frameM_upd ms l 0 a0 u hO i o h2' hmi' v]
        rw [Nat.zero_add] at hv ⊢
        refine ih _ _ _ (inv.set hi hTi) ?_ (hT _ _ _ hw hw2) fun j hj hmj hjl => ?_
        · have : unlistedM l.length ms (listed.setIfInBounds i true) < unlistedM l.length ms listed := by
            refine countP_less _ _ _ (fun x hx => ?_) (List.mem_range.2 hilt) (by rw [hmi, h1]; rfl) ?_
            · by_cases hxi : i = x
              · subst hxi
                simp [inv.size, hilt] at hx
              · rwa [getD_set_ne true hxi] at hx
            · simp [inv.size, hilt]
          omega
        · by_cases hji : i = j
          · subst hji
            intro w3 h3
            rw [show updV u i v i = v by simp [updV]]
            exact hv w3 h3
          · rw [getD_set_ne false hji] at hjl
            intro w3 h3
            rw [show updV u i v j = u j by simp [updV]; omega]
            exact hl j hj hmj hjl w3 (hT _ _ _ hw2 h3)
      have hst := hs.get i o h2' hmi' u w hw (fun j hj => by
        obtain ⟨e, he, hb⟩ := Array.any_eq_true'.1 hj
        simp only [Bool.and_eq_true, beq_iff_eq] at hb
        have := h3 e he hb.1
        rw [hb.2.1] at this
        have hjl : j < l.length := by
          rw [← hml]
          rcases Nat.lt_or_ge j ms.length with h | h
          · exact h
          · have := hb.2.2; rw [List.getD_eq_getElem?_getD, List.getElem?_eq_none h] at this; cases this
        exact hl j hjl hb.2.2 this) (wpAny P md l.toArray Q fuel (listed.setIfInBounds i true)) hK
      unfold wpOp
      simp only [h2]
      split
      · rename_i hwant
        rw [if_pos hwant] at hst
        exact .inl hst
      · rename_i hwant
        rw [if_neg hwant] at hst
        exact hst
/-- **The rule**, at a region some of whose operations were taken first. -/
theorem wpAny_invt' {fuel : Nat} {Q : Exit → Act → World → Prop} {a0 : Act} {w0 : World} (ms : List Bool) (T : List Nat) (hB : invtB md l ms T listed0 = true) (hfu : decide (unlistedM l.length ms listed0 + T.length ≤ fuel) = true) (R : World → World → Prop) (φ : Nat → Value → World → Prop) (hR : ∀ w, R w w) (hT : ∀ a b c, R a b → R b c → R a c)
    (hs : InvStepsM P md l.toArray R φ (frameM ms l 0 a0) ms w0 Q 0 ms l) (hd : ∀ u w, R w0 w → (∀ i, ms.getD i false = true → φ i (u i) w) → wpList P l.toArray Q (pickT l T) (frameM ms l 0 a0 u) w) :
    wpAny P md l.toArray Q fuel listed0 a0 w0 := by
  obtain ⟨u, hu⟩ := frameM_start ms l 0 a0
  have hB' := hB
  simp only [invtB, Bool.and_eq_true, decide_eq_true_eq] at hB'
  obtain ⟨hO, hml, hsz, h4, h5, _, _⟩ := hB'
  have inv : MInv md l ms T listed0 := by
    refine ⟨hsz, fun j oj hj hl e he hb => ?_, fun t ht htl => ?_, fun i hi hm hc => ?_⟩
    · have hjl : j < l.length := (List.getElem?_eq_some_iff.1 hj).1
      have h := List.all_eq_true.1 h5 j (List.mem_range.2 hjl)
      rw [hl, hj] at h
      simp only [Bool.not_true, Bool.false_or] at h
      have := Array.all_eq_true_iff_forall_mem.1 h e he
      simpa [hb] using this
    · have h := List.all_eq_true.1 h4 t (List.mem_range.2 htl)
      have hc : T.contains t = true := List.contains_iff_mem.2 ht
      cases hx : ms.getD t false with
      | true => rw [hx] at h; simp only [Bool.and_eq_true, Bool.not_eq_true', hc] at h; exact h.1
      | false =>
        have h2 : (if T.contains t = true then !listed0.getD t true else listed0.getD t false) = true := by rw [hx] at h; exact h
        rw [if_pos hc] at h2
        rwa [Bool.not_eq_true'] at h2
    · have h := List.all_eq_true.1 h4 i (List.mem_range.2 hi)
      have h2 : (if T.contains i = true then !listed0.getD i true else listed0.getD i false) = true := by rw [hm] at h; exact h
      rwa [if_neg (by rw [hc]; simp)] at h2
  have H := wpAny_invt (md := md) hB hR hT hs hd fuel listed0 u w0 inv (of_decide_eq_true hfu) (hR _) (fun i hi hm h => by
    have := (invt_head hB hi hm).1
    rw [getD_both this] at h
    cases h)
  rwa [hu] at H
end
end
theorem wpAny_take0 {P : Program} {md : Region.Mode} {Q : Exit → Act → World → Prop} {o : Oper} {l : List Oper} {v : Value} {fuel : Nat} {listed : Array Bool} {a : Act} {w : World}
    (hs : Region.noSelect (o :: l).toArray = true) (hf : Region.free md (o :: l).toArray listed 0 = true) (hr : (Region.ready md (o :: l).toArray listed).contains 0 = true)
    (hQ : ∀ c a w, Q (.panic c) (a.put o.dst v) w → Q (.panic c) a w) (hy : Yields P (o :: l).toArray o v a)
    (h : wpAny P md (o :: l).toArray Q fuel (listed.setIfInBounds 0 true) (a.put o.dst v) w) : wpAny P md (o :: l).toArray Q (fuel + 1) listed a w :=
  wpAny_take (i := 0) (by simp) hs hf hr hQ hy h
end Go.Proofs.YtcbfpdenjdgnlaaGreat
