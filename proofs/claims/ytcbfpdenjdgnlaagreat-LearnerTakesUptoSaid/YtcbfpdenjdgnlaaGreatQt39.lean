/- Regions that draw their order: of each operation it is known from which size of the heap to which it went; two operations never meet. No claim of its own; no condition. -/
import Derived.Test.YtcbfpdenjdgnlaaGreatQt20
namespace Go.Proofs.YtcbfpdenjdgnlaaGreat
set_option linter.unusedVariables false
section
variable {P : Program} {md : Region.Mode}
def updS (s : Nat → Nat × Nat) (i : Nat) (v : Nat × Nat) : Nat → Nat × Nat := fun j => if j = i then v else s j
/-- Each operation, once; its frame a letter. -/
def InvStepsP (P : Program) (md : Region.Mode) (ops : Array Oper) (R : World → World → Prop) (φ : Nat → Nat × Nat → Value → World → Prop) (l0 : List Oper) (a0 : Act) (w0 : World) (Q : Exit → Act → World → Prop) : Nat → List Oper → Prop
  | _, [] => True
  | k, o :: l => (∀ (A : Act) (u : Nat → Value) (s : Nat → Nat × Nat), (∀ (i : Nat) (o' : Oper) (s : Nat), l0[i]? = some o' → o'.dst = some s → Nat.blt s a0.tmps.size = true → A.tmps[s]? = some (u i)) →
      (∀ (s : Nat) (v : Value), (l0.all fun o' => o'.dst != some s) = true → a0.tmps[s]? = some v → A.tmps[s]? = some v) → ∀ (w1 : World), R w0 w1 → (∀ j, (o.after.any fun e => Region.binds md e && e.on == j) = true → ∀ w', R w1 w' → φ j (s j) (u j) w') →
      (∀ j k, (o.after.any fun e => Region.binds md e && e.on == j) = true → (o.after.any fun e => Region.binds md e && e.on == k) = true → j ≠ k → (s j).2 ≤ (s k).1 ∨ (s k).2 ≤ (s j).1) →
      ∀ K : Act → World → Prop, (∀ v w2, R w1 w2 → (∀ w3, R w2 w3 → φ k (w1.heap.size, w2.heap.size) v w3) → K (A.put o.dst v) w2) →
        if Region.wanted o (yielded ops A.tmps) = true then Oper.wp P o A w1 K Q else K (A.put o.dst undef) w1) ∧ InvStepsP P md ops R φ l0 a0 w0 Q (k + 1) l
theorem InvStepsP.get {ops : Array Oper} {R : World → World → Prop} {φ : Nat → Nat × Nat → Value → World → Prop} {l0 : List Oper} {a0 : Act} {w0 : World} {Q : Exit → Act → World → Prop} : ∀ {l : List Oper} {k : Nat}, InvStepsP P md ops R φ l0 a0 w0 Q k l → ∀ (i : Nat) (o : Oper), l[i]? = some o →
    (∀ (A : Act) (u : Nat → Value) (s : Nat → Nat × Nat), (∀ (i : Nat) (o' : Oper) (s : Nat), l0[i]? = some o' → o'.dst = some s → Nat.blt s a0.tmps.size = true → A.tmps[s]? = some (u i)) →
      (∀ (s : Nat) (v : Value), (l0.all fun o' => o'.dst != some s) = true → a0.tmps[s]? = some v → A.tmps[s]? = some v) → ∀ (w1 : World), R w0 w1 → (∀ j, (o.after.any fun e => Region.binds md e && e.on == j) = true → ∀ w', R w1 w' → φ j (s j) (u j) w') →
      (∀ j k, (o.after.any fun e => Region.binds md e && e.on == j) = true → (o.after.any fun e => Region.binds md e && e.on == k) = true → j ≠ k → (s j).2 ≤ (s k).1 ∨ (s k).2 ≤ (s j).1) →
      ∀ K : Act → World → Prop, (∀ v w2, R w1 w2 → (∀ w3, R w2 w3 → φ (k + i) (w1.heap.size, w2.heap.size) v w3) → K (A.put o.dst v) w2) →
        if Region.wanted o (yielded ops A.tmps) = true then Oper.wp P o A w1 K Q else K (A.put o.dst undef) w1)
  | [], _, _, _, _, hi => by cases hi
  | o0 :: l, k, h, 0, o, hi => by cases hi; exact h.1
  | o0 :: l, k, h, i + 1, o, hi => by
    have := InvStepsP.get h.2 i o (by simpa using hi)
    rwa [show k + 1 + i = k + (i + 1) by omega] at this
theorem wpAny_invP {l : List Oper} {R : World → World → Prop} {φ : Nat → Nat × Nat → Value → World → Prop} {Q : Exit → Act → World → Prop} {a0 : Act} {w0 : World} (hB : invB md l = true) (hR : ∀ w, R w w) (hT : ∀ a b c, R a b → R b c → R a c) (hz : ∀ a b, R a b → a.heap.size ≤ b.heap.size)
    (hs : InvStepsP P md l.toArray R φ l a0 w0 Q 0 l) (hd : ∀ (u : Nat → Value) (s : Nat → Nat × Nat) w, R w0 w → (∀ i, i < l.length → φ i (s i) (u i) w) → (∀ i j, i < l.length → j < l.length → i ≠ j → (s i).2 ≤ (s j).1 ∨ (s j).2 ≤ (s i).1) → Q .normal (frameF l 0 a0 u) w) :
    ∀ (fuel : Nat) (listed : Array Bool) (u : Nat → Value) (s : Nat → Nat × Nat) (w : World), listed.size = l.length → unlisted l.length listed ≤ fuel → R w0 w →
      (∀ i, i < l.length → listed.getD i false = true → Later R (fun i v w => φ i (s i) v w) i (u i) w) →
      (∀ i, i < l.length → listed.getD i false = true → (s i).2 ≤ w.heap.size) →
      (∀ i j, i < l.length → j < l.length → listed.getD i false = true → listed.getD j false = true → i ≠ j → (s i).2 ≤ (s j).1 ∨ (s j).2 ≤ (s i).1) →
      wpAny P md l.toArray Q fuel listed (frameF l 0 a0 u) w := by
  simp only [invB, Bool.and_eq_true] at hB
  obtain ⟨hO, hE⟩ := hB
  have fin : ∀ (listed : Array Bool) (u : Nat → Value) (s : Nat → Nat × Nat) (w : World), listed.size = l.length → R w0 w → (∀ i, i < l.length → listed.getD i false = true → Later R (fun i v w => φ i (s i) v w) i (u i) w) →
      (∀ i j, i < l.length → j < l.length → listed.getD i false = true → listed.getD j false = true → i ≠ j → (s i).2 ≤ (s j).1 ∨ (s j).2 ≤ (s i).1) →
      Region.ready md l.toArray listed = [] → Q .normal (frameF l 0 a0 u) w := fun listed u s w hsz hw hl hp hr =>
    hd u s w hw (fun i hi => hl i hi (all_listed hE hsz hr i hi) w (hR w)) fun i j hi hj hij => hp i j hi hj (all_listed hE hsz hr i hi) (all_listed hE hsz hr j hj) hij
  intro fuel
  induction fuel with
  | zero =>
    intro listed u s w hsz hf hw hl hle hp
    have hr : Region.ready md l.toArray listed = [] := by
      cases hc : Region.ready md l.toArray listed with
      | nil => rfl
      | cons i r =>
        exfalso
        have hi : i ∈ Region.ready md l.toArray listed := by rw [hc]; simp
        obtain ⟨h1, o, h2, _⟩ := mem_ready.1 hi
        have h3 : i < l.length := by have := (Array.getElem?_eq_some_iff.1 h2).1; simpa using this
        have : 0 < unlisted l.length listed := List.countP_pos_iff.2 ⟨i, List.mem_range.2 h3, by rw [h1]; rfl⟩
        omega
    exact ⟨hr, fin listed u s w hsz hw hl hp hr⟩
  | succ fuel ih =>
    intro listed u s w hsz hf hw hl hle hp
    refine ⟨fin listed u s w hsz hw hl hp, fun i hi => ?_⟩
    obtain ⟨h1, o, h2, h3⟩ := mem_ready.1 hi
    have hilt : i < l.length := by have := (Array.getElem?_eq_some_iff.1 h2).1; simpa using this
    have h2' : l[i]? = some o := by simpa using h2
    have hK : ∀ v w2, R w w2 → (∀ w3, R w2 w3 → φ (0 + i) (w.heap.size, w2.heap.size) v w3) → wpAny P md l.toArray Q fuel (listed.setIfInBounds i true) ((frameF l 0 a0 u).put o.dst v) w2 := fun v w2 hw2 hv => by
      rw [frameF_upd l 0 a0 u hO i o h2' v]
      rw [Nat.zero_add] at hv ⊢
      have hzz := hz _ _ hw2
      refine ih _ _ (updS s i (w.heap.size, w2.heap.size)) _ (by simpa using hsz) ?_ (hT _ _ _ hw hw2) (fun j hj hjl => ?_) (fun j hj hjl => ?_) (fun j k hj hk hjl hkl hjk => ?_)
      · have : unlisted l.length (listed.setIfInBounds i true) < unlisted l.length listed := by
          refine countP_less _ _ _ (fun x hx => ?_) (List.mem_range.2 hilt) (by rw [h1]; rfl) ?_
          · by_cases hxi : i = x
            · subst hxi
              simp [hsz, hilt] at hx
            · rwa [getD_set_ne true hxi] at hx
          · simp [hsz, hilt]
        omega
      · by_cases hji : i = j
        · subst hji
          intro w3 h3
          show φ i (updS s i _ i) (updV u i v i) w3
          rw [show updV u i v i = v by simp [updV], show updS s i (w.heap.size, w2.heap.size) i = (w.heap.size, w2.heap.size) by simp [updS]]
          exact hv w3 h3
        · rw [getD_set_ne false hji] at hjl
          intro w3 h3
          show φ j (updS s i _ j) (updV u i v j) w3
          rw [show updV u i v j = u j by simp [updV]; omega, show updS s i (w.heap.size, w2.heap.size) j = s j by simp [updS]; omega]
          exact hl j hj hjl w3 (hT _ _ _ hw2 h3)
      · by_cases hji : i = j
        · subst hji
          simp [updS]
        · rw [getD_set_ne false hji] at hjl
          rw [show updS s i (w.heap.size, w2.heap.size) j = s j by simp [updS]; omega]
          exact Nat.le_trans (hle j hj hjl) hzz
      · by_cases hji : i = j
        · subst hji
          have hki : i ≠ k := hjk
          rw [getD_set_ne false hki] at hkl
          rw [show updS s i (w.heap.size, w2.heap.size) i = (w.heap.size, w2.heap.size) by simp [updS], show updS s i (w.heap.size, w2.heap.size) k = s k by simp [updS]; omega]
          exact .inr (hle k hk hkl)
        · rw [getD_set_ne false hji] at hjl
          by_cases hki : i = k
          · subst hki
            rw [show updS s i (w.heap.size, w2.heap.size) i = (w.heap.size, w2.heap.size) by simp [updS], show updS s i (w.heap.size, w2.heap.size) j = s j by simp [updS]; omega]
            exact .inl (hle j hj hjl)
          · rw [getD_set_ne false hki] at hkl
            rw [show updS s i (w.heap.size, w2.heap.size) j = s j by simp [updS]; omega, show updS s i (w.heap.size, w2.heap.size) k = s k by simp [updS]; omega]
            exact hp j k hj hk hjl hkl hjk
    have hst := hs.get i o h2' (frameF l 0 a0 u) u s (fun i o' s h1 h2 h3 => by have := frameF_get l 0 a0 u hO i o' s h1 h2 (by simpa using h3); rwa [Nat.zero_add] at this) (fun s v h1 h2 => (frameF_old l 0 a0 u s h1).trans h2) w hw (fun j hj => by
      obtain ⟨e, he, hb⟩ := Array.any_eq_true'.1 hj
      simp only [Bool.and_eq_true, beq_iff_eq] at hb
      have hlt := earlierB_get hE i o h2' e he hb.1
      have := h3 e he hb.1
      rw [hb.2] at this hlt
      exact hl j (by omega) this) (fun j k hj hk hjk => by
      obtain ⟨e, he, hb⟩ := Array.any_eq_true'.1 hj
      simp only [Bool.and_eq_true, beq_iff_eq] at hb
      have hlt := earlierB_get hE i o h2' e he hb.1
      have hj1 := h3 e he hb.1
      rw [hb.2] at hj1 hlt
      obtain ⟨e', he', hb'⟩ := Array.any_eq_true'.1 hk
      simp only [Bool.and_eq_true, beq_iff_eq] at hb'
      have hlt' := earlierB_get hE i o h2' e' he' hb'.1
      have hk1 := h3 e' he' hb'.1
      rw [hb'.2] at hk1 hlt'
      exact hp j k (by omega) (by omega) hj1 hk1 hjk) (wpAny P md l.toArray Q fuel (listed.setIfInBounds i true)) hK
    unfold wpOp
    simp only [h2]
    split
    · rename_i hwant
      rw [if_pos hwant] at hst
      exact .inl hst
    · rename_i hwant
      rw [if_neg hwant] at hst
      exact hst
/-- **The rule.** -/
theorem wp_region_invP {id : Nat} {Q : Exit → Act → World → Prop} {a : Act} {w : World} {l : List Oper} (hm : P.follows .mixedOrders = true) (hB : invB .any l = true)
    (R : World → World → Prop) (φ : Nat → Nat × Nat → Value → World → Prop) (hR : ∀ w, R w w) (hT : ∀ a b c, R a b → R b c → R a c) (hz : ∀ a b, R a b → a.heap.size ≤ b.heap.size)
    (hs : InvStepsP P .any l.toArray R φ l a { w with drawn := w.drawn + 1 } Q 0 l)
    (hd : ∀ (u : Nat → Value) (s : Nat → Nat × Nat) w', R { w with drawn := w.drawn + 1 } w' → (∀ i, i < l.length → φ i (s i) (u i) w') → (∀ i j, i < l.length → j < l.length → i ≠ j → (s i).2 ≤ (s j).1 ∨ (s j).2 ≤ (s i).1) → Q .normal (frameF l 0 a u) w') : (Code.region id l.toArray true).wp P Q a w := by
  refine wp_region_any hm ?_
  obtain ⟨u, hu⟩ := frameF_start l 0 a
  have H := wpAny_invP (md := .any) hB hR hT hz hs hd l.toArray.size (Array.replicate l.toArray.size false) u (fun _ => (0, 0)) { w with drawn := w.drawn + 1 } (by simp) (by
    unfold unlisted
    refine Nat.le_trans List.countP_le_length ?_
    simp) (hR _) (fun i _ h => by rw [getD_replicate_false] at h; cases h) (fun i _ h => by rw [getD_replicate_false] at h; cases h) (fun i _ _ _ h => by rw [getD_replicate_false] at h; cases h)
  rwa [hu] at H
end
end Go.Proofs.YtcbfpdenjdgnlaaGreat
