/- Words: a region that draws its order, each operation walked once: what is known of each operation's value holds in every later world. No claim of its own; no condition. -/
import Derived.Orders
import Derived.StillTail
import Derived.Deep.RegionHeld3
import Derived.Test.YtcbfpdenjdgnlaaGreatQt08
namespace Go.Proofs.YtcbfpdenjdgnlaaGreat
set_option linter.unusedVariables false
section
variable {P : Program} {ops : Array Oper} {md : Region.Mode}
theorem countP_less (l : List Nat) (p q : Nat → Bool) (hpq : ∀ x, q x = true → p x = true) {i : Nat} (hi : i ∈ l) (hp : p i = true) (hq : q i = false) : l.countP q < l.countP p := by
  induction l with
  | nil => cases hi
  | cons x l ih =>
    have hle : l.countP q ≤ l.countP p := List.countP_mono_left fun x _ => hpq x
    rw [List.countP_cons, List.countP_cons]
    rcases List.mem_cons.1 hi with rfl | h
    · rw [hp, hq]; simp; omega
    · have := ih h
      cases hx : q x
      · simp; omega
      · rw [hpq x hx]; simp; omega
/-- The frame with each operation's value in its slot. -/
def frameF : List Oper → Nat → Act → (Nat → Value) → Act
  | [], _, a, _ => a
  | o :: l, k, a, u => frameF l (k + 1) (a.put o.dst (u k)) u
def updV (u : Nat → Value) (i : Nat) (v : Value) : Nat → Value := fun j => if j = i then v else u j
theorem frameF_congr : ∀ (l : List Oper) (k : Nat) (a : Act) (u u' : Nat → Value), (∀ j, k ≤ j → u j = u' j) → frameF l k a u = frameF l k a u'
  | [], _, _, _, _, _ => rfl
  | o :: l, k, a, u, u', h => by
    show frameF l (k + 1) (a.put o.dst (u k)) u = frameF l (k + 1) (a.put o.dst (u' k)) u'
    rw [h k (Nat.le_refl _)]
    exact frameF_congr l (k + 1) _ u u' fun j hj => h j (by omega)
theorem put_put (a : Act) (d : Option Tmp) (v w : Value) : (a.put d v).put d w = a.put d w := by
  cases d with
  | none => rfl
  | some d => simp [Act.put, Array.setIfInBounds_setIfInBounds]
/-- The slots are written once. -/
def onceB : List Oper → Bool
  | [] => true
  | o :: l => (l.all fun o' => match o.dst with | some d => o'.dst != some d | none => true) && onceB l
theorem frameF_put_far : ∀ (l : List Oper) (k : Nat) (a : Act) (u : Nat → Value) (d : Option Tmp) (v : Value), (∀ o ∈ l, ∀ t, d = some t → o.dst ≠ some t) → frameF l k (a.put d v) u = (frameF l k a u).put d v
  | [], _, _, _, _, _, _ => rfl
  | o :: l, k, a, u, d, v, h => by
    show frameF l (k + 1) ((a.put d v).put o.dst (u k)) u = (frameF l (k + 1) (a.put o.dst (u k)) u).put d v
    rw [Act.put_comm a v (u k) (fun t ht => h o (by simp) t ht)]
    exact frameF_put_far l (k + 1) _ u d v fun o' ho' => h o' (by simp [ho'])
theorem frameF_upd : ∀ (l : List Oper) (k : Nat) (a : Act) (u : Nat → Value), onceB l = true → ∀ (i : Nat) (o : Oper), l[i]? = some o → ∀ v, (frameF l k a u).put o.dst v = frameF l k a (updV u (k + i) v)
  | [], _, _, _, _, i, o, hi, _ => by cases hi
  | o0 :: l, k, a, u, hB, i, o, hi, v => by
    simp only [onceB, Bool.and_eq_true, List.all_eq_true] at hB
    have hfar : ∀ o' ∈ l, ∀ t, o0.dst = some t → o'.dst ≠ some t := fun o' ho' t ht => by
      have := hB.1 o' ho'
      rw [ht] at this
      simpa using this
    cases i with
    | zero =>
      cases hi
      show (frameF l (k + 1) (a.put o0.dst (u k)) u).put o0.dst v = frameF l (k + 1) (a.put o0.dst (updV u k v k)) (updV u k v)
      rw [← frameF_put_far l (k + 1) _ u o0.dst v hfar, put_put]
      rw [show updV u k v k = v by simp [updV]]
      exact frameF_congr l (k + 1) _ _ _ fun j hj => by simp [updV]; omega
    | succ i =>
      have hi' : l[i]? = some o := by simpa using hi
      show (frameF l (k + 1) (a.put o0.dst (u k)) u).put o.dst v = frameF l (k + 1) (a.put o0.dst (updV u (k + (i + 1)) v k)) (updV u (k + (i + 1)) v)
      rw [frameF_upd l (k + 1) _ u hB.2 i o hi' v, show updV u (k + (i + 1)) v k = u k by simp [updV], show k + 1 + i = k + (i + 1) by omega]
theorem put_same (a : Act) (d : Option Tmp) : ∃ v, a.put d v = a := by
  cases d with
  | none => exact ⟨undef, rfl⟩
  | some d =>
    refine ⟨a.tmps.getD d undef, ?_⟩
    obtain ⟨t, ds⟩ := a
    simp only [Act.put]
    congr 1
    apply Array.ext
    · simp
    · intro i h1 h2
      by_cases hd : d = i
      · subst hd; simp [h2]
      · rw [Array.getElem_setIfInBounds_ne _ hd]
theorem frameF_start : ∀ (l : List Oper) (k : Nat) (a : Act), ∃ u, frameF l k a u = a
  | [], _, a => ⟨fun _ => undef, rfl⟩
  | o :: l, k, a => by
    obtain ⟨v, hv⟩ := put_same a o.dst
    obtain ⟨u, hu⟩ := frameF_start l (k + 1) a
    refine ⟨updV u k v, ?_⟩
    show frameF l (k + 1) (a.put o.dst (updV u k v k)) (updV u k v) = a
    rw [show updV u k v k = v by simp [updV], hv]
    exact (frameF_congr l (k + 1) a (updV u k v) u fun j hj => by simp [updV]; omega).trans hu
/-- What is known of a value, in every later world. -/
def Later (R : World → World → Prop) (φ : Nat → Value → World → Prop) (i : Nat) (v : Value) (w : World) : Prop := ∀ w', R w w' → φ i v w'
/-- Each operation, once. -/
def InvSteps (P : Program) (md : Region.Mode) (ops : Array Oper) (R : World → World → Prop) (φ : Nat → Value → World → Prop) (fr : (Nat → Value) → Act) (w0 : World) (Q : Exit → Act → World → Prop) : Nat → List Oper → Prop
  | _, [] => True
  | k, o :: l => (∀ (u : Nat → Value) (w1 : World), R w0 w1 → (∀ j, (o.after.any fun e => Region.binds md e && e.on == j) = true → Later R φ j (u j) w1) →
      ∀ K : Act → World → Prop, (∀ v w2, R w1 w2 → (∀ w3, R w2 w3 → φ k v w3) → K ((fr u).put o.dst v) w2) →
        if Region.wanted o (yielded ops (fr u).tmps) = true then Oper.wp P o (fr u) w1 K Q else K ((fr u).put o.dst undef) w1) ∧ InvSteps P md ops R φ fr w0 Q (k + 1) l
theorem InvSteps.get {R : World → World → Prop} {φ : Nat → Value → World → Prop} {fr : (Nat → Value) → Act} {w0 : World} {Q : Exit → Act → World → Prop} : ∀ {l : List Oper} {k : Nat}, InvSteps P md ops R φ fr w0 Q k l → ∀ (i : Nat) (o : Oper), l[i]? = some o →
    ∀ (u : Nat → Value) (w1 : World), R w0 w1 → (∀ j, (o.after.any fun e => Region.binds md e && e.on == j) = true → Later R φ j (u j) w1) →
      ∀ K : Act → World → Prop, (∀ v w2, R w1 w2 → (∀ w3, R w2 w3 → φ (k + i) v w3) → K ((fr u).put o.dst v) w2) →
        if Region.wanted o (yielded ops (fr u).tmps) = true then Oper.wp P o (fr u) w1 K Q else K ((fr u).put o.dst undef) w1
  | [], _, _, _, _, hi => by cases hi
  | o0 :: l, k, h, 0, o, hi => by cases hi; exact h.1
  | o0 :: l, k, h, i + 1, o, hi => by
    have := InvSteps.get h.2 i o (by simpa using hi)
    rwa [show k + 1 + i = k + (i + 1) by omega] at this
/-- Each waits for earlier ones alone. -/
def earlierB (md : Region.Mode) : Nat → List Oper → Bool
  | _, [] => true
  | k, o :: l => (o.after.all fun e => !Region.binds md e || decide (e.on < k)) && earlierB md (k + 1) l
theorem earlierB_get : ∀ {l : List Oper} {k : Nat}, earlierB md k l = true → ∀ (i : Nat) (o : Oper), l[i]? = some o → ∀ e ∈ o.after, Region.binds md e = true → e.on < k + i
  | [], _, _, _, _, hi => by cases hi
  | o0 :: l, k, h, 0, o, hi => by
    cases hi
    simp only [earlierB, Bool.and_eq_true] at h
    intro e he hb
    have := Array.all_eq_true_iff_forall_mem.1 h.1 e he
    simpa [hb] using this
  | o0 :: l, k, h, i + 1, o, hi => by
    simp only [earlierB, Bool.and_eq_true] at h
    have := earlierB_get h.2 i o (by simpa using hi)
    rwa [show k + 1 + i = k + (i + 1) by omega] at this
def unlisted (n : Nat) (listed : Array Bool) : Nat := (List.range n).countP fun i => !listed.getD i true
theorem all_listed {l : List Oper} (hE : earlierB md 0 l = true) {listed : Array Bool} (hsz : listed.size = l.length) (hr : Region.ready md l.toArray listed = []) : ∀ i, i < l.length → listed.getD i false = true := by
  intro i
  induction i using Nat.strongRecOn with
  | _ i ih =>
    intro hi
    cases hg : listed.getD i false with
    | true => rfl
    | false =>
      exfalso
      have hm : i ∈ Region.ready md l.toArray listed := by
        rw [mem_ready]
        refine ⟨getD_in (by omega) hg, l[i], by simp [hi], fun e he hb => ?_⟩
        have hlt := earlierB_get hE i _ (List.getElem?_eq_getElem hi) e he hb
        exact ih e.on (by omega) (by omega)
      rw [hr] at hm
      cases hm
def invB (md : Region.Mode) (l : List Oper) : Bool := onceB l && earlierB md 0 l
theorem wpAny_inv {l : List Oper} {R : World → World → Prop} {φ : Nat → Value → World → Prop} {Q : Exit → Act → World → Prop} {a0 : Act} {w0 : World} (hB : invB md l = true) (hR : ∀ w, R w w) (hT : ∀ a b c, R a b → R b c → R a c)
    (hs : InvSteps P md l.toArray R φ (frameF l 0 a0) w0 Q 0 l) (hd : ∀ u w, R w0 w → (∀ i, i < l.length → φ i (u i) w) → Q .normal (frameF l 0 a0 u) w) :
    ∀ (fuel : Nat) (listed : Array Bool) (u : Nat → Value) (w : World), listed.size = l.length → unlisted l.length listed ≤ fuel → R w0 w →
      (∀ i, i < l.length → listed.getD i false = true → Later R φ i (u i) w) → wpAny P md l.toArray Q fuel listed (frameF l 0 a0 u) w := by
  simp only [invB, Bool.and_eq_true] at hB
  obtain ⟨hO, hE⟩ := hB
  have fin : ∀ (listed : Array Bool) (u : Nat → Value) (w : World), listed.size = l.length → R w0 w → (∀ i, i < l.length → listed.getD i false = true → Later R φ i (u i) w) →
      Region.ready md l.toArray listed = [] → Q .normal (frameF l 0 a0 u) w := fun listed u w hsz hw hl hr =>
    hd u w hw fun i hi => hl i hi (all_listed hE hsz hr i hi) w (hR w)
  intro fuel
  induction fuel with
  | zero =>
    intro listed u w hsz hf hw hl
    have hr : Region.ready md l.toArray listed = [] := by
      cases hc : Region.ready md l.toArray listed with
      | nil => rfl
      | cons i r =>
        exfalso
        have hi : i ∈ Region.ready md l.toArray listed := by rw [hc]; simp
        obtain ⟨h1, o, h2, _⟩ := mem_ready.1 hi
        have h3 : i < l.length := by have := (Array.getElem?_eq_some_iff.1 h2).1; simpa using this
        have : 0 < unlisted l.length listed := List.countP_pos_iff.2 ⟨i, List.mem_range.2 h3, by rw [h1]; rfl⟩
        omega
    exact ⟨hr, fin listed u w hsz hw hl hr⟩
  | succ fuel ih =>
    intro listed u w hsz hf hw hl
    refine ⟨fin listed u w hsz hw hl, fun i hi => ?_⟩
    obtain ⟨h1, o, h2, h3⟩ := mem_ready.1 hi
    have hilt : i < l.length := by have := (Array.getElem?_eq_some_iff.1 h2).1; simpa using this
    have h2' : l[i]? = some o := by simpa using h2
    have hK : ∀ v w2, R w w2 → (∀ w3, R w2 w3 → φ (0 + i) v w3) → wpAny P md l.toArray Q fuel (listed.setIfInBounds i true) ((frameF l 0 a0 u).put o.dst v) w2 := fun v w2 hw2 hv => by
      rw [frameF_upd l 0 a0 u hO i o h2' v]
      rw [Nat.zero_add] at hv ⊢
      refine ih _ _ _ (by simpa using hsz) ?_ (hT _ _ _ hw hw2) fun j hj hjl => ?_
      · have : unlisted l.length (listed.setIfInBounds i true) < unlisted l.length listed := by
          refine countP_less _ _ _ (fun x hx => ?_) (List.mem_range.2 hilt) (by rw [h1]; rfl) ?_
          · by_cases hxi : i = x
            · subst hxi
              simp [hsz, hilt] at hx
            · rwa [getD_set_ne true hxi] at hx
          · simp [hsz, hilt]
        omega
      · by_cases hji : i = j
        · subst hji
          intro w3 h3
          rw [show updV u i v i = v by simp [updV]]
          exact hv w3 h3
        · rw [getD_set_ne false hji] at hjl
          intro w3 h3
          rw [show updV u i v j = u j by simp [updV]; omega]
          exact hl j hj hjl w3 (hT _ _ _ hw2 h3)
    have hst := hs.get i o h2' u w hw (fun j hj => by
      obtain ⟨e, he, hb⟩ := Array.any_eq_true'.1 hj
      simp only [Bool.and_eq_true, beq_iff_eq] at hb
      have hlt := earlierB_get hE i o h2' e he hb.1
      have := h3 e he hb.1
      rw [hb.2] at this hlt
      exact hl j (by omega) this) (wpAny P md l.toArray Q fuel (listed.setIfInBounds i true)) hK
    unfold wpOp
    simp only [h2]
    split
    · rename_i hwant
      rw [if_pos hwant] at hst
      exact .inl hst
    · rename_i hwant
      rw [if_neg hwant] at hst
      exact hst
/-- **The rule.** 'R': what each operation does to the world; 'φ i': what is known of operation i's value from then on. -/
theorem wp_region_inv {id : Nat} {Q : Exit → Act → World → Prop} {a : Act} {w : World} {l : List Oper} (hm : P.follows .mixedOrders = true) (hB : invB .any l = true)
    (R : World → World → Prop) (φ : Nat → Value → World → Prop) (hR : ∀ w, R w w) (hT : ∀ a b c, R a b → R b c → R a c)
    (hs : InvSteps P .any l.toArray R φ (frameF l 0 a) { w with drawn := w.drawn + 1 } Q 0 l)
    (hd : ∀ u w', R { w with drawn := w.drawn + 1 } w' → (∀ i, i < l.length → φ i (u i) w') → Q .normal (frameF l 0 a u) w') : (Code.region id l.toArray true).wp P Q a w := by
  refine wp_region_any hm ?_
  obtain ⟨u, hu⟩ := frameF_start l 0 a
  have H := wpAny_inv (md := .any) hB hR hT hs hd l.toArray.size (Array.replicate l.toArray.size false) u { w with drawn := w.drawn + 1 } (by simp) (by
    unfold unlisted
    refine Nat.le_trans List.countP_le_length ?_
    simp) (hR _) (fun i _ h => by rw [getD_replicate_false] at h; cases h)
  rwa [hu] at H
end
end Go.Proofs.YtcbfpdenjdgnlaaGreat
/- Words: rows of octets while other blocks are written; the common sum. No claim of its own; no condition. -/
namespace Go.Proofs.YtcbfpdenjdgnlaaGreat
open Go.ChangeShapes Go.WideShapes Go.ChangeAt Go.RowKit
set_option linter.unusedVariables false
set_option linter.unusedSimpArgs false
theorem own_rows {α : Type} {d : Kd α} (hf : d.Flat) {e : TypeId} {B base : Nat} {w : World} {A : Option Addr} {n c : Nat} {xs : List α} (h : d.Own e B w base (.slice A n c) xs) (B' : Nat) : d.Row e B' w A xs := by
  obtain ⟨A', c', h1, _, _, h2, _⟩ := Kd.own_row (Kd.own_flat (B' := B') hf h (Nat.le_refl _))
  cases h1
  exact h2
theorem row_any {α : Type} {d : Kd α} (hf : d.Flat) {e : TypeId} {w : World} {A : Option Addr} {xs : List α} (h : d.Row e 0 w A xs) (B : Nat) : d.Row e B w A xs := by
  intro hne
  obtain ⟨ad, rfl, hb, hx⟩ := h hne
  refine ⟨ad, rfl, ⟨hb.1, .inr (hb.2.resolve_left (by omega))⟩, fun i x hi => ?_⟩
  obtain ⟨cs, hK, hc⟩ := hx i x hi
  exact ⟨cs, hf _ _ _ _ _ _ hK, hc⟩
theorem row_set {α : Type} {d : Kd α} (hf : d.Flat) {e t : TypeId} {w : World} {N i : Nat} {cs : Array Value} {f : Nat × Nat} {A : Option Addr} {xs : List α} (hN : w.heap[N]? = some (.cells cs t f)) (ht : t ∉ e :: d.E) (u : Value) (h : ∀ B, d.Row e B w A xs) : ∀ B, d.Row e B (w.setCell ⟨N, i, none⟩ u) A xs :=
  row_any hf (Kd.row_keep (Keeps.set (p := ⟨N, i, none⟩) hN (Nat.zero_le _) ht u) (h 0))
theorem row_setRow {α : Type} {d : Kd α} (hf : d.Flat) {e t : TypeId} {w : World} {N : Nat} {cs cs' : Array Value} {f : Nat × Nat} {A : Option Addr} {xs : List α} (hN : w.heap[N]? = some (.cells cs t f)) (ht : t ∉ e :: d.E) (h : ∀ B, d.Row e B w A xs) : ∀ B, d.Row e B (w.setRow N cs') A xs := by
  refine row_any hf (Kd.row_keep ⟨by simp, fun b hb => setRow_far ?_⟩ (h 0))
  rintro rfl
  rcases hb.2 with h1 | ⟨c, t', f', h1, h2⟩
  · omega
  · rw [hN] at h1
    cases h1
    exact ht h2
/-- The state behind so many blocks of a text. -/
def shaS (p : List UInt8) : Nat → List UInt32
  | 0 => h0L
  | i + 1 => blkF (shaS p i) kL ((p.drop (64 * i)).take 64)
theorem shaS_len (p : List UInt8) (i : Nat) : (shaS p i).length = 8 := by
  induction i with
  | zero => rfl
  | succ i ih =>
    show (sums (rnds _ _ _ 64) _ 8).length = 8
    rw [sums_len, rnds_len _ _ ih]
/-- A text's sum. -/
def shaB (b : List UInt8) : List UInt8 := wordsB (shaS (padB b) ((padB b).length / 64))
end Go.Proofs.YtcbfpdenjdgnlaaGreat
