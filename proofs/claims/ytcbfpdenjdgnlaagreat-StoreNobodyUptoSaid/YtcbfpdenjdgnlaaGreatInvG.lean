/- Regions that draw their order: each operation at a frame that is a letter. No claim of its own; no condition. -/
import Derived.Test.YtcbfpdenjdgnlaaGreatInv
namespace Go.Proofs.YtcbfpdenjdgnlaaGreat

set_option linter.unusedVariables false
variable {P : Program} {md : Region.Mode}
theorem wanted_on {o : Oper} {ops : Array Oper} {T : Array Value} {g s : Nat} {b : Bool} (hg : o.guard = some (g, b)) (ho : (ops[g]?).bind (·.dst) = some s) (hx : T[s]? = some (.bool b)) : Region.wanted o (yielded ops T) = true := by
  unfold Region.wanted yielded
  rw [hg]
  dsimp only
  rw [ho]
  dsimp only [Option.bind_some]
  rw [hx]
  simp
theorem wanted_off {o : Oper} {ops : Array Oper} {T : Array Value} {g s : Nat} {b b' : Bool} (hg : o.guard = some (g, b)) (ho : (ops[g]?).bind (·.dst) = some s) (hx : T[s]? = some (.bool b')) (hb : b' ≠ b) : ¬ Region.wanted o (yielded ops T) = true := by
  unfold Region.wanted yielded
  rw [hg]
  dsimp only
  rw [ho]
  dsimp only [Option.bind_some]
  rw [hx]
  simpa using hb
theorem wanted_undef {o : Oper} {ops : Array Oper} {T : Array Value} {g s : Nat} {b : Bool} (hg : o.guard = some (g, b)) (ho : (ops[g]?).bind (·.dst) = some s) (hx : T[s]? = some undef) : ¬ Region.wanted o (yielded ops T) = true := by
  unfold Region.wanted yielded
  rw [hg]
  dsimp only
  rw [ho]
  dsimp only [Option.bind_some]
  rw [hx]
  simp [undef]
theorem frameF_old : ∀ (l : List Oper) (k : Nat) (a : Act) (u : Nat → Value) (s : Nat), (l.all fun o => o.dst != some s) = true → (frameF l k a u).tmps[s]? = a.tmps[s]?
  | [], _, _, _, _, _ => rfl
  | o :: l, k, a, u, s, h => by
    rw [List.all_cons, Bool.and_eq_true] at h
    show (frameF l (k + 1) (a.put o.dst (u k)) u).tmps[s]? = _
    rw [frameF_old l (k + 1) _ u s h.2]
    have h1 : o.dst ≠ some s := by simpa using h.1
    cases hd : o.dst with
    | none => rfl
    | some d =>
      rw [hd] at h1
      show (a.tmps.setIfInBounds d (u k))[s]? = _
      exact Array.getElem?_setIfInBounds_ne (fun e => h1 (by rw [e]))
theorem put_size (a : Act) (d : Option Tmp) (v : Value) : (a.put d v).tmps.size = a.tmps.size := by
  cases d with
  | none => rfl
  | some d => simp [Act.put]
theorem frameF_get : ∀ (l : List Oper) (k : Nat) (a : Act) (u : Nat → Value), onceB l = true → ∀ (i : Nat) (o : Oper) (s : Nat), l[i]? = some o → o.dst = some s → s < a.tmps.size → (frameF l k a u).tmps[s]? = some (u (k + i))
  | [], _, _, _, _, _, _, _, hi, _, _ => by cases hi
  | o0 :: l, k, a, u, hB, 0, o, s, hi, hd, hs => by
    cases hi
    simp only [onceB, Bool.and_eq_true] at hB
    show (frameF l (k + 1) (a.put o0.dst (u k)) u).tmps[s]? = _
    rw [frameF_old l (k + 1) _ u s (by have := hB.1; rw [hd] at this; exact this), hd]
    show (a.tmps.setIfInBounds s (u k))[s]? = _
    rw [Array.getElem?_setIfInBounds_self]
    simp [hs]
  | o0 :: l, k, a, u, hB, i + 1, o, s, hi, hd, hs => by
    simp only [onceB, Bool.and_eq_true] at hB
    show (frameF l (k + 1) (a.put o0.dst (u k)) u).tmps[s]? = _
    rw [frameF_get l (k + 1) _ u hB.2 i o s (by simpa using hi) hd (by rw [put_size]; exact hs), show k + 1 + i = k + (i + 1) by omega]
/-- Each operation, once; its frame a letter. -/
def InvStepsA (P : Program) (md : Region.Mode) (ops : Array Oper) (R : World → World → Prop) (φ : Nat → Value → World → Prop) (l0 : List Oper) (a0 : Act) (w0 : World) (Q : Exit → Act → World → Prop) : Nat → List Oper → Prop
  | _, [] => True
  | k, o :: l => (∀ (A : Act) (u : Nat → Value), (∀ (i : Nat) (o' : Oper) (s : Nat), l0[i]? = some o' → o'.dst = some s → Nat.blt s a0.tmps.size = true → A.tmps[s]? = some (u i)) →
      (∀ (s : Nat) (v : Value), (l0.all fun o' => o'.dst != some s) = true → a0.tmps[s]? = some v → A.tmps[s]? = some v) → ∀ (w1 : World), R w0 w1 → (∀ j, (o.after.any fun e => Region.binds md e && e.on == j) = true → ∀ w', R w1 w' → φ j (u j) w') →
      ∀ K : Act → World → Prop, (∀ v w2, R w1 w2 → (∀ w3, R w2 w3 → φ k v w3) → K (A.put o.dst v) w2) →
        if Region.wanted o (yielded ops A.tmps) = true then Oper.wp P o A w1 K Q else K (A.put o.dst undef) w1) ∧ InvStepsA P md ops R φ l0 a0 w0 Q (k + 1) l
theorem invSteps_of {ops : Array Oper} {R : World → World → Prop} {φ : Nat → Value → World → Prop} {l0 : List Oper} {a0 : Act} (hB : onceB l0 = true) {w0 : World} {Q : Exit → Act → World → Prop} : ∀ (l : List Oper) (k : Nat), InvStepsA P md ops R φ l0 a0 w0 Q k l → InvSteps P md ops R φ (frameF l0 0 a0) w0 Q k l
  | [], _, _ => trivial
  | o :: l, k, h => ⟨fun u w1 hR hd K hK => h.1 (frameF l0 0 a0 u) u (fun i o' s h1 h2 h3 => by have := frameF_get l0 0 a0 u hB i o' s h1 h2 (by simpa using h3); rwa [Nat.zero_add] at this) (fun s v h1 h2 => (frameF_old l0 0 a0 u s h1).trans h2) w1 hR (fun j hj => hd j hj) K hK, invSteps_of hB l (k + 1) h.2⟩
theorem wp_region_invA {id : Nat} {Q : Exit → Act → World → Prop} {a : Act} {w : World} {l : List Oper} (hm : P.follows .mixedOrders = true) (hB : invB .any l = true)
    (R : World → World → Prop) (φ : Nat → Value → World → Prop) (hR : ∀ w, R w w) (hT : ∀ a b c, R a b → R b c → R a c)
    (hs : InvStepsA P .any l.toArray R φ l a { w with drawn := w.drawn + 1 } Q 0 l)
    (hd : ∀ u w', R { w with drawn := w.drawn + 1 } w' → (∀ i, i < l.length → φ i (u i) w') → Q .normal (frameF l 0 a u) w') : (Code.region id l.toArray true).wp P Q a w :=
  wp_region_inv hm hB R φ hR hT (invSteps_of (by unfold invB at hB; exact (Bool.and_eq_true _ _ ▸ hB).1) l 0 hs) hd
end Go.Proofs.YtcbfpdenjdgnlaaGreat
