/- Words: as InvTG, and one operation may change what the others keep. No claim of its own; no condition. -/
import Derived.Test.YtcbfpdenjdgnlaaGreatQt21
import Derived.Test.YtcbfpdenjdgnlaaGreatQt17
namespace Go.Proofs.YtcbfpdenjdgnlaaGreat
set_option linter.unusedVariables false
section
variable {P : Program} {md : Region.Mode}
/-- Each operation that the mask names, once. -/
def InvStepsC (P : Program) (md : Region.Mode) (ops : Array Oper) (c : Nat) (Rs R : World → World → Prop) (φ : Nat → Value → World → Prop) (fr : (Nat → Value) → Act) (ms0 : List Bool) (w0 : World) (Q : Exit → Act → World → Prop) : Nat → List Bool → List Oper → Prop
  | k, true :: ms, o :: l => (∀ (u : Nat → Value) (w1 : World), (if k = c then Rs w0 w1 else R w0 w1) → (∀ j, (o.after.any fun e => Region.binds md e && (e.on == j && ms0.getD j false)) = true → Later (fun a b => if j = c then Rs a b else R a b) φ j (u j) w1) →
      ∀ K : Act → World → Prop, (∀ v w2, (if k = c then R w1 w2 else Rs w1 w2) → (∀ w3, (if k = c then Rs w2 w3 else R w2 w3) → φ k v w3) → K ((fr u).put o.dst v) w2) →
        if Region.wanted o (yielded ops (fr u).tmps) = true then Oper.wp P o (fr u) w1 K Q else K ((fr u).put o.dst undef) w1) ∧ InvStepsC P md ops c Rs R φ fr ms0 w0 Q (k + 1) ms l
  | k, false :: ms, _ :: l => InvStepsC P md ops c Rs R φ fr ms0 w0 Q (k + 1) ms l
  | _, _, _ => True
theorem InvStepsC.get {ops : Array Oper} {c : Nat} {Rs R : World → World → Prop} {φ : Nat → Value → World → Prop} {fr : (Nat → Value) → Act} {ms0 : List Bool} {w0 : World} {Q : Exit → Act → World → Prop} : ∀ {ms : List Bool} {l : List Oper} {k : Nat}, InvStepsC P md ops c Rs R φ fr ms0 w0 Q k ms l →
    ∀ (i : Nat) (o : Oper), l[i]? = some o → ms[i]? = some true →
    ∀ (u : Nat → Value) (w1 : World), (if k + i = c then Rs w0 w1 else R w0 w1) → (∀ j, (o.after.any fun e => Region.binds md e && (e.on == j && ms0.getD j false)) = true → Later (fun a b => if j = c then Rs a b else R a b) φ j (u j) w1) →
      ∀ K : Act → World → Prop, (∀ v w2, (if k + i = c then R w1 w2 else Rs w1 w2) → (∀ w3, (if k + i = c then Rs w2 w3 else R w2 w3) → φ (k + i) v w3) → K ((fr u).put o.dst v) w2) →
        if Region.wanted o (yielded ops (fr u).tmps) = true then Oper.wp P o (fr u) w1 K Q else K ((fr u).put o.dst undef) w1
  | [], _, _, _, i, _, _, hm => by cases hm
  | _ :: _, [], _, _, i, _, hi, _ => by cases hi
  | true :: ms, o0 :: l, k, h, 0, o, hi, _ => by cases hi; exact h.1
  | false :: ms, o0 :: l, k, h, 0, o, hi, hm => by cases hm
  | true :: ms, o0 :: l, k, h, i + 1, o, hi, hm => by
    have := InvStepsC.get (ms := ms) h.2 i o (by simpa using hi) (by simpa using hm)
    rwa [show k + 1 + i = k + (i + 1) by omega] at this
  | false :: ms, o0 :: l, k, h, i + 1, o, hi, hm => by
    have h' : InvStepsC P md ops c Rs R φ fr ms0 w0 Q (k + 1) ms l := h
    have := InvStepsC.get h' i o (by simpa using hi) (by simpa using hm)
    rwa [show k + 1 + i = k + (i + 1) by omega] at this
section
variable {l : List Oper} {ms : List Bool} {T : List Nat} {listed0 : Array Bool}
theorem wpAny_invc {c : Nat} {Rs R : World → World → Prop} {φ : Nat → Value → World → Prop} {Q : Exit → Act → World → Prop} {a0 : Act} {w0 : World} (hB : invtB md l ms T listed0 = true) (hRs : ∀ w, Rs w w) (hTs : ∀ a b d, Rs a b → Rs b d → Rs a d) (hsub : ∀ a b, Rs a b → R a b) (hT : ∀ a b d, R a b → R b d → R a d)
    (hs : InvStepsC P md l.toArray c Rs R φ (frameM ms l 0 a0) ms w0 Q 0 ms l) (hd : ∀ u w, R w0 w → (∀ i, ms.getD i false = true → φ i (u i) w) → wpList P l.toArray Q (pickT l T) (frameM ms l 0 a0 u) w) :
    ∀ (fuel : Nat) (listed : Array Bool) (u : Nat → Value) (w : World), MInv md l ms T listed → unlistedM l.length ms listed + T.length ≤ fuel → ((listed.getD c false = true ∧ R w0 w) ∨ (listed.getD c false = false ∧ Rs w0 w)) →
      (∀ i, i < l.length → ms.getD i false = true → listed.getD i false = true → Later (fun a b => if i = c then Rs a b else R a b) φ i (u i) w) → wpAny P md l.toArray Q fuel listed (frameM ms l 0 a0 u) w := by
  have hB' := hB
  simp only [invtB, Bool.and_eq_true, decide_eq_true_eq] at hB'
  obtain ⟨hO, hml, _, _, _, _, hseq⟩ := hB'
  have fin : ∀ (fuel : Nat) (listed : Array Bool) (u : Nat → Value) (w : World), MInv md l ms T listed → T.length ≤ fuel → R w0 w → (∀ i, i < l.length → ms.getD i false = true → listed.getD i false = true) →
      (∀ i, i < l.length → ms.getD i false = true → listed.getD i false = true → Later (fun a b => if i = c then Rs a b else R a b) φ i (u i) w) → wpAny P md l.toArray Q fuel listed (frameM ms l 0 a0 u) w := fun fuel listed u w inv hf hw hall hl => by
    have e : listed = ((List.range l.length).map fun i => !T.contains i).toArray := by
      apply Array.ext
      · simp [inv.size]
      · intro i h1 h2
        have hil : i < l.length := by rw [← inv.size]; exact h1
        simp only [List.getElem_toArray, List.getElem_map, List.getElem_range]
        cases hc : T.contains i with
        | true =>
          have := inv.noT i (List.contains_iff_mem.1 hc) hil
          simpa [h1] using this
        | false =>
          have : listed.getD i false = true := by
            cases hx : ms.getD i false with
            | true => exact hall i hil hx
            | false => exact inv.pre i hil hx hc
          simpa [h1] using this
    refine wpAny_tail T listed fuel _ w hf (by rw [e]; exact hseq) (tailW_of T _ _ (hd u w hw fun i hi => ?_))
    have hil : i < l.length := by
      rw [← hml]
      rcases Nat.lt_or_ge i ms.length with h | h
      · exact h
      · rw [List.getD_eq_getElem?_getD, List.getElem?_eq_none h] at hi; cases hi
    exact hl i hil hi (hall i hil hi) w (by show if i = c then Rs w w else R w w; split; exact hRs w; exact hsub _ _ (hRs w))
  have toR : ∀ {listed : Array Bool} {w : World}, ((listed.getD c false = true ∧ R w0 w) ∨ (listed.getD c false = false ∧ Rs w0 w)) → R w0 w := fun h => h.elim (fun h => h.2) (fun h => hsub _ _ h.2)
  intro fuel
  induction fuel with
  | zero =>
    intro listed u w inv hf hw hl
    refine fin 0 listed u w inv (by omega) (toR hw) (fun i hi hm => ?_) hl
    cases hx : listed.getD i false with
    | true => rfl
    | false =>
      exfalso
      have : 0 < unlistedM l.length ms listed := List.countP_pos_iff.2 ⟨i, List.mem_range.2 hi, by rw [hm, getD_in (by rw [inv.size]; omega) hx]; rfl⟩
      omega
  | succ fuel ih =>
    intro listed u w inv hf hw hl
    by_cases hall : ∀ i, i < l.length → ms.getD i false = true → listed.getD i false = true
    · have h0 : unlistedM l.length ms listed = 0 ∨ 0 < unlistedM l.length ms listed := by omega
      exact fin (fuel + 1) listed u w inv (by omega) (toR hw) hall hl
    · obtain ⟨i0, h0⟩ := Classical.not_forall.1 hall
      obtain ⟨hi0, h0⟩ := Classical.not_imp.1 h0
      obtain ⟨hm0, h0⟩ := Classical.not_imp.1 h0
      have hun0 : listed.getD i0 true = false := getD_in (by rw [inv.size]; omega) (by simpa using h0)
      have hne := invt_some hB inv i0 hi0 hm0 hun0
      refine ⟨fun h => (by obtain ⟨j, hj⟩ := hne; rw [h] at hj; cases hj), fun i hi => ?_⟩
      obtain ⟨h1, o, h2, h3⟩ := mem_ready.1 hi
      have hilt : i < l.length := by have := (Array.getElem?_eq_some_iff.1 h2).1; simpa using this
      have h2' : l[i]? = some o := by simpa using h2
      have hTi := invt_wait hB inv _ i0 rfl hi0 hm0 hun0 i hi
      have hmi : ms.getD i false = true := by
        cases hx : ms.getD i false with
        | true => rfl
        | false =>
          have := inv.pre i hilt hx hTi
          rw [getD_both h1] at this
          cases this
      have hmi' : ms[i]? = some true := by
        rw [List.getD_eq_getElem?_getD] at hmi
        cases hx : ms[i]? with
        | none => rw [hx] at hmi; cases hmi
        | some b => rw [hx] at hmi; exact congrArg some hmi
      have hK : ∀ v w2, (if 0 + i = c then R w w2 else Rs w w2) → (∀ w3, (if 0 + i = c then Rs w2 w3 else R w2 w3) → φ (0 + i) v w3) → wpAny P md l.toArray Q fuel (listed.setIfInBounds i true) ((frameM ms l 0 a0 u).put o.dst v) w2 := fun v w2 hw2 hv => by
        rw [frameM_upd ms l 0 a0 u hO i o h2' hmi' v]
        rw [Nat.zero_add] at hv ⊢
        rw [Nat.zero_add] at hw2
        have hw2R : R w w2 := by
          by_cases hic : i = c
          · rwa [if_pos hic] at hw2
          · rw [if_neg hic] at hw2; exact hsub _ _ hw2
        have hw2' : ((listed.setIfInBounds i true).getD c false = true ∧ R w0 w2) ∨ ((listed.setIfInBounds i true).getD c false = false ∧ Rs w0 w2) := by
          by_cases hic : i = c
          · exact .inl ⟨by subst hic; simp [inv.size, hilt], hT _ _ _ (toR hw) hw2R⟩
          · rw [if_neg hic] at hw2
            rw [getD_set_ne false hic]
            rcases hw with ⟨h1', h2''⟩ | ⟨h1', h2''⟩
            · exact .inl ⟨h1', hT _ _ _ h2'' (hsub _ _ hw2)⟩
            · exact .inr ⟨h1', hTs _ _ _ h2'' hw2⟩
        refine ih _ _ _ (inv.set hi hTi) ?_ hw2' fun j hj hmj hjl => ?_
        · have : unlistedM l.length ms (listed.setIfInBounds i true) < unlistedM l.length ms listed := by
            refine countP_less _ _ _ (fun x hx => ?_) (List.mem_range.2 hilt) (by rw [hmi, h1]; rfl) ?_
            · by_cases hxi : i = x
              · subst hxi
                simp [inv.size, hilt] at hx
              · rwa [getD_set_ne true hxi] at hx
            · simp [inv.size, hilt]
          omega
        · by_cases hji : i = j
          · subst hji
            intro w3 h3
            rw [show updV u i v i = v by simp [updV]]
            exact hv w3 h3
          · rw [getD_set_ne false hji] at hjl
            intro w3 h3
            rw [show updV u i v j = u j by simp [updV]; omega]
            refine hl j hj hmj hjl w3 ?_
            show if j = c then Rs w w3 else R w w3
            have h3' : if j = c then Rs w2 w3 else R w2 w3 := h3
            by_cases hjc : j = c
            · rw [if_pos hjc] at h3' ⊢
              rw [if_neg (by omega)] at hw2
              exact hTs _ _ _ hw2 h3'
            · rw [if_neg hjc] at h3' ⊢
              exact hT _ _ _ hw2R h3'
      have hwi : if 0 + i = c then Rs w0 w else R w0 w := by
        rw [Nat.zero_add]
        by_cases hic : i = c
        · rw [if_pos hic]
          rcases hw with ⟨h1', _⟩ | ⟨_, h2''⟩
          · subst hic; rw [getD_both h1] at h1'; cases h1'
          · exact h2''
        · rw [if_neg hic]; exact toR hw
      have hst := hs.get i o h2' hmi' u w hwi (fun j hj => by
        obtain ⟨e, he, hb⟩ := Array.any_eq_true'.1 hj
        simp only [Bool.and_eq_true, beq_iff_eq] at hb
        have := h3 e he hb.1
        rw [hb.2.1] at this
        have hjl : j < l.length := by
          rw [← hml]
          rcases Nat.lt_or_ge j ms.length with h | h
          · exact h
          · have := hb.2.2; rw [List.getD_eq_getElem?_getD, List.getElem?_eq_none h] at this; cases this
        exact hl j hjl hb.2.2 this) (wpAny P md l.toArray Q fuel (listed.setIfInBounds i true)) hK
      unfold wpOp
      simp only [h2]
      split
      · rename_i hwant
        rw [if_pos hwant] at hst
        exact .inl hst
      · rename_i hwant
        rw [if_neg hwant] at hst
        exact hst
theorem wpAny_invc' {fuel : Nat} {Q : Exit → Act → World → Prop} {a0 : Act} {w0 : World} (ms : List Bool) (T : List Nat) (hB : invtB md l ms T listed0 = true) (hfu : decide (unlistedM l.length ms listed0 + T.length ≤ fuel) = true) (c : Nat) (hc : listed0.getD c false = false) (Rs R : World → World → Prop) (φ : Nat → Value → World → Prop) (hRs : ∀ w, Rs w w) (hTs : ∀ a b d, Rs a b → Rs b d → Rs a d) (hsub : ∀ a b, Rs a b → R a b) (hT : ∀ a b d, R a b → R b d → R a d)
    (hs : InvStepsC P md l.toArray c Rs R φ (frameM ms l 0 a0) ms w0 Q 0 ms l) (hd : ∀ u w, R w0 w → (∀ i, ms.getD i false = true → φ i (u i) w) → wpList P l.toArray Q (pickT l T) (frameM ms l 0 a0 u) w) :
    wpAny P md l.toArray Q fuel listed0 a0 w0 := by
  obtain ⟨u, hu⟩ := frameM_start ms l 0 a0
  have hB' := hB
  simp only [invtB, Bool.and_eq_true, decide_eq_true_eq] at hB'
  obtain ⟨hO, hml, hsz, h4, h5, _, _⟩ := hB'
  have inv : MInv md l ms T listed0 := by
    refine ⟨hsz, fun j oj hj hl e he hb => ?_, fun t ht htl => ?_, fun i hi hm hc => ?_⟩
    · have hjl : j < l.length := (List.getElem?_eq_some_iff.1 hj).1
      have h := List.all_eq_true.1 h5 j (List.mem_range.2 hjl)
      rw [hl, hj] at h
      simp only [Bool.not_true, Bool.false_or] at h
      have := Array.all_eq_true_iff_forall_mem.1 h e he
      simpa [hb] using this
    · have h := List.all_eq_true.1 h4 t (List.mem_range.2 htl)
      have hc : T.contains t = true := List.contains_iff_mem.2 ht
      cases hx : ms.getD t false with
      | true => rw [hx] at h; simp only [Bool.and_eq_true, Bool.not_eq_true', hc] at h; exact h.1
      | false =>
        have h2 : (if T.contains t = true then !listed0.getD t true else listed0.getD t false) = true := by rw [hx] at h; exact h
        rw [if_pos hc] at h2
        rwa [Bool.not_eq_true'] at h2
    · have h := List.all_eq_true.1 h4 i (List.mem_range.2 hi)
      have h2 : (if T.contains i = true then !listed0.getD i true else listed0.getD i false) = true := by rw [hm] at h; exact h
      rwa [if_neg (by rw [hc]; simp)] at h2
  have H := wpAny_invc (md := md) hB hRs hTs hsub hT hs hd fuel listed0 u w0 inv (of_decide_eq_true hfu) (.inr ⟨hc, hRs _⟩) (fun i hi hm h => by
    have := (invt_head hB hi hm).1
    rw [getD_both this] at h
    cases h)
  rwa [hu] at H
end
end
section
variable {P : Program} {md : Region.Mode}
/-- Each operation that the mask names, once; its frame a letter. -/
def InvStepsCA (P : Program) (md : Region.Mode) (ops : Array Oper) (c : Nat) (Rs R : World → World → Prop) (φ : Nat → Value → World → Prop) (l0 : List Oper) (ms0 : List Bool) (a0 : Act) (w0 : World) (Q : Exit → Act → World → Prop) : Nat → List Bool → List Oper → Prop
  | k, true :: ms, o :: l => (∀ (A : Act) (u : Nat → Value), (∀ (i : Nat) (o' : Oper) (s : Nat), l0[i]? = some o' → o'.dst = some s → (Nat.blt s a0.tmps.size && ms0[i]? == some true) = true → A.tmps[s]? = some (u i)) →
      (∀ (s : Nat) (v : Value), notD ms0 l0 s = true → a0.tmps[s]? = some v → A.tmps[s]? = some v) → ∀ (w1 : World), (if k = c then Rs w0 w1 else R w0 w1) → (∀ j, (o.after.any fun e => Region.binds md e && (e.on == j && ms0.getD j false)) = true → ∀ w', (if j = c then Rs w1 w' else R w1 w') → φ j (u j) w') →
      ∀ K : Act → World → Prop, (∀ v w2, (if k = c then R w1 w2 else Rs w1 w2) → (∀ w3, (if k = c then Rs w2 w3 else R w2 w3) → φ k v w3) → K (A.put o.dst v) w2) →
        if Region.wanted o (yielded ops A.tmps) = true then Oper.wp P o A w1 K Q else K (A.put o.dst undef) w1) ∧ InvStepsCA P md ops c Rs R φ l0 ms0 a0 w0 Q (k + 1) ms l
  | k, false :: ms, _ :: l => InvStepsCA P md ops c Rs R φ l0 ms0 a0 w0 Q (k + 1) ms l
  | _, _, _ => True
theorem invStepsC_of {ops : Array Oper} {c : Nat} {Rs R : World → World → Prop} {φ : Nat → Value → World → Prop} {l0 : List Oper} {ms0 : List Bool} {a0 : Act} (hB : onceB l0 = true) {w0 : World} {Q : Exit → Act → World → Prop} : ∀ (k : Nat) (ms : List Bool) (l : List Oper), InvStepsCA P md ops c Rs R φ l0 ms0 a0 w0 Q k ms l → InvStepsC P md ops c Rs R φ (frameM ms0 l0 0 a0) ms0 w0 Q k ms l
  | _, [], _, _ => by unfold InvStepsC; trivial
  | _, b :: _, [], _ => by cases b <;> (unfold InvStepsC; trivial)
  | k, false :: ms, _ :: l, h => invStepsC_of hB (k + 1) ms l h
  | k, true :: ms, o :: l, h => ⟨fun u w1 hR hd K hK => h.1 (frameM ms0 l0 0 a0 u) u (fun i o' s h1 h2 h3 => by
      simp only [Bool.and_eq_true, beq_iff_eq] at h3
      have := frameM_get ms0 l0 0 a0 u hB i o' s h1 h3.2 h2 (by simpa using h3.1)
      rwa [Nat.zero_add] at this) (fun s v h1 h2 => (frameM_old ms0 l0 0 a0 u s h1).trans h2) w1 hR (fun j hj => hd j hj) K hK, invStepsC_of hB (k + 1) ms l h.2⟩
/-- **The rule**, each frame a letter. -/
theorem wpAny_invcA {fuel : Nat} {Q : Exit → Act → World → Prop} {a0 : Act} {w0 : World} {l : List Oper} {listed0 : Array Bool} (ms : List Bool) (T : List Nat) (hB : invtB md l ms T listed0 = true) (hfu : decide (unlistedM l.length ms listed0 + T.length ≤ fuel) = true) (c : Nat) (hc : listed0.getD c false = false) (Rs R : World → World → Prop) (φ : Nat → Value → World → Prop) (hRs : ∀ w, Rs w w) (hTs : ∀ a b d, Rs a b → Rs b d → Rs a d) (hsub : ∀ a b, Rs a b → R a b) (hT : ∀ a b d, R a b → R b d → R a d)
    (hs : InvStepsCA P md l.toArray c Rs R φ l ms a0 w0 Q 0 ms l) (hd : ∀ u w, R w0 w → (∀ i, ms.getD i false = true → φ i (u i) w) → wpList P l.toArray Q (pickT l T) (frameM ms l 0 a0 u) w) :
    wpAny P md l.toArray Q fuel listed0 a0 w0 :=
  wpAny_invc' ms T hB hfu c hc Rs R φ hRs hTs hsub hT (invStepsC_of (by unfold invtB at hB; exact (Bool.and_eq_true _ _ ▸ hB).1) 0 ms l hs) hd
end
end Go.Proofs.YtcbfpdenjdgnlaaGreat
/- Packages vote and cert: Put. No claim of its own; no condition. -/
namespace Go.Proofs.YtcbfpdenjdgnlaaGreat
open Go.ChangeShapes Go.WideShapes Go.ChangeAt Go.RowKit
set_option linter.unusedVariables false
set_option linter.unusedSimpArgs false
theorem vpW_bd {s : List UInt8 × Int} (h : s.1.length ≤ 20482) (v : Vote) : (vpW s v).1.length ≤ 20482 := textW_bd (vfW_bd h v) _
set_option maxHeartbeats 1600000 in
set_option maxRecDepth 100000 in
theorem vput_calls (M N : Nat) (s : List UInt8 × Int) (v : Vote) (w : World) (h : WrS M w N s.1 s.2) (hl : s.1.length ≤ 20482) (hz : v.block.size ≤ 1048576) (hz2 : v.sig.size ≤ 1048576) :
    Calls Tryz.prog 83 #[.pointer (some ⟨N, 0, none⟩), .agg (vcs v)] w fun x w' => (∃ u, x = .returned u) ∧ WrS M w' N (vpW s v).1 (vpW s v).2 ∧ Wk M w w' := by
  have q0 := bl_alloc (Below.refl w.heap.size w) (.cells (vcs v) 52)
  have a0 : (w.alloc (.cells (vcs v) 52)).heap[w.heap.size]? = some (.cells (vcs v) 52 (0, 0)) := alloc_new w _
  have W0 := wrs_below h q0
  have k0 := wk_below q0 (wrs_size h)
  have hb := vfW_bd hl v
  have hvt := fun W (hW : WrS M W N s.1 s.2) => vtext_calls M N s v W hW hl hz
  have htx := fun W (hW : WrS M W N (vfW s v).1 (vfW s v).2) => text_calls M N (vfW s v) v.sig W hW (by omega) hz2
  have HVT := Lib.hid hvt
  have HTX := Lib.hid htx
  clear hvt htx hb
  unfold vcs at HVT
  unfold vcs
  go_enter Tryz.func83, Tryz.ntmps83
  go_upto_region 1 with fail
  change Code.wp _ _ _ _ (w.alloc (.cells (vcs v) 52))
  have a0' : (w.alloc (.cells (vcs v) 52)).heap[w.heap.size]? = some (.cells (vcs v) 52 (0, 0)) := a0
  clear a0
  obtain ⟨G, hG⟩ : ∃ G, w.heap.size = G := ⟨_, rfl⟩
  generalize w.alloc (.cells (vcs v) 52) = W at *
  simp only [hG] at a0' ⊢
  clear hG
  obtain ⟨r0, r1, r2, r3, r4, r5, r6⟩ := vcells a0'
  go_upto_region 2 with (go_at_call 155; refine (HVT.out _ W0).mono ?_; rintro x w1 ⟨⟨x1, rfl⟩, W1, k1'⟩)
  have k1 := wk_trans k0 k1'
  have a1 := wk_block k1' a0' (by decide) (by decide)
  clear r0 r1 r2 r3 r4 r5 r6 a0'
  obtain ⟨r0, r1, r2, r3, r4, r5, r6⟩ := vcells a1
  go_wp2_with (go_at_call 85; refine (HTX.out _ W1).mono ?_; rintro x w2 ⟨⟨x2, rfl⟩, W2, k2'⟩)
  go_end0
  exact ⟨⟨_, rfl⟩, W2, wk_trans k1 k2'⟩
/-- What PutCert appends. -/
def cpW (s : List UInt8 × Int) (m : Mark) (l : List Vote) : List UInt8 × Int := l.foldl vpW (numW (textW (numW (numW s m.view) m.height) m.block) l.length)
theorem vps_succ (s : List UInt8 × Int) {l : List Vote} {k : Nat} {v : Vote} (h : l[k]? = some v) : (l.take (k + 1)).foldl vpW s = vpW ((l.take k).foldl vpW s) v := by
  rw [List.take_add_one, h]
  simp [List.foldl_append]
theorem vps_bd {s : List UInt8 × Int} (l : List Vote) (h : s.1.length ≤ 20482) : (l.foldl vpW s).1.length ≤ 20482 := by
  induction l generalizing s with
  | nil => exact h
  | cons v l ih => exact ih (vpW_bd h v)
theorem wk_row {M : Nat} {w w' : World} {A : Option Addr} {l : List Vote} (h : Wk M w w') (r : kVote.Row 52 M w A l) : kVote.Row 52 M w' A l :=
  Kd.row_keep (h.2 _ (by decide) (by decide)) r
set_option maxHeartbeats 3200000 in
set_option maxRecDepth 100000 in
theorem cput_calls (M N : Nat) (s : List UInt8 × Int) (m : Mark) (l : List Vote) (A : Option Addr) (n c : Nat) (w : World) (hn : n = l.length) (hl : l.length ≤ 1048576) (hr : kVote.Row 52 M w A l) (h : WrS M w N s.1 s.2) (hs : s.1.length ≤ 20482)
    (hz : m.block.size ≤ 1048576) (hv : ∀ v ∈ l, v.block.size ≤ 1048576 ∧ v.sig.size ≤ 1048576) :
    Calls Tryz.prog 84 #[.pointer (some ⟨N, 0, none⟩), .agg #[.int .i64 m.view, .int .i64 m.height, .string m.block, .slice A n c]] w fun x w' => (∃ u, x = .returned u) ∧ WrS M w' N (cpW s m l).1 (cpW s m l).2 ∧ Wk M w w' := by
  subst hn
  have q0 := bl_alloc (Below.refl w.heap.size w) (.cells #[.int .i64 m.view, .int .i64 m.height, .string m.block, .slice A l.length c] 37)
  have a0 := alloc_new w (.cells #[.int .i64 m.view, .int .i64 m.height, .string m.block, .slice A l.length c] 37)
  have W0 := wrs_below h q0
  have k0 := wk_below q0 (wrs_size h)
  have hcp : cpW s m l = l.foldl vpW (numW (textW (numW (numW s m.view) m.height) m.block) l.length) := rfl
  have HV := Lib.hid hcp
  have HVS := Lib.hid hv
  have row0 := Kd.row_below q0 hr
  clear hcp hr h hv
  go_enter Tryz.func84, Tryz.ntmps84
  go_upto_region 1 with fail
  obtain ⟨G, hG⟩ : ∃ G, w.heap.size = G := ⟨_, rfl⟩
  generalize w.alloc (.cells #[.int .i64 m.view, .int .i64 m.height, .string m.block, .slice A l.length c] 37) = W at *
  simp only [hG] at a0 ⊢
  clear hG q0
  have r0 := block_cell a0 (i := 0) rfl
  go_upto_region 2 with (go_at_call 81; refine (num_calls M N s m.view _ W0 (by omega)).mono ?_; rintro x w1 ⟨⟨x1, rfl⟩, W1, k1'⟩)
  have k1 := wk_trans k0 k1'
  have row1 := wk_row k1' row0
  have a1 := wk_block k1' a0 (by decide) (by decide)
  obtain ⟨s1, hs1⟩ : ∃ z, numW s m.view = z := ⟨_, rfl⟩
  have l1 : s1.1.length ≤ 20482 := by rw [← hs1]; exact numW_bd hs _
  have HV' := HV.out
  rw [hs1] at W1 HV'
  clear HV hs1 k1' W0 r0 row0 a0
  have HV := Lib.hid HV'
  clear HV'
  have r1 := block_cell a1 (i := 1) rfl
  go_upto_region 3 with (go_at_call 81; refine (num_calls M N s1 m.height _ W1 (by omega)).mono ?_; rintro x w2 ⟨⟨x2, rfl⟩, W2, k2'⟩)
  have k2 := wk_trans k1 k2'
  have row2 := wk_row k2' row1
  have a2 := wk_block k2' a1 (by decide) (by decide)
  obtain ⟨s2, hs2⟩ : ∃ z, numW s1 m.height = z := ⟨_, rfl⟩
  have l2 : s2.1.length ≤ 20482 := by rw [← hs2]; exact numW_bd l1 _
  have HV' := HV.out
  rw [hs2] at W2 HV'
  clear HV hs2 k2' W1 r1 row1 a1
  have HV := Lib.hid HV'
  clear HV'
  have r2 := block_cell a2 (i := 2) rfl
  go_upto_region 4 with (go_at_call 85; refine (text_calls M N s2 m.block _ W2 (by omega) hz).mono ?_; rintro x w3 ⟨⟨x3, rfl⟩, W3, k3'⟩)
  have k3 := wk_trans k2 k3'
  have row3 := wk_row k3' row2
  have a3 := wk_block k3' a2 (by decide) (by decide)
  obtain ⟨s3, hs3⟩ : ∃ z, textW s2 m.block = z := ⟨_, rfl⟩
  have l3 : s3.1.length ≤ 20482 := by rw [← hs3]; exact textW_bd l2 _
  have HV' := HV.out
  rw [hs3] at W3 HV'
  clear HV hs3 k3' W2 r2 row2 a2
  have HV := Lib.hid HV'
  clear HV'
  have r3 := block_cell a3 (i := 3) rfl
  go_upto_region 5 with (go_at_call 81; refine (num_calls M N s3 (l.length : Nat) _ W3 (by omega)).mono ?_; rintro x w4 ⟨⟨x4, rfl⟩, W4, k4'⟩)
  have k4 := wk_trans k3 k4'
  have row4 := wk_row k4' row3
  have a4 := wk_block k4' a3 (by decide) (by decide)
  obtain ⟨s4, hs4⟩ : ∃ z, numW s3 (l.length : Nat) = z := ⟨_, rfl⟩
  have l4 : s4.1.length ≤ 20482 := by rw [← hs4]; exact numW_bd l3 _
  have HV' := HV.out
  rw [hs4] at W4 HV'
  clear HV hs4 k4' W3 r3 row3 a3
  have HV := Lib.hid HV'
  clear HV'
  have r3 := block_cell a4 (i := 3) rfl
  clear a4
  go_wp2_with fail
  clear r3
  go_loopw [26] (fun kv w' => ∃ k : Nat, k ≤ l.length ∧ kv = .int .i64 k ∧ WrS M w' N ((l.take k).foldl vpW s4).1 ((l.take k).foldl vpW s4).2 ∧ Wk M w4 w') (fun kv _ => l.length - (intOf kv).toNat)
  case atStart => exact ⟨0, by omega, rfl, W4, wk_refl _ _⟩
  case round =>
    obtain ⟨k, hk, rfl, WK, kk⟩ := hrel
    by_cases hlt : k < l.length
    case neg =>
      obtain rfl : k = l.length := by omega
      have hnI : ¬ ((l.length : Int) < (l.length : Int)) := by omega
      rw [List.take_length] at WK
      go_wp2_with fail
      go_end0
      exact ⟨⟨_, rfl⟩, by rw [HV.out]; exact WK, wk_trans k4 kk⟩
    case pos =>
      obtain ⟨v, hv⟩ : ∃ v, l[k]? = some v := ⟨_, List.getElem?_eq_getElem hlt⟩
      have row5 := wk_row kk row4
      obtain ⟨ad, rfl, e0, e1, e2, e3, e4, e5, e6, g0, g1, g2, g3, g4, g5, g6⟩ := kVote_at row5 hv
      have hzv := HVS.out v (List.mem_of_getElem? hv)
      have hst := vps_succ s4 hv
      obtain ⟨sk, hsk⟩ : ∃ z, (l.take k).foldl vpW s4 = z := ⟨_, rfl⟩
      have lk : sk.1.length ≤ 20482 := by rw [← hsk]; exact vps_bd _ l4
      rw [hsk] at WK hst
      have HS := Lib.hid hst
      clear hst hsk
      have hvp := fun (W : World) (hW : WrS M W N sk.1 sk.2) => vput_calls M N sk v W hW lk hzv.1 hzv.2
      unfold vcs at hvp
      have HVP := Lib.hid hvp
      clear hvp
      have hkI : (k : Int) < (l.length : Int) := by omega
      have hk0 : (0 : Int) ≤ (k : Int) := by omega
      have bt := bl_alloc (Below.refl wr.heap.size wr) (.cells (vcs v) 52)
      have bb : (wr.alloc (.cells (vcs v) 52)).heap[wr.heap.size]? = some (.cells (vcs v) 52 (0, 0)) := alloc_new wr _
      have WT := wrs_below WK bt
      have kt := wk_trans kk (wk_below bt (wrs_size WK))
      go_upto_region 8 with fail
      change Code.wp _ _ _ _ (wr.alloc (.cells (vcs v) 52))
      obtain ⟨V9, hV9⟩ : ∃ V9, wr.heap.size = V9 := ⟨_, rfl⟩
      generalize wr.alloc (.cells (vcs v) 52) = V at *
      simp only [hV9] at bb ⊢
      clear hV9 e0 e1 e2 e3 e4 e5 e6 g0 g1 g2 g3 g4 g5 g6 bt row5
      obtain ⟨r0, r1, r2, r3, r4, r5, r6⟩ := vcells bb
      go_wp2_with (go_at_call 83; refine (HVP.out _ WT).mono ?_; rintro x w6 ⟨⟨x6, rfl⟩, W6, k6⟩)
      exact ⟨⟨k + 1, by omega, by go_num, by rw [HS.out]; exact W6, wk_trans kt k6⟩, by simp [intOf]; omega⟩
end Go.Proofs.YtcbfpdenjdgnlaaGreat
