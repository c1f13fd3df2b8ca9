/- Maps whose keys are a struct of two whole numbers: look-up and store. No claim of its own; no condition. -/
import Derived.Test.YtglneailkgminaaLeaG
import Derived.MapKept
import Derived.WideKeyRuns
namespace Go.Proofs.Ytglneailkgminaa
open Go.ChangeShapes Go.WideShapes Go.ChangeAt Go.RowKit
set_option linter.unusedVariables false
set_option linter.unusedSimpArgs false
abbrev Slot := Int × Int
def slotK (s : Slot) : Value := .agg #[.int .i64 s.1, .int .i64 s.2]
theorem eqSlot (a b : Slot) (d : Nat) (w : World) : (Op.equalIn (d + 1 + 1) 113 (slotK a) (slotK b)).run Try.prog w = .ok (decide (a = b)) w := by
  have e : ((a.1 == b.1) && ((a.2 == b.2) && true)) = decide (a = b) := by
    cases a; cases b
    simp only [Prod.mk.injEq, Bool.and_true, Bool.decide_and]
    rfl
  rw [← e]
  exact eq_of Try.underlying113 (by kernel_rfl) (eqf_cons (by rfl) (by go_simp; rfl) (by go_simp; rfl) (by go_simp) (eqf_cons (by rfl) (by go_simp; rfl) (by go_simp; rfl) (by go_simp) eqf_nil))
theorem checkSlotN (em : Bool) (s : Slot) (n : Nat) (w : World) : (Instr.checkKey em (n + 1 + 1) 113 (slotK s)).run Try.prog w = .ok () w := by
  unfold slotK
  simp [Instr.checkKey, Try.underlying113, Try.underlying3, go_sem]
theorem checkSlot (em : Bool) (s : Slot) (w : World) : (Instr.checkKey em 10000 113 (slotK s)).run Try.prog w = .ok () w := checkSlotN em s 9998 w
def kvs (es : List MapEntry) : List (Value × Value) := es.map fun e => (e.key, e.val)
def idxS (s : Slot) : List (Slot × Value) → Nat → Option (Nat × Value)
  | [], _ => none
  | p :: m, i => if s = p.1 then some (i, p.2) else idxS s m (i + 1)
theorem findS (s : Slot) (w : World) : ∀ (m : List (Slot × Value)) (es : List MapEntry) (i : Nat), kvs es = m.map (fun p => (slotK p.1, p.2)) → (Instr.findAsking 113 (slotK s) es i).run Try.prog w = .ok (idxS s m i) w
  | [], es, i, h => by
    have : es = [] := by simpa [kvs] using h
    subst this
    rfl
  | p :: m, es, i, h => by
    cases es with
    | nil => simp [kvs] at h
    | cons e es =>
      simp only [kvs, List.map_cons, List.cons.injEq, Prod.mk.injEq] at h
      obtain ⟨⟨h1, h2⟩, h3⟩ := h
      have heq : (Op.equal 113 (slotK s) e.key).run Try.prog w = .ok (decide (s = p.1)) w := by
        rw [h1]
        exact eqSlot s p.1 9998 w
      unfold Instr.findAsking
      simp only [Sem.run_bind, heq, Result.andThen_ok]
      by_cases hp : s = p.1
      · simp [hp, idxS, h2]
      · simp only [hp, decide_false, Bool.false_eq_true, if_false, idxS]
        exact findS s w m es (i + 1) h3
theorem findKeyS (s : Slot) (w : World) (m : List (Slot × Value)) (es : List MapEntry) (h : kvs es = m.map (fun p => (slotK p.1, p.2))) : (Instr.findKey 113 (slotK s) es).run Try.prog w = .ok (idxS s m 0) w := by
  rw [run_findKey_eq (P := Try.prog) (w := w) (k := 113) (by rw [Try.underlying113]) (slotK s) es]
  exact findS s w m es 0 h
def SMap (w : World) (b : Nat) (m : List (Slot × Value)) : Prop := ∃ es clock, w.heap[b]? = some (.map es clock) ∧ kvs es.toList = m.map fun p => (slotK p.1, p.2)
def lookS (s : Slot) (m : List (Slot × Value)) : Option Value := (idxS s m 0).map (·.2)
theorem smap_made (w : World) : SMap (w.alloc (.map #[] 0)) w.heap.size [] := ⟨#[], 0, alloc_new w _, rfl⟩
theorem smap_same {w w' : World} {b : Nat} {m : List (Slot × Value)} (h : SMap w b m) (hb : w'.heap[b]? = w.heap[b]?) : SMap w' b m := by
  obtain ⟨es, c, h1, h2⟩ := h
  exact ⟨es, c, hb.trans h1, h2⟩
theorem smap_lt {w : World} {b : Nat} {m : List (Slot × Value)} (h : SMap w b m) : b < w.heap.size := by
  obtain ⟨es, c, h1, h2⟩ := h
  exact blk_lt h1
theorem lookup_ok {w : World} {b t e : Nat} {m : List (Slot × Value)} (h : SMap w b m) (ht : Try.prog.underlying t = some (.map 113 e)) {z : Value} (hz : (zeroValue e).run Try.prog w = .ok z w) (s : Slot) :
    (Instr.lookup t (.map (some b)) (slotK s) true).run Try.prog w = .ok (.tuple #[(lookS s m).getD z, .bool (lookS s m).isSome]) w := by
  obtain ⟨es, c, h1, h2⟩ := h
  have h3 := findKeyS s w m es.toList h2
  unfold Instr.lookup lookS
  cases hx : idxS s m 0 with
  | none => rw [hx] at h3; simp [run_underlying ht, MapKept.run_getObj_map h1, checkSlot, h3, hz, Result.andThen]
  | some p => rw [hx] at h3; simp [run_underlying ht, MapKept.run_getObj_map h1, checkSlot, h3, Result.andThen]
theorem lookup_v {w : World} {b t e : Nat} {m : List (Slot × Value)} (h : SMap w b m) (ht : Try.prog.underlying t = some (.map 113 e)) {z : Value} (hz : (zeroValue e).run Try.prog w = .ok z w) (s : Slot) :
    (Instr.lookup t (.map (some b)) (slotK s) false).run Try.prog w = .ok ((lookS s m).getD z) w := by
  obtain ⟨es, c, h1, h2⟩ := h
  have h3 := findKeyS s w m es.toList h2
  unfold Instr.lookup lookS
  cases hx : idxS s m 0 with
  | none => rw [hx] at h3; simp [run_underlying ht, MapKept.run_getObj_map h1, checkSlot, h3, hz, Result.andThen]
  | some p => rw [hx] at h3; simp [run_underlying ht, MapKept.run_getObj_map h1, checkSlot, h3, Result.andThen]
def putS (s : Slot) (v : Value) : List (Slot × Value) → List (Slot × Value)
  | [] => [(s, v)]
  | p :: m => if s = p.1 then (s, v) :: m else p :: putS s v m
theorem put_none (s : Slot) (v : Value) : ∀ (m : List (Slot × Value)) (j : Nat), idxS s m j = none → putS s v m = m ++ [(s, v)]
  | [], _, _ => rfl
  | p :: m, j, h => by
    unfold idxS at h
    split at h
    · cases h
    · rename_i hp
      unfold putS
      rw [if_neg hp, put_none s v m (j + 1) h]
      rfl
theorem put_some (s : Slot) (v : Value) : ∀ (m : List (Slot × Value)) (es : List MapEntry) (j i : Nat) (old : Value), kvs es = m.map (fun p => (slotK p.1, p.2)) → idxS s m j = some (i, old) →
    j ≤ i ∧ (es[i - j]?).map (·.key) = some (slotK s) ∧ kvs (es.modify (i - j) fun e => { e with key := slotK s, val := v }) = (putS s v m).map fun p => (slotK p.1, p.2)
  | [], es, j, i, old, _, h => by cases h
  | p :: m, es, j, i, old, h, hx => by
    cases es with
    | nil => simp [kvs] at h
    | cons e es =>
      simp only [kvs, List.map_cons, List.cons.injEq, Prod.mk.injEq] at h
      obtain ⟨⟨h1, h2⟩, h3⟩ := h
      unfold idxS at hx
      split at hx
      · rename_i hp
        cases hx
        refine ⟨Nat.le_refl _, by rw [Nat.sub_self]; simp [h1, hp], ?_⟩
        rw [Nat.sub_self]
        unfold putS
        rw [if_pos hp]
        simp [kvs, List.modify] at h3 ⊢
        exact h3
      · rename_i hp
        obtain ⟨k1, k2, k3⟩ := put_some s v m es (j + 1) i old h3 hx
        have e1 : i - j = (i - (j + 1)) + 1 := by omega
        refine ⟨by omega, by rw [e1]; simpa using k2, ?_⟩
        unfold putS
        rw [if_neg hp, e1]
        simp only [kvs, List.modify_succ_cons, List.map_cons] at k3 ⊢
        rw [k3, h1, h2]
theorem sameSlot (s : Slot) (n : Nat) : Instr.sameBits (n + 1) (slotK s) (slotK s) = true := by
  unfold slotK
  simp [Instr.sameBits]
theorem update_ok {w : World} {b t e : Nat} {m : List (Slot × Value)} (h : SMap w b m) (ht : Try.prog.underlying t = some (.map 113 e)) (s : Slot) (v : Value) :
    ∃ o, (Instr.mapUpdate t (.map (some b)) (slotK s) v).run Try.prog w = .ok () { w with heap := w.heap.setIfInBounds b o } ∧ SMap { w with heap := w.heap.setIfInBounds b o } b (putS s v m) := by
  obtain ⟨es, c, h1, h2⟩ := h
  have h3 := findKeyS s w m es.toList h2
  have hset : ∀ o, (w.heap.setIfInBounds b o)[b]? = some o := fun o => (MapKept.heap_set h1).1
  cases hx : idxS s m 0 with
  | none =>
    rw [hx] at h3
    refine ⟨.map (es.push { key := slotK s, val := v, born := c }) (c + 1), ?_, _, _, hset _, ?_⟩
    · unfold Instr.mapUpdate
      simp [run_underlying ht, MapKept.run_getObj_map h1, checkSlot, h3, MapKept.run_setObj_map _ h1, Result.andThen]
    · rw [put_none s v m 0 hx]
      simp only [kvs, Array.toList_push, List.map_append, List.map_cons, List.map_nil] at h2 ⊢
      rw [h2]
  | some p =>
    obtain ⟨i, old⟩ := p
    rw [hx] at h3
    obtain ⟨_, k2, k3⟩ := put_some s v m es.toList 0 i old h2 hx
    rw [Nat.sub_zero] at k2 k3
    have k2' : ((es[i]?).map (·.key)).getD (slotK s) = slotK s := by
      rw [show es[i]? = es.toList[i]? by simp, k2]
      rfl
    refine ⟨.map (es.modify i fun e => { e with key := slotK s, val := v }) c, ?_, _, _, hset _, ?_⟩
    · unfold Instr.mapUpdate
      have hk : (Instr.keyThatStays (slotK s) (slotK s)).run Try.prog w = .ok (slotK s) w := by
        unfold Instr.keyThatStays
        rw [show Instr.sameBits 10000 (slotK s) (slotK s) = true from sameSlot s 9999]
        rfl
      simp [run_underlying ht, MapKept.run_getObj_map h1, checkSlot, h3, k2', hk, MapKept.run_setObj_map _ h1, Result.andThen]
    · rw [Array.toList_modify]
      exact k3
theorem setB_below {w : World} {b N : Nat} (o : Obj) (hN : N ≤ b) : Below N w { w with heap := w.heap.setIfInBounds b o } :=
  ⟨rfl, rfl, rfl, by simp, fun k hk => by
    show (w.heap.setIfInBounds b o)[k]? = _
    rw [Array.getElem?_setIfInBounds_ne (by omega)]⟩
theorem setB_other {w : World} {b k : Nat} (o : Obj) (hk : k ≠ b) : ({ w with heap := w.heap.setIfInBounds b o } : World).heap[k]? = w.heap[k]? := by
  show (w.heap.setIfInBounds b o)[k]? = _
  rw [Array.getElem?_setIfInBounds_ne (fun e => hk e.symm)]
end Go.Proofs.Ytglneailkgminaa
