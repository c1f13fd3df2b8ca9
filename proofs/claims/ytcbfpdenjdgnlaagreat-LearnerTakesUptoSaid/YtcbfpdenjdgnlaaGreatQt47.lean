/- Ranges over maps that the loop does not write. No claim of its own; no condition. -/
import Derived.Test.YtcbfpdenjdgnlaaGreatQt38
import Derived.Maps.RangeRun
import Derived.Shelf.SlSortCmp.WholeK
import Derived.Test.YtcbfpdenjdgnlaaGreatQt03
import Derived.Test.YtcbfpdenjdgnlaaGreatQt04
namespace Go.Proofs.YtcbfpdenjdgnlaaGreat
open Go.ChangeShapes Go.WideShapes Go.ChangeAt Go.RowKit
open Go.ChangeMaps (setBlock)
set_option linter.unusedVariables false
set_option linter.unusedSimpArgs false
variable {κ α : Type} [DecidableEq κ] {kt : TypeId} (D : KeyD κ kt) (f : α → κ) (g : α → Value)
/-- A range over the map at b, its iterator at r; of 'all' l is still to come. -/
def Rng (w : World) (b r : Nat) (all l : List α) : Prop :=
  ∃ es clock seen c0, w.heap[b]? = some (.map es clock) ∧ (kvs es.toList = all.map fun a => (D.val (f a), g a)) ∧ BornOk es clock ∧ w.heap[r]? = some (.mapIter (some b) clock seen c0) ∧ clock ≤ c0 ∧ (kvs (leftOf es seen).toList = l.map fun a => (D.val (f a), g a))
variable {D f g}
theorem rng_same {w w' : World} {b r : Nat} {all l : List α} (h : Rng D f g w b r all l) (hb : w'.heap[b]? = w.heap[b]?) (hr : w'.heap[r]? = w.heap[r]?) : Rng D f g w' b r all l := by
  obtain ⟨es, c, s, c0, h1, h2, h3, h4, h5, h6⟩ := h
  exact ⟨es, c, s, c0, hb.trans h1, h2, h3, hr.trans h4, h5, h6⟩
theorem rng_lt {w : World} {b r : Nat} {all l : List α} (h : Rng D f g w b r all l) : b < w.heap.size ∧ r < w.heap.size := by
  obtain ⟨es, c, s, c0, h1, h2, h3, h4, h5, h6⟩ := h
  exact ⟨blk_lt h1, blk_lt h4⟩
theorem rng_start {w : World} {b t e : Nat} {all : List α} (h : SMap D w b (all.map fun a => (f a, g a))) (ht : Tryz.prog.underlying t = some (.map kt e)) :
    ∃ w', (Instr.range t (.map (some b))).run Tryz.prog w = .ok (.pointer (some ⟨w.heap.size, 0, none⟩)) w' ∧ Rng D f g w' b w.heap.size all all ∧ Below w.heap.size w w' ∧ w'.heap.size = w.heap.size + 1 := by
  obtain ⟨es, c, h1, h2, h3⟩ := h
  refine ⟨_, run_range_map w t kt e b es c ht h1, ⟨es, c, #[], c, alloc_old h1 _, ?_, h3, alloc_new w _, Nat.le_refl _, ?_⟩, bl_alloc (Below.refl _ _) _, World.size_alloc _ _⟩
  · rw [h2, List.map_map]; rfl
  · rw [show leftOf es #[] = es by simp [leftOf], h2, List.map_map]; rfl
theorem split_at {l : List MapEntry} {e : MapEntry} (hn : (l.map (·.born)).Nodup) (he : e ∈ l) : ∃ p q, l = p ++ e :: q ∧ l.filter (fun x => x.born != e.born) = p ++ q := by
  obtain ⟨p, q, rfl⟩ := List.append_of_mem he
  refine ⟨p, q, rfl, ?_⟩
  rw [List.map_append, List.map_cons, List.nodup_append] at hn
  obtain ⟨h1, h2, h3⟩ := hn
  rw [List.nodup_cons] at h2
  rw [List.filter_append, List.filter_cons]
  simp only [bne_self_eq_false, Bool.false_eq_true, if_false]
  rw [List.filter_eq_self.2 (fun x hx => ?_), List.filter_eq_self.2 (fun x hx => ?_)]
  · have : x.born ≠ e.born := fun h => h2.1 (h ▸ List.mem_map.2 ⟨x, hx, rfl⟩)
    simpa using this
  · have := h3 x.born (List.mem_map.2 ⟨x, hx, rfl⟩) e.born (by simp)
    simpa using this
theorem map_app {β : Type} {h : α → β} : ∀ {l : List α} {p q : List β} {x : β}, l.map h = p ++ x :: q → ∃ p' a q', l = p' ++ a :: q' ∧ p'.map h = p ∧ h a = x ∧ q'.map h = q
  | [], p, q, x, e => by simp at e
  | a :: l, [], q, x, e => by
    simp only [List.map_cons, List.nil_append, List.cons.injEq] at e
    exact ⟨[], a, l, rfl, rfl, e.1, e.2⟩
  | a :: l, y :: p, q, x, e => by
    simp only [List.map_cons, List.cons_append, List.cons.injEq] at e
    obtain ⟨p', b, q', h1, h2, h3, h4⟩ := map_app e.2
    exact ⟨a :: p', b, q', by rw [h1]; rfl, by rw [List.map_cons, h2, e.1], h3, h4⟩
theorem rng_next {w : World} {b r : Nat} {all l : List α} (h : Rng D f g w b r all l) (ty : TypeId) :
    (l = [] ∧ (Instr.next (.pointer (some ⟨r, 0, none⟩)) false ty).run Tryz.prog w = .ok (.tuple #[.bool false]) w) ∨
    ∃ a l' w', l.Perm (a :: l') ∧ (Instr.next (.pointer (some ⟨r, 0, none⟩)) false ty).run Tryz.prog w = .ok (.tuple #[.bool true, D.val (f a), g a]) w' ∧ Rng D f g w' b r all l' ∧ Below r w w' ∧ w'.heap.size = w.heap.size ∧ (∀ k, k ≠ r → w'.heap[k]? = w.heap[k]?) ∧
      (Instr.entry (.pointer (some ⟨r, 0, none⟩))).run Tryz.prog w' = .ok (.tuple #[D.val (f a), g a]) w' := by
  obtain ⟨es, c, s, c0, h1, h2, h3, h4, h5, h6⟩ := h
  rcases run_next_at (P := Tryz.prog) w ty r b c c0 s es c h4 h1 h3.1 h5 with ⟨h0, hr⟩ | ⟨e, he, w1, hw1, hr⟩
  · refine .inl ⟨?_, hr⟩
    have : (leftOf es s).toList = [] := List.eq_nil_of_length_eq_zero (by simpa using h0)
    rw [this] at h6
    simpa [kvs] using h6.symm
  · have hes : e ∈ es.toList := by simp [leftOf] at he ⊢; exact he.1
    have hn : ((leftOf es s).toList.map (·.born)).Nodup := by
      unfold leftOf
      rw [Array.toList_filter]
      exact h3.2.sublist (List.filter_sublist.map _)
    obtain ⟨p, q, hp, hq⟩ := split_at hn he
    have hleft : (leftOf es (s.push e.born)).toList = p ++ q := by
      rw [← hq]
      unfold leftOf
      rw [Array.toList_filter, Array.toList_filter, List.filter_filter]
      congr 1
      funext x
      cases hx : x.born != e.born <;> simp_all [Array.contains_push, bne]
    rw [hp] at h6
    simp only [kvs, List.map_append, List.map_cons] at h6
    obtain ⟨p', a, q', rfl, k1, k2, k3⟩ := map_app h6.symm
    have k2' : D.val (f a) = e.key ∧ g a = e.val := by simpa using k2
    have hw1' : w1.heap = w.heap ∧ w1.os = w.os ∧ w1.tape = w.tape ∧ w1.output = w.output := by
      rcases hw1 with rfl | rfl <;> exact ⟨rfl, rfl, rfl, rfl⟩
    have hrl : r < w.heap.size := blk_lt h4
    have hne : b ≠ r := fun hbr => by subst hbr; rw [h1] at h4; cases h4
    have ho : ∀ k, k ≠ r → (setBlock w1 r (.mapIter (some b) c (s.push e.born) c)).heap[k]? = w.heap[k]? := fun k hk => by
      show (w1.heap.setIfInBounds r _)[k]? = _
      rw [Array.getElem?_setIfInBounds_ne (by omega), hw1'.1]
    have hs : (setBlock w1 r (.mapIter (some b) c (s.push e.born) c)).heap[r]? = some (.mapIter (some b) c (s.push e.born) c) := by
      show (w1.heap.setIfInBounds r _)[r]? = _
      rw [Array.getElem?_setIfInBounds_self, hw1'.1]
      simp [hrl]
    have hsz : (setBlock w1 r (.mapIter (some b) c (s.push e.born) c)).heap.size = w.heap.size := by
      show (w1.heap.setIfInBounds r _).size = _
      rw [Array.size_setIfInBounds, hw1'.1]
    refine .inr ⟨a, p' ++ q', _, List.perm_middle, by rw [k2'.1, k2'.2]; exact hr, ⟨es, c, s.push e.born, c, (ho b hne).trans h1, h2, h3, hs, Nat.le_refl _, ?_⟩, ⟨hw1'.2.1, hw1'.2.2.1, hw1'.2.2.2, by omega, fun k hk => ho k (by omega)⟩, hsz, ho, ?_⟩
    · rw [hleft]
      simp only [kvs, List.map_append, k1, k3]
    · rw [k2'.1, k2'.2]
      exact run_entry_at (P := Tryz.prog) _ r b c s es c e hs ((ho b hne).trans h1) hes h3.2
section
variable {ops : Array Oper} {rest : List Oper} {o : Oper} {A : Act} {Q : Exit → Act → World → Prop}
theorem wpList_rng_start {w : World} {b t e : Nat} {all : List α} (h : SMap D w b (all.map fun a => (f a, g a))) (m : Operand) (hg : o.guard = none) (hop : o.op = Op.range t m) (ht : Tryz.prog.underlying t = some (.map kt e)) (hm : A.eval m = .map (some b))
    (hK : ∀ w', Rng D f g w' b w.heap.size all all → Below w.heap.size w w' → w'.heap.size = w.heap.size + 1 → wpList Tryz.prog ops Q rest (A.put o.dst (.pointer (some ⟨w.heap.size, 0, none⟩))) w') : wpList Tryz.prog ops Q (o :: rest) A w := by
  refine wpList_plain hg fun K' hK' => ?_
  obtain ⟨w', hrun, r1, r2, r3⟩ := rng_start h ht
  unfold Oper.wp
  simp [execOp, hop, hm, hrun, Result.andThen]
  exact hK' _ _ (hK w' r1 r2 r3)
theorem wpList_rng_next {w : World} {b r : Nat} {all l : List α} (h : Rng D f g w b r all l) (it : Operand) (hg : o.guard = none) (hop : o.op = Op.next it false) (hit : A.eval it = .pointer (some ⟨r, 0, none⟩))
    (hDone : l = [] → wpList Tryz.prog ops Q rest (A.put o.dst (.tuple #[.bool false])) w)
    (hMore : ∀ a l' w', l.Perm (a :: l') → Rng D f g w' b r all l' → Below r w w' → w'.heap.size = w.heap.size → (∀ k, k ≠ r → w'.heap[k]? = w.heap[k]?) → (Instr.entry (.pointer (some ⟨r, 0, none⟩))).run Tryz.prog w' = .ok (.tuple #[D.val (f a), g a]) w' →
      wpList Tryz.prog ops Q rest (A.put o.dst (.tuple #[.bool true, D.val (f a), g a])) w') : wpList Tryz.prog ops Q (o :: rest) A w := by
  refine wpList_plain hg fun K' hK' => ?_
  unfold Oper.wp
  rcases rng_next h o.type with ⟨h0, hrun⟩ | ⟨a, l', w', hp, hrun, hrg, hb, hz, ho, hen⟩
  · simp [execOp, hop, hit, hrun, Result.andThen]
    exact hK' _ _ (hDone h0)
  · simp [execOp, hop, hit, hrun, Result.andThen]
    exact hK' _ _ (hMore a l' w' hp hrg hb hz ho hen)
end
end Go.Proofs.YtcbfpdenjdgnlaaGreat
/- slices.SortFunc of the library laid at this program's structs. No claim of its own; no condition. -/
namespace Go.Proofs.YtcbfpdenjdgnlaaGreat
open Go.Shelf
def Tryz.sortMark_ren : Go.Shelf.Ren := ⟨fun | 6 => 137 | 15 => 133 | 14 => 209 | 28 => 206 | 29 => 207 | 20 => 252 | 21 => 253 | 22 => 254 | 23 => 255 | 24 => 256 | 25 => 257 | 26 => 258 | 27 => 259 | 46 => 276 | 47 => 248 | 48 => 249 | 49 => 277 | 50 => 278 | 57 => 287 | n => n, fun | 22 => 65 | 24 => 34 | 25 => 186 | 3 => 3 | 39 => 160 | 0 => 0 | 53 => 214 | 55 => 261 | 4 => 4 | 46 => 254 | 45 => 253 | 50 => 99 | 5 => 5 | 9 => 9 | 66 => 283 | 70 => 287 | 76 => 309 | 77 => 310 | n => n, fun n => n⟩
theorem Tryz.sortMark : SlLaysF0.n6 Tryz.prog Tryz.sortMark_ren := {
  mixed := by kernel_rfl
  f6 := ⟨Tryz.f137.name, by decide, Tryz.func137.trans (congrArg some (by kernel_rfl))⟩
  f14 := ⟨Tryz.f209.name, by decide, Tryz.func209.trans (congrArg some (by kernel_rfl))⟩
  f15 := Tryz.func133.trans (congrArg some (by kernel_rfl))
  f20 := ⟨Tryz.f252.name, by decide, Tryz.func252.trans (congrArg some (by kernel_rfl))⟩
  f21 := ⟨Tryz.f253.name, by decide, Tryz.func253.trans (congrArg some (by kernel_rfl))⟩
  f22 := ⟨Tryz.f254.name, by decide, Tryz.func254.trans (congrArg some (by kernel_rfl))⟩
  f23 := ⟨Tryz.f255.name, by decide, Tryz.func255.trans (congrArg some (by kernel_rfl))⟩
  f24 := ⟨Tryz.f256.name, by decide, Tryz.func256.trans (congrArg some (by kernel_rfl))⟩
  f25 := ⟨Tryz.f257.name, by decide, Tryz.func257.trans (congrArg some (by kernel_rfl))⟩
  f26 := ⟨Tryz.f258.name, by decide, Tryz.func258.trans (congrArg some (by kernel_rfl))⟩
  f27 := ⟨Tryz.f259.name, by decide, Tryz.func259.trans (congrArg some (by kernel_rfl))⟩
  f28 := Tryz.func206.trans (congrArg some (by kernel_rfl))
  f29 := Tryz.func207.trans (congrArg some (by kernel_rfl))
  f46 := ⟨Tryz.f276.name, by decide, Tryz.func276.trans (congrArg some (by kernel_rfl))⟩
  f47 := Tryz.func248.trans (congrArg some (by kernel_rfl))
  f48 := Tryz.func249.trans (congrArg some (by kernel_rfl))
  f49 := ⟨Tryz.f277.name, by decide, Tryz.func277.trans (congrArg some (by kernel_rfl))⟩
  f50 := ⟨Tryz.f278.name, by decide, Tryz.func278.trans (congrArg some (by kernel_rfl))⟩
  f57 := ⟨Tryz.f287.name, by decide, Tryz.func287.trans (congrArg some (by kernel_rfl))⟩
  t0 := Tryz.underlying0
  a0 := Tryz.isAgg0
  z0 := Tryz.sizeOf0
  v0 := Tryz.zeroValue0
  t3 := Tryz.underlying3
  a3 := Tryz.isAgg3
  z3 := Tryz.sizeOf3
  v3 := Tryz.zeroValue3
  t4 := Tryz.underlying4
  a4 := Tryz.isAgg4
  z4 := Tryz.sizeOf4
  v4 := Tryz.zeroValue4
  t5 := Tryz.underlying5
  a5 := Tryz.isAgg5
  z5 := Tryz.sizeOf5
  v5 := Tryz.zeroValue5
  t9 := Tryz.underlying9
  a9 := Tryz.isAgg9
  z9 := Tryz.sizeOf9
  v9 := Tryz.zeroValue9
  t22 := Tryz.underlying65
  a22 := Tryz.isAgg65
  z22 := Tryz.sizeOf65
  v22 := Tryz.zeroValue65
  t25 := Tryz.underlying186
  a25 := Tryz.isAgg186
  z25 := Tryz.sizeOf186
  v25 := Tryz.zeroValue186
  t39 := Tryz.underlying160
  a39 := Tryz.isAgg160
  z39 := Tryz.sizeOf160
  v39 := Tryz.zeroValue160
  t45 := Tryz.underlying253
  a45 := Tryz.isAgg253
  z45 := Tryz.sizeOf253
  v45 := Tryz.zeroValue253
  t46 := Tryz.underlying254
  a46 := Tryz.isAgg254
  z46 := Tryz.sizeOf254
  v46 := Tryz.zeroValue254
  t50 := Tryz.underlying99
  a50 := Tryz.isAgg99
  z50 := Tryz.sizeOf99
  v50 := Tryz.zeroValue99
  t53 := Tryz.underlying214
  a53 := Tryz.isAgg214
  z53 := Tryz.sizeOf214
  v53 := Tryz.zeroValue214
  t55 := Tryz.underlying261
  a55 := Tryz.isAgg261
  z55 := Tryz.sizeOf261
  v55 := Tryz.zeroValue261
  t66 := Tryz.underlying283
  a66 := Tryz.isAgg283
  z66 := Tryz.sizeOf283
  v66 := Tryz.zeroValue283
  t70 := Tryz.underlying287
  a70 := Tryz.isAgg287
  z70 := Tryz.sizeOf287
  v70 := Tryz.zeroValue287
  t76 := Tryz.underlying309
  a76 := Tryz.isAgg309
  z76 := Tryz.sizeOf309
  v76 := Tryz.zeroValue309
  t77 := Tryz.underlying310
  a77 := Tryz.isAgg310
  z77 := Tryz.sizeOf310
  v77 := Tryz.zeroValue310 }
def Tryz.sortVote_ren : Go.Shelf.Ren := ⟨fun | 6 => 66 | 15 => 133 | 14 => 132 | 28 => 206 | 29 => 207 | 20 => 198 | 21 => 199 | 22 => 200 | 23 => 201 | 24 => 202 | 25 => 203 | 26 => 204 | 27 => 205 | 46 => 247 | 47 => 248 | 48 => 249 | 49 => 250 | 50 => 251 | 57 => 275 | n => n, fun | 22 => 28 | 24 => 52 | 25 => 116 | 3 => 3 | 39 => 160 | 0 => 0 | 53 => 214 | 55 => 261 | 4 => 4 | 46 => 254 | 45 => 253 | 50 => 99 | 5 => 5 | 9 => 9 | 66 => 283 | 70 => 287 | 76 => 309 | 77 => 310 | n => n, fun n => n⟩
theorem Tryz.sortVote : SlLaysF0.n6 Tryz.prog Tryz.sortVote_ren := {
  mixed := by kernel_rfl
  f6 := ⟨Tryz.f66.name, by decide, Tryz.func66.trans (congrArg some (by kernel_rfl))⟩
  f14 := ⟨Tryz.f132.name, by decide, Tryz.func132.trans (congrArg some (by kernel_rfl))⟩
  f15 := Tryz.func133.trans (congrArg some (by kernel_rfl))
  f20 := ⟨Tryz.f198.name, by decide, Tryz.func198.trans (congrArg some (by kernel_rfl))⟩
  f21 := ⟨Tryz.f199.name, by decide, Tryz.func199.trans (congrArg some (by kernel_rfl))⟩
  f22 := ⟨Tryz.f200.name, by decide, Tryz.func200.trans (congrArg some (by kernel_rfl))⟩
  f23 := ⟨Tryz.f201.name, by decide, Tryz.func201.trans (congrArg some (by kernel_rfl))⟩
  f24 := ⟨Tryz.f202.name, by decide, Tryz.func202.trans (congrArg some (by kernel_rfl))⟩
  f25 := ⟨Tryz.f203.name, by decide, Tryz.func203.trans (congrArg some (by kernel_rfl))⟩
  f26 := ⟨Tryz.f204.name, by decide, Tryz.func204.trans (congrArg some (by kernel_rfl))⟩
  f27 := ⟨Tryz.f205.name, by decide, Tryz.func205.trans (congrArg some (by kernel_rfl))⟩
  f28 := Tryz.func206.trans (congrArg some (by kernel_rfl))
  f29 := Tryz.func207.trans (congrArg some (by kernel_rfl))
  f46 := ⟨Tryz.f247.name, by decide, Tryz.func247.trans (congrArg some (by kernel_rfl))⟩
  f47 := Tryz.func248.trans (congrArg some (by kernel_rfl))
  f48 := Tryz.func249.trans (congrArg some (by kernel_rfl))
  f49 := ⟨Tryz.f250.name, by decide, Tryz.func250.trans (congrArg some (by kernel_rfl))⟩
  f50 := ⟨Tryz.f251.name, by decide, Tryz.func251.trans (congrArg some (by kernel_rfl))⟩
  f57 := ⟨Tryz.f275.name, by decide, Tryz.func275.trans (congrArg some (by kernel_rfl))⟩
  t0 := Tryz.underlying0
  a0 := Tryz.isAgg0
  z0 := Tryz.sizeOf0
  v0 := Tryz.zeroValue0
  t3 := Tryz.underlying3
  a3 := Tryz.isAgg3
  z3 := Tryz.sizeOf3
  v3 := Tryz.zeroValue3
  t4 := Tryz.underlying4
  a4 := Tryz.isAgg4
  z4 := Tryz.sizeOf4
  v4 := Tryz.zeroValue4
  t5 := Tryz.underlying5
  a5 := Tryz.isAgg5
  z5 := Tryz.sizeOf5
  v5 := Tryz.zeroValue5
  t9 := Tryz.underlying9
  a9 := Tryz.isAgg9
  z9 := Tryz.sizeOf9
  v9 := Tryz.zeroValue9
  t22 := Tryz.underlying28
  a22 := Tryz.isAgg28
  z22 := Tryz.sizeOf28
  v22 := Tryz.zeroValue28
  t25 := Tryz.underlying116
  a25 := Tryz.isAgg116
  z25 := Tryz.sizeOf116
  v25 := Tryz.zeroValue116
  t39 := Tryz.underlying160
  a39 := Tryz.isAgg160
  z39 := Tryz.sizeOf160
  v39 := Tryz.zeroValue160
  t45 := Tryz.underlying253
  a45 := Tryz.isAgg253
  z45 := Tryz.sizeOf253
  v45 := Tryz.zeroValue253
  t46 := Tryz.underlying254
  a46 := Tryz.isAgg254
  z46 := Tryz.sizeOf254
  v46 := Tryz.zeroValue254
  t50 := Tryz.underlying99
  a50 := Tryz.isAgg99
  z50 := Tryz.sizeOf99
  v50 := Tryz.zeroValue99
  t53 := Tryz.underlying214
  a53 := Tryz.isAgg214
  z53 := Tryz.sizeOf214
  v53 := Tryz.zeroValue214
  t55 := Tryz.underlying261
  a55 := Tryz.isAgg261
  z55 := Tryz.sizeOf261
  v55 := Tryz.zeroValue261
  t66 := Tryz.underlying283
  a66 := Tryz.isAgg283
  z66 := Tryz.sizeOf283
  v66 := Tryz.zeroValue283
  t70 := Tryz.underlying287
  a70 := Tryz.isAgg287
  z70 := Tryz.sizeOf287
  v70 := Tryz.zeroValue287
  t76 := Tryz.underlying309
  a76 := Tryz.isAgg309
  z76 := Tryz.sizeOf309
  v76 := Tryz.zeroValue309
  t77 := Tryz.underlying310
  a77 := Tryz.isAgg310
  z77 := Tryz.sizeOf310
  v77 := Tryz.zeroValue310 }
end Go.Proofs.YtcbfpdenjdgnlaaGreat
/- A row of structs, sorted: the row of the call's own ahead of slices.SortFunc and behind it. No claim of its own; no condition. -/
namespace Go.Proofs.YtcbfpdenjdgnlaaGreat
open Go.RowKit Go.Sort
set_option linter.unusedVariables false
section
variable {α : Type} [Inhabited α] {enc : α → List Value} {k : Nat}
theorem flat_run (hk : ∀ x, (enc x).length = k) (h0 : 0 < k) : ∀ (l : List α) (t : Nat), t < l.length * k → (l.flatMap enc)[t]? = some ((enc l.toArray[t / k]!)[t % k]!)
  | [], t, h => by simp at h
  | x :: l, t, h => by
    rw [List.flatMap_cons]
    by_cases ht : t < k
    · rw [List.getElem?_append_left (by rw [hk]; exact ht), Nat.div_eq_of_lt ht, Nat.mod_eq_of_lt ht]
      have : (x :: l).toArray[0]! = x := by simp
      rw [this, List.getElem?_eq_getElem (by rw [hk]; exact ht), List.getElem!_eq_getElem?_getD, List.getElem?_eq_getElem (by rw [hk]; exact ht)]
      rfl
    · rw [List.getElem?_append_right (by rw [hk]; omega), hk, flat_run hk h0 l (t - k) (by rw [List.length_cons, Nat.add_mul, Nat.one_mul] at h; omega)]
      obtain ⟨u, rfl⟩ : ∃ u, t = u + k := ⟨t - k, by omega⟩
      rw [Nat.add_sub_cancel, Nat.add_div_right _ h0, Nat.add_mod_right]
      simp
omit [Inhabited α] in
theorem flat_len (hk : ∀ x, (enc x).length = k) : ∀ (l : List α), (l.flatMap enc).length = l.length * k
  | [] => by simp
  | x :: l => by rw [List.flatMap_cons, List.length_append, hk, flat_len hk l, List.length_cons, Nat.add_mul, Nat.one_mul, Nat.add_comm]
theorem holds_of_block (hk : ∀ x, (enc x).length = k) (h0 : 0 < k) {w : World} {G : Nat} {l : List α} {Z : List Value} {e : TypeId} (hb : w.heap[G]? = some (.cells (l.flatMap enc ++ Z).toArray e (0, 0))) : HoldsK enc k w G 0 l.toArray := by
  intro j hj
  rw [size_flatK, List.size_toArray] at hj
  have hf := flat_run hk h0 l j hj
  refine ⟨?_, frozen_of_row w G _ _ e hb⟩
  rw [Nat.zero_add]
  refine block_cell hb ?_
  rw [List.getElem?_toArray, List.getElem?_append_left (by rw [flat_len hk]; exact hj), hf]
  rw [get_flatK _ _ _ _ (by rw [List.size_toArray]; exact hj)]
  rfl
theorem block_of_sort (hk : ∀ x, (enc x).length = k) (h0 : 0 < k) {w : World} {G n : Nat} {l : List α} {d : Array α} {os : Array Obj} {Z : List Value} {e : TypeId} (hb : w.heap[G]? = some (.cells (l.flatMap enc ++ Z).toArray e (0, 0))) (hd : d.size = l.length) :
    (Go.Proofs.sortWorldK enc k w G 0 n d os).heap[G]? = some (.cells (d.toList.flatMap enc ++ Z).toArray e (0, 0)) := by
  have hlt := blk_lt hb
  unfold Go.Proofs.sortWorldK grow putRowK putRow mapBlock «Sort».ahead
  simp only
  rw [Array.getElem?_append_left (by simp; exact hlt), Array.getElem?_modify, if_pos rfl, hb]
  simp only [Option.map_some, onCells]
  congr 2
  refine Array.ext (by simp [putCells, flat_len hk, hd]) fun t h1 h2 => ?_
  simp only [putCells, Array.getElem_mapIdx, size_flatK, Nat.zero_add, Nat.zero_le, true_and, Nat.sub_zero, id]
  have hl1 : (l.flatMap enc).length = d.size * k := by rw [flat_len hk, hd]
  have hl2 : (d.toList.flatMap enc).length = d.size * k := by rw [flat_len hk, Array.length_toList]
  by_cases ht : t < d.size * k
  · rw [if_pos ht, get_flatK _ _ _ _ ht, List.getElem_toArray, List.getElem_append_left (by rw [hl2]; exact ht)]
    have hf := flat_run hk h0 d.toList t (by rw [Array.length_toList]; exact ht)
    rw [List.getElem?_eq_getElem (by rw [hl2]; exact ht)] at hf
    injection hf with hf
    rw [hf]
  · rw [if_neg ht, List.getElem_toArray, List.getElem_toArray, List.getElem_append_right (by rw [hl1]; omega), List.getElem_append_right (by rw [hl2]; omega)]
    simp only [hl1, hl2]
theorem grown_of_sort {w : World} {G n : Nat} {d : Array α} {os : Array Obj} : w.grownBy (Go.Proofs.sortWorldK enc k w G 0 n d os) (some G) := by
  unfold Go.Proofs.sortWorldK grow putRowK putRow mapBlock «Sort».ahead
  refine ⟨rfl, rfl, rfl, by simp, fun b hb hne => ?_⟩
  simp only
  rw [Array.getElem?_append_left (by simp; exact hb), Array.getElem?_modify, if_neg (fun e => hne (by rw [e]))]
end
theorem perm_of_permIn {α : Type} [Inhabited α] {l : List α} {d : Array α} (h : PermIn 0 l.toArray.size l.toArray d) : d.toList.Perm l := by
  obtain ⟨h1, _, h2⟩ := h
  rw [show d.extract 0 l.toArray.size = d by rw [← h1]; simp, show l.toArray.extract 0 l.toArray.size = l.toArray by simp] at h2
  simpa using h2
theorem pairs_of_sorted {α : Type} [Inhabited α] {lt : α → α → Bool} {d : Array α} (h : SortedIn lt 0 d.size d) : d.toList.Pairwise (fun a b => lt b a = false) := by
  rw [List.pairwise_iff_getElem]
  intro i j hi hj hij
  have := h i j (Nat.zero_le _) hij (by simpa using hj)
  rwa [getElem!_pos d i (by simpa using hi), getElem!_pos d j (by simpa using hj)] at this
end Go.Proofs.YtcbfpdenjdgnlaaGreat
