/- 'copy' and 'make' of rows whose elements are of several cells. No claim of its own; no condition. -/
import Derived.Laws.CopyRow
import Derived.OwnWalk
import Derived.Laws.CopyOwn
import Derived.Test.YtcbfpdenjdgnlaaGreatWords
import Derived.Test.YtcbfpdenjdgnlaaGreatWordsB
namespace Go.Proofs.YtcbfpdenjdgnlaaGreat
open Go.ChangeShapes Go.WideShapes Go.ChangeAt Go.RowKit
set_option linter.unusedVariables false
set_option linter.unusedSimpArgs false

theorem run_copy_rowN {P : Program} (w : World) (dT sT ty elem : TypeId) (sz g o dLen dCap : Nat) (a : Addr) (sLen sCap : Nat) (cur : Array Value) (t : TypeId) (cs : List Value)
    (hu : P.underlying dT = some (.slice elem)) (hs : (P.info? elem).map (·.size) = some sz)
    (hg : w.heap[g]? = some (.cells cur t (0, 0))) (hn : cs.length = Nat.min sLen dLen * sz)
    (hsrc : ∀ j v, cs[j]? = some v → w.cell? (a.add j) = some v) (hfit : o + cs.length ≤ cur.size) (h1 : ∀ v ∈ cs, v.oneCell' = true) :
    (Builtin.copy_ #[dT, sT] ty #[.slice (some ⟨g, o, none⟩) dLen dCap, .slice (some a) sLen sCap]).run P w =
      .ok (goInt (Nat.min sLen dLen)) (w.setRow g (cur.toList.take o ++ cs ++ cur.toList.drop (o + cs.length)).toArray) := by
  have hl := run_loadCells_list (P := P) w a cs hsrc
  have hst := run_storeCells_at P g o t cs 0 cur w hg (by simpa using hfit) h1
  cases hq : P.info? elem with
  | none => simp [hq] at hs
  | some i =>
    have hi : i.size = sz := by simpa [hq] using hs
    simp [Builtin.copy_, run_underlying hu, Builtin.lenOf, Builtin.firstCells, sizeOf, typeInfo, hq, hi, ← hn, hl, hst]
theorem run_copy_noneN {P : Program} (w : World) (dT sT ty elem : TypeId) (d a : Option Addr) (dLen dCap sLen sCap : Nat) (hu : P.underlying dT = some (.slice elem)) (hs : ((P.info? elem).map (·.size)).isSome = true) (hn : Nat.min sLen dLen = 0) :
    (Builtin.copy_ #[dT, sT] ty #[.slice d dLen dCap, .slice a sLen sCap]).run P w = .ok (goInt 0) w := by
  cases hq : P.info? elem with
  | none => simp [hq] at hs
  | some i =>
    have hl : ∀ (x : Addr), (loadCells x 0).run P w = .ok #[] w := fun x => by simpa using run_loadCells_list (P := P) w x [] (by simp)
    cases d <;> cases a <;> simp [Builtin.copy_, run_underlying hu, Builtin.lenOf, Builtin.firstCells, sizeOf, typeInfo, hq, hn, storeCells, hl]
/-- 'copy(out, l)', out as long as l and the call's own: out is l. -/
theorem run_copy_own {P : Program} {α : Type} (w : World) (d : Kd α) (dT sT ty elem : TypeId) (base B B' g n c : Nat) (A : Option Addr) (l : List α) (cur : Array Value)
    (hu : P.underlying dT = some (.slice elem)) (hs : (P.info? elem).map (·.size) = some d.sz) (hg : w.heap[g]? = some (.cells cur elem (0, 0))) (hcur : cur.size = n * d.sz) (hn : n = l.length)
    (hr : d.Row elem B' w A l) (hm : n ≤ maxLen) (hb : base ≤ g) :
    ∃ w' cs, (Builtin.copy_ #[dT, sT] ty #[.slice (some ⟨g, 0, none⟩) n n, .slice A n c]).run P w = .ok (goInt n) w' ∧ Kd.Reps d B' w l cs ∧ w'.heap[g]? = some (.cells cs.toArray elem (0, 0)) ∧ w.grownBy w' (some g) := by
  subst hn
  cases l with
  | nil =>
    refine ⟨w, [], ?_, .nil, ?_, World.grownBy.refl w _⟩
    · exact run_copy_noneN w dT sT ty elem _ A 0 0 0 c hu (by rw [hs]; rfl) rfl
    · have : cur = #[] := by
        have : cur.size = 0 := by simpa using hcur
        exact Array.eq_empty_of_size_eq_zero this
      rw [hg, this]
  | cons x xs =>
    obtain ⟨ad, rfl, _, h3⟩ := hr (by simp)
    obtain ⟨cs, h1, h2⟩ := Kd.Reps.mk h3
    have hl : cs.length = (x :: xs).length * d.sz := h1.len
    have hr := run_copy_rowN (P := P) w dT sT ty elem d.sz g 0 (x :: xs).length (x :: xs).length ad (x :: xs).length c cur elem cs hu hs hg (by rw [hl]; simp) h2 (by rw [hl, hcur]; omega) h1.oneCell
    have e : cur.toList.take 0 ++ cs ++ cur.toList.drop (0 + cs.length) = cs := by
      rw [List.drop_of_length_le (by rw [hl, Nat.zero_add, ← hcur]; simp)]
      simp
    rw [e] at hr
    refine ⟨_, cs, by rw [hr]; simp, h1, setRow_heap w g cur _ elem _ hg, ⟨rfl, rfl, rfl, by simp [World.setRow], fun k hk hne => setRow_other w g k _ (fun h => hne (by rw [h]))⟩⟩
/-- A row of the call's own, from its block. -/
theorem own_of_block {α : Type} {d : Kd α} {e : TypeId} {B base g n : Nat} {w : World} {xs : List α} {cs : List Value} (hb : w.heap[g]? = some (.cells cs.toArray e (0, 0))) (hr : Kd.Reps d B w xs cs) (hg : base ≤ g) (hn : n = xs.length) (hm : n ≤ maxLen) :
    d.Own e B w base (.slice (some ⟨g, 0, none⟩) n n) xs := by
  subst hn
  exact ⟨cs, ⟨hr.len, .inr ⟨g, xs.length, cs.toArray, rfl, hg, hb, Nat.le_refl _, hm, by simp [hr.len], by rw [← hr.len]; simp⟩⟩, hr⟩
theorem block_of_own {w : World} {base n g : Nat} {e : TypeId} {size : Nat} {cs : List Value} (h : w.ownsRow base e size (.slice (some ⟨g, 0, none⟩) n n) n cs) :
    ∃ cur, w.heap[g]? = some (.cells cur e (0, 0)) ∧ cur.size = n * size ∧ base ≤ g := by
  rcases h.2 with ⟨h', _⟩ | ⟨g', cap, cur, h', hb, hh, _, _, hs, _⟩
  · simp at h'
  · simp only [Value.slice.injEq, Option.some.injEq, Addr.mk.injEq, and_true, true_and] at h'
    obtain ⟨rfl, rfl⟩ := h'
    exact ⟨cur, hh, hs, hb⟩
end Go.Proofs.YtcbfpdenjdgnlaaGreat
/- Words: kinds whose cells say all (flat kinds); rows of the call's own, as blocks. No claim of its own; no condition. -/
namespace Go.Proofs.YtcbfpdenjdgnlaaGreat
open Go.ChangeShapes Go.WideShapes Go.ChangeAt Go.RowKit
set_option linter.unusedVariables false
namespace Kd
variable {α β : Type}
/-- What the cells are says all: no memory behind them. -/
def Flat (d : Kd α) : Prop := ∀ (B B' : Nat) (w w' : World) (x : α) (cs : List Value), d.K B w x cs → d.K B' w' x cs
theorem flat_int : Flat Kd.int := fun _ _ _ _ _ _ h => h
theorem flat_u8 : Flat Kd.u8 := fun _ _ _ _ _ _ h => h
theorem flat_bool : Flat Kd.bool := fun _ _ _ _ _ _ h => h
theorem flat_str : Flat Kd.str := fun _ _ _ _ _ _ h => h
theorem flat_pair {a : Kd α} {b : Kd β} (ha : a.Flat) (hb : b.Flat) : (a.pair b).Flat := by
  rintro B B' w w' x cs ⟨c0, c1, rfl, h0, h1⟩
  exact ⟨c0, c1, rfl, ha _ _ _ _ _ _ h0, hb _ _ _ _ _ _ h1⟩
theorem flat_iso {a : Kd α} {f : β → α} (ha : a.Flat) : (a.iso f).Flat := fun _ _ _ _ _ _ h => ha _ _ _ _ _ _ h
theorem Reps.flat {d : Kd α} (hf : d.Flat) {B B' : Nat} {w w' : World} {xs : List α} {cs : List Value} (h : Reps d B w xs cs) : Reps d B' w' xs cs := by
  induction h with
  | nil => exact .nil
  | cons hc _ ih => exact .cons (hf _ _ _ _ _ _ hc) ih
theorem row_flat {d : Kd α} (hf : d.Flat) {e : TypeId} {B B' : Nat} {w : World} {A : Option Addr} {xs : List α} (h : d.Row e B w A xs) (hB : w.heap.size ≤ B') : d.Row e B' w A xs := by
  intro hne
  obtain ⟨ad, rfl, hb, hx⟩ := h hne
  refine ⟨ad, rfl, ⟨hb.1, .inl (by have := hb.1; omega)⟩, fun i x hi => ?_⟩
  obtain ⟨cs, hK, hc⟩ := hx i x hi
  exact ⟨cs, hf _ _ _ _ _ _ hK, hc⟩
theorem own_flat {d : Kd α} (hf : d.Flat) {e : TypeId} {B B' base base' : Nat} {w : World} {v : Value} {xs : List α} (h : d.Own e B w base v xs) (hb : base' ≤ base) : d.Own e B' w base' v xs := by
  obtain ⟨cs, ho, hr⟩ := h
  refine ⟨cs, ⟨ho.1, ?_⟩, hr.flat hf⟩
  rcases ho.2 with h | ⟨g, cap, cur, h1, h2, h3⟩
  · exact .inl h
  · exact .inr ⟨g, cap, cur, h1, Nat.le_trans hb h2, h3⟩
/-- A row of the call's own that is not empty, as its block. -/
theorem own_form {d : Kd α} {e : TypeId} {B base : Nat} {w : World} {v : Value} {xs : List α} (h : d.Own e B w base v xs) (hne : xs ≠ []) :
    ∃ g c cs Z, v = .slice (some ⟨g, 0, none⟩) xs.length c ∧ base ≤ g ∧ w.heap[g]? = some (.cells (cs ++ Z).toArray e (0, 0)) ∧ Reps d B w xs cs ∧ xs.length ≤ c ∧ c ≤ maxLen ∧ (cs ++ Z).length = c * d.sz := by
  obtain ⟨cs, ho, hr⟩ := h
  rcases ho.2 with ⟨_, h⟩ | ⟨g, cap, cur, h1, h2, h3, h4, h5, h6, h7⟩
  · exact absurd (List.eq_nil_of_length_eq_zero h) hne
  · have e1 : cs ++ cur.toList.drop (xs.length * d.sz) = cur.toList := by rw [← h7]; exact List.take_append_drop _ _
    exact ⟨g, cap, cs, cur.toList.drop (xs.length * d.sz), h1, h2, by rw [e1]; exact h3, hr, h4, h5, by rw [e1]; simpa using h6⟩
theorem own_of_form {d : Kd α} {e : TypeId} {B base g n c : Nat} {w : World} {xs : List α} {cs Z : List Value} (hb : w.heap[g]? = some (.cells (cs ++ Z).toArray e (0, 0))) (hr : Reps d B w xs cs) (hg : base ≤ g) (hn : n = xs.length) (hc : n ≤ c) (hm : c ≤ maxLen)
    (hz : (cs ++ Z).length = c * d.sz) : d.Own e B w base (.slice (some ⟨g, 0, none⟩) n c) xs := by
  subst hn
  refine ⟨cs, ⟨hr.len, .inr ⟨g, c, (cs ++ Z).toArray, rfl, hg, hb, hc, hm, by simpa using hz, ?_⟩⟩, hr⟩
  rw [← hr.len]
  simp
/-- 'make([]T, 0)' and '[]T{}': a row of nothing in a block of its own. -/
theorem own_empty {d : Kd α} {e : TypeId} {B base : Nat} {w : World} (hb : base ≤ w.heap.size) : d.Own e B (w.alloc (.cells #[] e)) base (.slice (some ⟨w.heap.size, 0, none⟩) 0 0) [] :=
  ⟨[], World.ownsRow_made w #[] 0 hb (by simp [maxLen]) (by simp), .nil⟩
end Kd
theorem set_blockZ {w : World} {G : Nat} {cs Z : List Value} {e : TypeId} (h : w.heap[G]? = some (.cells (cs ++ Z).toArray e (0, 0))) (j : Nat) (hj : j < cs.length) (u : Value) : (w.setCell ⟨G, j, none⟩ u).heap[G]? = some (.cells (cs.set j u ++ Z).toArray e (0, 0)) := by
  rw [heap_setCell_same w G j (cs ++ Z).toArray e u h]
  simp [List.set_append_left _ _ hj]
end Go.Proofs.YtcbfpdenjdgnlaaGreat
