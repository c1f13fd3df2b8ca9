/- Words for memory: how Lean values lie in cells (kinds), rows that are read, rows of the call's own. No claim of its own; no condition. -/
import Derived.Test.YtcbfpdenjdgnlaaGreatRows
import Derived.Test.YtcbfpdenjdgnlaaGreatQt01
import Derived.Deep.Slices
import Derived.JoinedCond
import Derived.Deep.OwnRows
import Derived.ChangeArms
import Derived.Laws.StructEq
import Derived.Maps.AppendAt
import Derived.Deep.AppendLies
import Derived.Deep.Draws
import Derived.Deep.QuietTactic
import Derived.BigQuiet
namespace Go.Proofs.YtcbfpdenjdgnlaaGreat
open Go.ChangeShapes Go.WideShapes Go.ChangeAt Go.RowKit
set_option linter.unusedVariables false

theorem block_of_add (a : Addr) (n : Nat) : (a.add n).block = a.block := by unfold Addr.add; split <;> rfl
theorem add_of_add (a : Addr) (i j : Nat) : (a.add i).add j = a.add (i + j) := by
  unfold Addr.add
  by_cases hi : i = 0 <;> by_cases hj : j = 0 <;> simp [hi, hj, Nat.add_assoc]
theorem blk_lt {w : World} {b : Nat} {o : Obj} (h : w.heap[b]? = some o) : b < w.heap.size := by
  rcases Nat.lt_or_ge b w.heap.size with h1 | h1
  · exact h1
  · rw [Array.getElem?_eq_none h1] at h; cases h

/-- Block b is an old one, or one of an element type of E. -/
def Held (B : Nat) (E : List TypeId) (w : World) (b : Nat) : Prop := b < w.heap.size ∧ (b < B ∨ ∃ c t f, w.heap[b]? = some (.cells c t f) ∧ t ∈ E)
/-- Those blocks are as they were. -/
def Keeps (B : Nat) (E : List TypeId) (w w1 : World) : Prop := w.heap.size ≤ w1.heap.size ∧ ∀ b, Held B E w b → w1.heap[b]? = w.heap[b]?

theorem Held.mono {B : Nat} {E E' : List TypeId} {w : World} {b : Nat} (h : Held B E w b) (hE : ∀ t ∈ E, t ∈ E') : Held B E' w b :=
  ⟨h.1, h.2.imp id fun ⟨c, t, f, h1, h2⟩ => ⟨c, t, f, h1, hE t h2⟩⟩
theorem Keeps.mono {B : Nat} {E E' : List TypeId} {w w1 : World} (h : Keeps B E' w w1) (hE : ∀ t ∈ E, t ∈ E') : Keeps B E w w1 :=
  ⟨h.1, fun b hb => h.2 b (hb.mono hE)⟩
theorem Keeps.of_below {B : Nat} {E : List TypeId} {w w1 : World} (h : Below w.heap.size w w1) : Keeps B E w w1 := ⟨h.size, fun b hb => h.block b hb.1⟩
theorem Keeps.refl (B : Nat) (E : List TypeId) (w : World) : Keeps B E w w := ⟨Nat.le_refl _, fun _ _ => rfl⟩
theorem Held.keep {B : Nat} {E : List TypeId} {w w1 : World} {b : Nat} (hk : Keeps B E w w1) (h : Held B E w b) : Held B E w1 b :=
  ⟨Nat.lt_of_lt_of_le h.1 hk.1, h.2.imp id fun ⟨c, t, f, h1, h2⟩ => ⟨c, t, f, (hk.2 b h).trans h1, h2⟩⟩
theorem Keeps.trans {B : Nat} {E : List TypeId} {a b c : World} (h : Keeps B E a b) (k : Keeps B E b c) : Keeps B E a c :=
  ⟨Nat.le_trans h.1 k.1, fun x hx => (k.2 x (hx.keep h)).trans (h.2 x hx)⟩
theorem Keeps.alloc {B : Nat} {E : List TypeId} (w : World) (o : Obj) : Keeps B E w (w.alloc o) :=
  ⟨by simp, fun b hb => Below.heap_alloc w o b hb.1⟩
theorem Keeps.drewN {B : Nat} {E : List TypeId} (w : World) (n : Nat) : Keeps B E w (w.drewN n) := ⟨Nat.le_refl _, fun _ _ => rfl⟩
/-- A store into a new block of another type. -/
theorem Keeps.set {B : Nat} {E : List TypeId} {w : World} {p : Addr} {c : Array Value} {t : TypeId} {f : Nat × Nat} (hp : w.heap[p.block]? = some (.cells c t f)) (hB : B ≤ p.block) (ht : t ∉ E) (u : Value) : Keeps B E w (w.setCell p u) := by
  refine ⟨by simp [World.setCell], fun b hb => Below.heap_setCell w p u b ?_⟩
  rintro rfl
  rcases hb.2 with h | ⟨c', t', f', h1, h2⟩
  · omega
  · rw [hp] at h1
    cases h1
    exact ht h2
/-- A new row has grown. -/
theorem Keeps.grown {B : Nat} {E : List TypeId} {w w1 : World} {row : Option Nat} (hg : w.grownBy w1 row) (hr : ∀ g, row = some g → B ≤ g ∧ ∃ c t f, w.heap[g]? = some (.cells c t f) ∧ t ∉ E) : Keeps B E w w1 := by
  refine ⟨hg.size, fun b hb => hg.block b hb.1 ?_⟩
  intro e
  obtain ⟨h1, c, t, f, h2, h3⟩ := hr b e.symm
  rcases hb.2 with h | ⟨c', t', f', h4, h5⟩
  · omega
  · rw [h2] at h4
    cases h4
    exact h3 h5

/-! ### 'Below' step by step, from the world in which the call began -/
theorem bl_alloc {a w : World} (h : Below a.heap.size a w) (o : Obj) : Below a.heap.size a (w.alloc o) := h.alloc h.size o
theorem bl_drew {a w : World} (h : Below a.heap.size a w) : Below a.heap.size a w.drew := h.drew
theorem bl_drewN {a w : World} (h : Below a.heap.size a w) (n : Nat) : Below a.heap.size a (w.drewN n) := ⟨h.os, h.tape, h.output, h.size, h.block⟩
theorem bl_set {a w : World} (h : Below a.heap.size a w) {p : Addr} (hp : a.heap.size ≤ p.block) (u : Value) : Below a.heap.size a (w.setCell p u) := h.setCell hp u
theorem bl_trans {a w w1 : World} (h : Below a.heap.size a w) (k : Below w.heap.size w w1) : Below a.heap.size a w1 := h.trans (k.mono h.size)
theorem bl_grown {a w w1 : World} {row : Option Nat} (h : Below a.heap.size a w) (hg : w.grownBy w1 row) (hr : ∀ k, row = some k → a.heap.size ≤ k) : Below a.heap.size a w1 := h.grown hg h.size hr
theorem cell_below {a w : World} (h : Below a.heap.size a w) {p : Addr} {v : Value} (hc : a.cell? p = some v) : w.cell? p = some v := (h.cell (World.block_lt_of_cell? a p hc)).trans hc

theorem add_fld (a : Addr) (n j : Nat) : a.add (n + (j + 1)) = ⟨(a.add n).block, (a.add n).off + (j + 1), none⟩ := by
  unfold Addr.add
  by_cases hn : n = 0 <;> simp [hn, Nat.add_assoc]
theorem cell_fld {w : World} {a : Addr} {n j : Nat} {v : Value} (h : w.cell? (a.add (n + (j + 1))) = some v) : w.cell? ⟨(a.add n).block, (a.add n).off + (j + 1), none⟩ = some v := by
  rwa [add_fld] at h
theorem block_cell {w : World} {b i : Nat} {cs : Array Value} {t : TypeId} {f : Nat × Nat} (h : w.heap[b]? = some (.cells cs t f)) {v : Value} (hi : cs[i]? = some v) : w.cell? ⟨b, i, none⟩ = some v := by
  simp [World.cell?, h, hi]

/-- A cell that was there holds the same in whatever world comes from that one. -/
theorem held_cell {a : World} {p : Addr} {v : Value} (hc : a.cell? p = some v) : ∀ w', Below a.heap.size a w' → w'.cell? p = some v := fun _ h => cell_below h hc

theorem alloc_new (w : World) (o : Obj) : (w.alloc o).heap[w.heap.size]? = some o := Go.heap_alloc_new w o
theorem alloc_old {w : World} {b : Nat} {x : Obj} (h : w.heap[b]? = some x) (o : Obj) : (w.alloc o).heap[b]? = some x := (Below.heap_alloc w o b (blk_lt h)).trans h
theorem block_below {a w : World} (h : Below a.heap.size a w) {b : Nat} {x : Obj} (hb : a.heap[b]? = some x) : w.heap[b]? = some x := (h.block b (blk_lt hb)).trans hb

/-! ### '==' of structs -/
section
variable {P : Program} {d : Nat} {xs ys : Array Value} {f : Field} {fs : List Field} {a b : Value} {r s : Bool} {w : World}
theorem eqf_nil : (Op.eqFields d xs ys []).run P w = .ok true w := by simp [Op.eqFields]
theorem eqf_cons (hn : (f.name == "_") = false) (ha : (part f.type xs f.offset).run P w = .ok a w) (hb : (part f.type ys f.offset).run P w = .ok b w) (he : (Op.equalIn d f.type a b).run P w = .ok r w) (hr : (Op.eqFields d xs ys fs).run P w = .ok s w) : (Op.eqFields d xs ys (f :: fs)).run P w = .ok (r && s) w := by
  have hn' : f.name ≠ "_" := by simpa using hn
  rw [Op.eqFields]
  simp only [if_pos hn', Sem.run_bind, ha, hb, he, Result.andThen_ok]
  cases r
  · simp
  · simpa using hr
theorem eq_of {t : TypeId} {fs : Array Field} (hu : P.underlying t = some (.struct fs)) (hp : P.stoodInHeld t = false) (h : (Op.eqFields d xs ys fs.toList).run P w = .ok r w) : (Op.equalIn (d + 1) t (.agg xs) (.agg ys)).run P w = .ok r w := by
  have hf : P.fieldsOf t = fs := by simp [Program.fieldsOf, hu]
  rw [run_equalIn_struct (P := P) w d t xs ys (by rw [hf]; exact hu) hp, hf]
  exact h
theorem eql_of {t : TypeId} {fs : Array Field} (hu : P.underlying t = some (.struct fs)) (hp : P.stoodInHeld t = false) (h : (Op.eqFields 9999 xs ys fs.toList).run P w = .ok r w) : (binOp .eql t (.agg xs) (.agg ys)).run P w = .ok (.bool r) w := by
  rw [run_eql_struct, eq_of (d := 9999) hu hp h]
  rfl
theorem neq_of {t : TypeId} {fs : Array Field} (hu : P.underlying t = some (.struct fs)) (hp : P.stoodInHeld t = false) (h : (Op.eqFields 9999 xs ys fs.toList).run P w = .ok r w) : (binOp .neq t (.agg xs) (.agg ys)).run P w = .ok (.bool (!r)) w := by
  rw [run_neq_struct, eq_of (d := 9999) hu hp h]
  rfl
end
theorem bytes_beq (a b : ByteArray) : (a.toList == b.toList) = decide (a = b) := by
  rw [ByteArray.toList_eq, ByteArray.toList_eq]
  obtain ⟨⟨x⟩⟩ := a
  obtain ⟨⟨y⟩⟩ := b
  by_cases h : x = y
  · subst h
    simp
  · have h2 : ¬ (ByteArray.mk ⟨x⟩ = ByteArray.mk ⟨y⟩) := fun e => h (by injection e with e; injection e)
    simp [h, h2]

theorem alloc2_new (w : World) (a b : Obj) : ((w.alloc a).alloc b).heap[w.heap.size]? = some a ∧ ((w.alloc a).alloc b).heap[w.heap.size + 1]? = some b :=
  ⟨alloc_old (alloc_new w a) b, by have := alloc_new (w.alloc a) b; rwa [show (w.alloc a).heap.size = w.heap.size + 1 by simp] at this⟩

structure Kd (α : Type) where
  sz : Nat
  E : List TypeId
  K : Nat → World → α → List Value → Prop
  bulk : α → Nat
  len : ∀ {B w x cs}, K B w x cs → cs.length = sz
  one : ∀ {B w x cs}, K B w x cs → ∀ u ∈ cs, u.oneCell' = true
  keep : ∀ {B w w1 x cs}, Keeps B E w w1 → K B w x cs → K B w1 x cs

def IntOk (x : Int) : Prop := -9223372036854775808 ≤ x ∧ x ≤ 9223372036854775807

namespace Kd
def int : Kd Int where
  sz := 1
  E := []
  K := fun _ _ x cs => cs = [.int .i64 x] ∧ IntOk x
  bulk := fun _ => 1
  len := fun h => by rw [h.1]; rfl
  one := fun h u hu => by rw [h.1] at hu; rw [List.mem_singleton.1 hu]; rfl
  keep := fun _ h => h
def u8 : Kd UInt8 where
  sz := 1
  E := []
  K := fun _ _ x cs => cs = [.int .u8 (x.toNat : Int)]
  bulk := fun _ => 1
  len := fun h => by rw [h]; rfl
  one := fun h u hu => by rw [h] at hu; rw [List.mem_singleton.1 hu]; rfl
  keep := fun _ h => h
def bool : Kd Bool where
  sz := 1
  E := []
  K := fun _ _ x cs => cs = [.bool x]
  bulk := fun _ => 1
  len := fun h => by rw [h]; rfl
  one := fun h u hu => by rw [h] at hu; rw [List.mem_singleton.1 hu]; rfl
  keep := fun _ h => h
def str : Kd ByteArray where
  sz := 1
  E := []
  K := fun _ _ x cs => cs = [.string x] ∧ x.size ≤ 140737488351232
  bulk := fun s => s.size + 1
  len := fun h => by rw [h.1]; rfl
  one := fun h u hu => by rw [h.1] at hu; rw [List.mem_singleton.1 hu]; rfl
  keep := fun _ h => h

variable {α β : Type}
/-- A row of elements that is read: an old one, or one of its own type. -/
def Row (d : Kd α) (e : TypeId) (B : Nat) (w : World) (A : Option Addr) (xs : List α) : Prop :=
  xs ≠ [] → ∃ ad, A = some ad ∧ Held B (e :: d.E) w ad.block ∧ ∀ i x, xs[i]? = some x → ∃ cs, d.K B w x cs ∧ ∀ j u, cs[j]? = some u → w.cell? (ad.add (i * d.sz + j)) = some u
theorem row_nil (d : Kd α) (e : TypeId) (B : Nat) (w : World) (A : Option Addr) : d.Row e B w A [] := fun h => absurd rfl h
theorem row_keep {d : Kd α} {e : TypeId} {B : Nat} {w w1 : World} {A : Option Addr} {xs : List α} (hk : Keeps B (e :: d.E) w w1) (h : d.Row e B w A xs) : d.Row e B w1 A xs := by
  intro hne
  obtain ⟨ad, rfl, hb, hx⟩ := h hne
  refine ⟨ad, rfl, hb.keep hk, fun i x hi => ?_⟩
  obtain ⟨cs, hK, hc⟩ := hx i x hi
  exact ⟨cs, d.keep (hk.mono fun t ht => List.mem_cons_of_mem _ ht) hK, fun j u hu => by
    rw [World.cell?_of_block (w := w) (by rw [block_of_add]; exact hk.2 _ hb)]
    exact hc j u hu⟩
theorem row_below {d : Kd α} {e : TypeId} {B : Nat} {w w1 : World} {A : Option Addr} {xs : List α} (hb : Below w.heap.size w w1) (h : d.Row e B w A xs) : d.Row e B w1 A xs := row_keep (Keeps.of_below hb) h
theorem row_at {d : Kd α} {e : TypeId} {B : Nat} {w : World} {A : Option Addr} {xs : List α} (h : d.Row e B w A xs) {i : Nat} {x : α} (hi : xs[i]? = some x) :
    ∃ ad cs, A = some ad ∧ ad.block < w.heap.size ∧ d.K B w x cs ∧ ∀ j u, cs[j]? = some u → w.cell? (ad.add (i * d.sz + j)) = some u := by
  obtain ⟨ad, e1, hb, hx⟩ := h (by rintro rfl; cases hi)
  obtain ⟨cs, hK, hc⟩ := hx i x hi
  exact ⟨ad, cs, e1, hb.1, hK, hc⟩

def slice (e : TypeId) (d : Kd α) : Kd (List α) where
  sz := 1
  E := e :: d.E
  K := fun B w xs cs => ∃ A c, cs = [.slice A xs.length c] ∧ xs.length ≤ c ∧ c ≤ maxLen ∧ d.Row e B w A xs
  bulk := fun xs => (xs.map d.bulk).sum + 1
  len := by rintro B w x cs ⟨A, c, rfl, _⟩; rfl
  one := by rintro B w x cs ⟨A, c, rfl, _⟩ u hu; rw [List.mem_singleton.1 hu]; rfl
  keep := by rintro B w w1 x cs hk ⟨A, c, rfl, h1, h2, hr⟩; exact ⟨A, c, rfl, h1, h2, row_keep hk hr⟩
def pair (a : Kd α) (b : Kd β) : Kd (α × β) where
  sz := a.sz + b.sz
  E := a.E ++ b.E
  K := fun B w x cs => ∃ c0 c1, cs = c0 ++ c1 ∧ a.K B w x.1 c0 ∧ b.K B w x.2 c1
  bulk := fun x => a.bulk x.1 + b.bulk x.2
  len := by rintro B w x cs ⟨c0, c1, rfl, h0, h1⟩; rw [List.length_append, a.len h0, b.len h1]
  one := by
    rintro B w x cs ⟨c0, c1, rfl, h0, h1⟩ u hu
    rcases List.mem_append.1 hu with hu | hu
    · exact a.one h0 u hu
    · exact b.one h1 u hu
  keep := by
    rintro B w w1 x cs hk ⟨c0, c1, rfl, h0, h1⟩
    exact ⟨c0, c1, rfl, a.keep (hk.mono fun t ht => List.mem_append_left _ ht) h0, b.keep (hk.mono fun t ht => List.mem_append_right _ ht) h1⟩
def iso (d : Kd α) (f : β → α) : Kd β where
  sz := d.sz
  E := d.E
  K := fun B w x cs => d.K B w (f x) cs
  bulk := fun x => d.bulk (f x) + 1
  len := d.len
  one := d.one
  keep := d.keep

/-! rows of the call's own -/
/-- Elements, one behind the other. -/
inductive Reps (d : Kd α) (B : Nat) (w : World) : List α → List Value → Prop
  | nil : Reps d B w [] []
  | cons {x : α} {xs : List α} {c cs : List Value} : d.K B w x c → Reps d B w xs cs → Reps d B w (x :: xs) (c ++ cs)
theorem Reps.len {d : Kd α} {B : Nat} {w : World} {xs : List α} {cs : List Value} (h : Reps d B w xs cs) : cs.length = xs.length * d.sz := by
  induction h with
  | nil => simp
  | cons hc _ ih => rw [List.length_append, ih, d.len hc, List.length_cons, Nat.add_mul]; omega
theorem Reps.keep {d : Kd α} {B : Nat} {w w1 : World} {xs : List α} {cs : List Value} (hk : Keeps B d.E w w1) (h : Reps d B w xs cs) : Reps d B w1 xs cs := by
  induction h with
  | nil => exact .nil
  | cons hc _ ih => exact .cons (d.keep hk hc) ih
theorem Reps.app {d : Kd α} {B : Nat} {w : World} {xs ys : List α} {cs ds : List Value} (h : Reps d B w xs cs) (k : Reps d B w ys ds) : Reps d B w (xs ++ ys) (cs ++ ds) := by
  induction h with
  | nil => exact k
  | cons hc _ ih => rw [List.append_assoc]; exact .cons hc ih
theorem Reps.one {d : Kd α} {B : Nat} {w : World} {x : α} {c : List Value} (h : d.K B w x c) : Reps d B w [x] c := by
  have := Reps.cons h (Reps.nil (d := d) (B := B) (w := w))
  simpa using this
theorem Reps.oneCell {d : Kd α} {B : Nat} {w : World} {xs : List α} {cs : List Value} (h : Reps d B w xs cs) : ∀ u ∈ cs, u.oneCell' = true := by
  induction h with
  | nil => intro u hu; cases hu
  | cons hc _ ih =>
    intro u hu
    rcases List.mem_append.1 hu with hu | hu
    · exact d.one hc u hu
    · exact ih u hu
theorem Reps.get {d : Kd α} {B : Nat} {w : World} {xs : List α} {cs : List Value} (h : Reps d B w xs cs) : ∀ {i : Nat} {x : α}, xs[i]? = some x → ∃ c, d.K B w x c ∧ ∀ j u, c[j]? = some u → cs[i * d.sz + j]? = some u := by
  induction h with
  | nil => intro i x hi; cases hi
  | cons hc _ ih =>
    rename_i x0 xs0 c0 cs0 _
    intro i x hi
    cases i with
    | zero =>
      have : x0 = x := by simpa using hi
      subst this
      refine ⟨c0, hc, fun j u hu => ?_⟩
      have hj : j < c0.length := (List.getElem?_eq_some_iff.1 hu).1
      rw [Nat.zero_mul, Nat.zero_add, List.getElem?_append_left hj, hu]
    | succ i =>
      obtain ⟨c, h1, h2⟩ := ih (i := i) (x := x) (by simpa using hi)
      refine ⟨c, h1, fun j u hu => ?_⟩
      have hl := d.len hc
      rw [Nat.add_mul, Nat.one_mul, List.getElem?_append_right (by omega)]
      rw [show i * d.sz + d.sz + j - c0.length = i * d.sz + j by omega]
      exact h2 j u hu
theorem Reps.mk {d : Kd α} {B : Nat} {w : World} : ∀ {xs : List α} {ad : Addr}, (∀ i x, xs[i]? = some x → ∃ cs, d.K B w x cs ∧ ∀ j u, cs[j]? = some u → w.cell? (ad.add (i * d.sz + j)) = some u) →
    ∃ cs, Reps d B w xs cs ∧ ∀ j u, cs[j]? = some u → w.cell? (ad.add j) = some u
  | [], ad, _ => ⟨[], .nil, fun j u hu => by cases hu⟩
  | x :: xs, ad, h => by
    obtain ⟨c0, h1, h2⟩ := h 0 x rfl
    obtain ⟨cs, h3, h4⟩ := Reps.mk (xs := xs) (ad := ad.add d.sz) (fun i y hi => by
      obtain ⟨c, h5, h6⟩ := h (i + 1) y (by simpa using hi)
      refine ⟨c, h5, fun j u hu => ?_⟩
      rw [add_of_add]
      have := h6 j u hu
      rwa [show (i + 1) * d.sz + j = d.sz + (i * d.sz + j) by rw [Nat.add_mul]; omega] at this)
    refine ⟨c0 ++ cs, .cons h1 h3, fun j u hu => ?_⟩
    have hl := d.len h1
    by_cases hj : j < c0.length
    · rw [List.getElem?_append_left hj] at hu
      have := h2 j u hu
      rwa [Nat.zero_mul, Nat.zero_add] at this
    · rw [List.getElem?_append_right (by omega)] at hu
      have := h4 _ u hu
      rw [add_of_add] at this
      rwa [show d.sz + (j - c0.length) = j by omega] at this

def Own (d : Kd α) (e : TypeId) (B : Nat) (w : World) (base : Nat) (v : Value) (xs : List α) : Prop :=
  ∃ cs, w.ownsRow base e d.sz v xs.length cs ∧ Reps d B w xs cs

theorem own_nil (d : Kd α) (e : TypeId) (B : Nat) (w : World) (base : Nat) : d.Own e B w base (.slice none 0 0) [] :=
  ⟨[], ⟨by simp, .inl ⟨rfl, rfl⟩⟩, .nil⟩
theorem own_row {d : Kd α} {e : TypeId} {B : Nat} {w : World} {base : Nat} {v : Value} {xs : List α} (h : d.Own e B w base v xs) :
    ∃ A c, v = .slice A xs.length c ∧ xs.length ≤ c ∧ c ≤ maxLen ∧ d.Row e B w A xs ∧ (∀ ad, A = some ad → base ≤ ad.block) := by
  obtain ⟨cs, ho, hr⟩ := h
  obtain ⟨hl, ho | ⟨g, cap, cur, rfl, hg, hh, hc, hm, hsz, ht⟩⟩ := ho
  · obtain ⟨rfl, hn⟩ := ho
    have : xs = [] := List.eq_nil_of_length_eq_zero hn
    subst this
    exact ⟨none, 0, rfl, by simp, by simp [maxLen], row_nil _ _ _ _ _, fun ad h => by cases h⟩
  · refine ⟨_, cap, rfl, hc, hm, fun hne => ⟨_, rfl, ⟨blk_lt hh, .inr ⟨_, _, _, hh, List.mem_cons_self⟩⟩, fun i x hi => ?_⟩, fun ad h => by cases h; exact hg⟩
    obtain ⟨c, h1, h2⟩ := hr.get hi
    refine ⟨c, h1, fun j u hu => ?_⟩
    have h3 := h2 j u hu
    have h4 : (⟨g, 0, none⟩ : Addr).add (i * d.sz + j) = ⟨g, i * d.sz + j, none⟩ := by
      unfold Addr.add
      split
      · rename_i h0; rw [h0]
      · simp
    rw [h4]
    have h5 : i * d.sz + j < cs.length := (List.getElem?_eq_some_iff.1 h3).1
    have h6 : cur.toList[i * d.sz + j]? = some u := by
      rw [← ht] at h3
      rw [List.getElem?_take] at h3
      split at h3
      · exact h3
      · cases h3
    show World.cell? w _ = _
    simp only [World.cell?, hh]
    simpa using h6
theorem own_keep {d : Kd α} {e : TypeId} {B : Nat} {w w1 : World} {base : Nat} {v : Value} {xs : List α} (h : d.Own e B w base v xs) (hk : Keeps B (e :: d.E) w w1) : d.Own e B w1 base v xs := by
  obtain ⟨cs, ⟨hl, ho⟩, hr⟩ := h
  refine ⟨cs, ⟨hl, ?_⟩, hr.keep (hk.mono fun t ht => List.mem_cons_of_mem _ ht)⟩
  rcases ho with ho | ⟨g, cap, cur, rfl, hg, hh, r⟩
  · exact .inl ho
  · exact .inr ⟨g, cap, cur, rfl, hg, (hk.2 g ⟨blk_lt hh, .inr ⟨_, _, _, hh, List.mem_cons_self⟩⟩).trans hh, r⟩
theorem own_below {d : Kd α} {e : TypeId} {B : Nat} {w w1 : World} {base : Nat} {v : Value} {xs : List α} (h : d.Own e B w base v xs) (hb : Below w.heap.size w w1) : d.Own e B w1 base v xs := own_keep h (Keeps.of_below hb)
theorem own_block {d : Kd α} {e : TypeId} {B : Nat} {w : World} {base : Nat} {v : Value} {xs : List α} (h : d.Own e B w base v xs) : ∀ g, v.ownBlock = some g → base ≤ g ∧ ∃ c, w.heap[g]? = some (.cells c e (0, 0)) := by
  obtain ⟨cs, ⟨hl, ho⟩, hr⟩ := h
  intro g hg
  rcases ho with ⟨rfl, _⟩ | ⟨g', cap, cur, rfl, hg', hh, r⟩
  · simp [Value.ownBlock] at hg
  · have : g' = g := by simpa [Value.ownBlock] using hg
    subst this
    exact ⟨hg', cur, hh⟩
/-- What an append leaves. -/
theorem own_append {d : Kd α} {e : TypeId} {B : Nat} {w w1 : World} {base : Nat} {v v1 : Value} {xs ys : List α} {cs ds : List Value} {n : Nat}
    (hr : Reps d B w xs cs) (hn : Reps d B w ys ds) (ho : w1.ownsRow base e d.sz v1 n (cs ++ ds)) (hg : w.grownBy w1 v.ownBlock) (hlen : n = xs.length + ys.length)
    (hb : ∀ g, v.ownBlock = some g → base ≤ g ∧ ∃ c, w.heap[g]? = some (.cells c e (0, 0))) (hB : B ≤ base) (he : e ∉ d.E) : d.Own e B w1 base v1 (xs ++ ys) := by
  have hk : Keeps B d.E w w1 := Keeps.grown hg fun g h => by
    obtain ⟨h1, c, h2⟩ := hb g h
    exact ⟨by omega, c, e, _, h2, he⟩
  subst hlen
  exact ⟨cs ++ ds, by rw [List.length_append]; exact ho, (hr.keep hk).app (hn.keep hk)⟩
/-- The world behind an append to a row of the call's own. -/
theorem own_step {a w w1 : World} {d : Kd α} {e : TypeId} {B : Nat} {v : Value} {xs : List α} (b : Below a.heap.size a w) (h : d.Own e B w a.heap.size v xs) (hg : w.grownBy w1 v.ownBlock) : Below a.heap.size a w1 :=
  bl_grown b hg fun k hk => (own_block h k hk).1
theorem own_keeps {w w1 : World} {d : Kd α} {e : TypeId} {B base : Nat} {v : Value} {xs : List α} {E : List TypeId} (h : d.Own e B w base v xs) (hg : w.grownBy w1 v.ownBlock) (hB : B ≤ base) (he : e ∉ E) : Keeps B E w w1 :=
  Keeps.grown hg fun g hgk => by
    obtain ⟨h1, c, h2⟩ := own_block h g hgk
    exact ⟨by omega, c, e, _, h2, he⟩
/-- A row while another one grows. -/
theorem row_other {w w1 : World} {d : Kd α} {e : TypeId} {B : Nat} {A : Option Addr} {xs : List α} {row : Option Nat} (h : d.Row e B w A xs) (hg : w.grownBy w1 row) (hne : ∀ ad, A = some ad → row ≠ some ad.block) (hE : Keeps B d.E w w1) : d.Row e B w1 A xs := by
  intro hx
  obtain ⟨ad, rfl, hb, hh⟩ := h hx
  have hblk : w1.heap[ad.block]? = w.heap[ad.block]? := hg.block _ hb.1 (fun e => hne ad rfl e.symm)
  refine ⟨ad, rfl, ⟨Nat.lt_of_lt_of_le hb.1 hg.size, hb.2.imp id fun ⟨c, t, f, h1, h2⟩ => ⟨c, t, f, hblk.trans h1, h2⟩⟩, fun i x hi => ?_⟩
  obtain ⟨cs, hK, hc⟩ := hh i x hi
  exact ⟨cs, d.keep hE hK, fun j u hu => by rw [World.cell?_of_block (w := w) (by rw [block_of_add]; exact hblk)]; exact hc j u hu⟩
end Kd
/-! ### append -/
section
variable {P : Program} (w : World)
theorem run_append_of_nil (base : Nat) (t ty e : TypeId) (i : TypeInfo) (size : Nat) (ht : P.underlying t = some (.slice e)) (hi : P.info? e = some i)
    (v : Value) (n : Nat) (xs : List Value) (hown : w.ownsRow base e size v n xs) (A : Option Addr) (c : Nat) : (Builtin.append_ #[t, t] ty #[v, .slice A 0 c]).run P w = .ok v w ∨ A ≠ none := by
  cases A with
  | some a => exact .inr (by simp)
  | none =>
    left
    rcases hown.2 with ⟨rfl, rfl⟩ | ⟨g, cap, cur, rfl, _, _, hnc, _⟩
    · simp [Builtin.append_, run_underlying ht, sizeOf, typeInfo, hi, Builtin.lenOf, Builtin.firstCells]
    · simp [Builtin.append_, run_underlying ht, sizeOf, typeInfo, hi, Builtin.lenOf, Builtin.firstCells, hnc, storeCells]

theorem run_append_row {α : Type} (d : Kd α) (B base : Nat) (t ty e : TypeId) (i : TypeInfo) (z : Value) (bytes : Nat) (ht : P.underlying t = some (.slice e)) (hi : P.info? e = some i) (hz : i.zero = some z)
    (hsize : i.size = d.sz) (hby : i.bytes = bytes) (hzs : z.cells.size = d.sz) (hsz : 0 < d.sz)
    (v : Value) (xs : List α) (hown : d.Own e B w base v xs) (A : Option Addr) (c : Nat) (ys : List α) (hr : d.Row e B w A ys)
    (hlen : xs.length + ys.length ≤ 4194304) (hb : bytes ≤ 1024) (hbase : base ≤ w.heap.size) (hB : B ≤ base) (he : e ∉ d.E) :
    ∃ v' w', (Builtin.append_ #[t, t] ty #[v, .slice A ys.length c]).run P w = .ok v' w' ∧ d.Own e B w' base v' (xs ++ ys) ∧ w.grownBy w' v.ownBlock ∧
      (v'.ownBlock = v.ownBlock ∨ v'.ownBlock = some w.heap.size) := by
  have hob := Kd.own_block hown
  obtain ⟨cs, ho, hR⟩ := hown
  by_cases hA : A = none
  · subst hA
    have hys : ys = [] := by
      cases ys with
      | nil => rfl
      | cons y ys => obtain ⟨ad, h, _⟩ := hr (by simp); cases h
    subst hys
    rcases run_append_of_nil (P := P) w base t ty e i d.sz ht hi v xs.length cs ho none c with h | h
    · exact ⟨v, w, h, by simpa using ⟨cs, ho, hR⟩, World.grownBy.refl w _, .inl rfl⟩
    · exact absurd rfl h
  · obtain ⟨ad, rfl⟩ := Option.ne_none_iff_exists'.1 hA
    obtain ⟨news, h1, h2⟩ : ∃ news, Kd.Reps d B w ys news ∧ ∀ j u, news[j]? = some u → w.cell? (ad.add j) = some u := by
      cases ys with
      | nil => exact ⟨[], .nil, fun j u hu => by cases hu⟩
      | cons y ys =>
        obtain ⟨ad', h, _, h3⟩ := hr (by simp)
        cases h
        exact Kd.Reps.mk h3
    have hmul : (xs.length + ys.length) * bytes ≤ 4194304 * 1024 := Nat.mul_le_mul hlen hb
    obtain ⟨v', w', hrun, h3, h4, _, h5⟩ := run_append_own_at (P := P) w base t ty e i z d.sz bytes ht hi hz hsize hby hzs hsz v xs.length cs ho ad ys.length c news h1.len h2 h1.oneCell
      (by simp only [maxLen]; omega) (by omega) hbase
    exact ⟨v', w', hrun, Kd.own_append hR h1 h3 h4 rfl hob hB he, h4, h5⟩

theorem wpList_append_row {ops : Array Oper} {rest : List Oper} {o : Oper} {a : Act} {Q : Exit → Act → World → Prop} (hgd : o.guard = none) (s x : Operand) (t : TypeId)
    (ho : o.op = .call { callee := .builtin .append, args := #[s, x], argTypes := #[t, t] })
    {α : Type} (d : Kd α) (B base : Nat) (e : TypeId) (i : TypeInfo) (z : Value) (bytes : Nat) (ht : P.underlying t = some (.slice e)) (hi : P.info? e = some i) (hz : i.zero = some z)
    (hsize : i.size = d.sz) (hby : i.bytes = bytes) (hzs : z.cells.size = d.sz) (hsz : 0 < d.sz)
    (v : Value) (xs : List α) (hs : a.eval s = v) (hown : d.Own e B w base v xs) (A : Option Addr) (c n : Nat) (ys : List α) (hx : a.eval x = .slice A n c) (hn : n = ys.length) (hr : d.Row e B w A ys)
    (hlen : xs.length + ys.length ≤ 4194304) (hb : bytes ≤ 1024) (hbase : base ≤ w.heap.size) (hB : B ≤ base) (he : e ∉ d.E)
    (h : ∀ v' w', d.Own e B w' base v' (xs ++ ys) → w.grownBy w' v.ownBlock → (v'.ownBlock = v.ownBlock ∨ v'.ownBlock = some w.heap.size) → wpList P ops Q rest (a.put o.dst v') w') : wpList P ops Q (o :: rest) a w := by
  subst hn
  refine wpList_plain hgd fun _ hK => ?_
  obtain ⟨v', w', hrun, h2, h3, h4⟩ := run_append_row (P := P) w d B base t o.type e i z bytes ht hi hz hsize hby hzs hsz v xs hown A c ys hr hlen hb hbase hB he
  unfold Oper.wp execOp
  simp only [ho, resolve, invoke, builtin, Sem.run_bind, Sem.run_pure, Result.andThen_ok, List.map_toArray, List.map_cons, List.map_nil, hs, hx, hrun]
  exact hK _ _ (h v' w' h2 h3 h4)
end

/-! ### what comes in -/
section
variable {P : Program}
theorem bulk_pos {H : Type} (d : DataW H) : 1 ≤ Rows.uptoBulk d := by
  cases d with
  | lit l => cases l <;> simp [Rows.uptoBulk]
  | nil => simp [Rows.uptoBulk]
  | ptr d => simp [Rows.uptoBulk]
  | slice elems spare => simp [Rows.uptoBulk]
  | agg parts => simp [Rows.uptoBulk]
  | iface t d => simp [Rows.uptoBulk]
  | map entries => simp [Rows.uptoBulk]
  | held h => simp [Rows.uptoBulk]
theorem bulk_mem {H : Type} {d : DataW H} {l : List (DataW H)} (h : d ∈ l) : Rows.uptoBulk d ≤ Rows.uptoBulkAll l := by
  induction l with
  | nil => cases h
  | cons x r ih =>
    simp only [Rows.uptoBulkAll]
    cases List.mem_cons.1 h with
    | inl e => subst e; omega
    | inr e => have := ih e; omega

/-- What is read at a type is of a kind, and no greater. -/
def Opens (P : Program) {α : Type} (d : Kd α) (t : TypeId) : Prop :=
  ∀ (H : Type) (enc : TypeId × Value → H) (w : World) (fuel : Nat) (cs : List Value) (x : DataW H × List MemPlace), DataW.trod enc P w 0 (fun _ => true) true fuel t cs = some x →
    Rows.uptoBulk x.1 ≤ 1048576 → ∃ a : α, d.K w.heap.size w a cs ∧ d.bulk a ≤ Rows.uptoBulk x.1

theorem opens_int {t : TypeId} (h : P.underlying t = some (.int .i64)) : Opens P Kd.int t := by
  intro H enc w fuel cs x hx hb
  obtain ⟨n, rfl, rfl, hw⟩ := DataW.trod_int h hx
  exact ⟨n, ⟨rfl, by simpa [IntOk, Lit.wf, IntKind.min, IntKind.max, IntKind.signed, IntKind.bits] using hw⟩, bulk_pos _⟩
theorem opens_u8 {t : TypeId} (h : P.underlying t = some (.int .u8)) : Opens P Kd.u8 t := by
  intro H enc w fuel cs x hx hb
  obtain ⟨n, rfl, rfl, hw⟩ := DataW.trod_int h hx
  have h2 : 0 ≤ n ∧ n ≤ 255 := by simpa [Lit.wf, IntKind.min, IntKind.max, IntKind.signed, IntKind.bits] using hw
  refine ⟨UInt8.ofNat n.toNat, ?_, bulk_pos _⟩
  show [Value.int .u8 n] = _
  rw [UInt8.toNat_ofNat_of_lt' (by show _ < 256; omega)]
  congr 2
  omega
theorem opens_bool {t : TypeId} (h : P.underlying t = some .bool) : Opens P Kd.bool t := by
  intro H enc w fuel cs x hx hb
  obtain ⟨b, rfl, rfl⟩ := DataW.trod_bool h hx
  exact ⟨b, rfl, bulk_pos _⟩
theorem opens_str {t : TypeId} (h : P.underlying t = some .string) : Opens P Kd.str t := by
  intro H enc w fuel cs x hx hb
  obtain ⟨s, rfl, rfl, hs⟩ := DataW.trod_string h hx
  have e : Rows.uptoBulk (DataW.lit (H := H) (.string s.data.toList)) = s.size + 1 := by simp [Rows.uptoBulk]
  rw [e] at hb ⊢
  exact ⟨s, ⟨rfl, by omega⟩, Nat.le_refl _⟩
theorem sum_le {α H : Type} {b : α → Nat} {D : Nat → DataW H} {f : Nat → α} : ∀ (l : List Nat), (∀ i ∈ l, b (f i) ≤ Rows.uptoBulk (D i)) → ((l.map f).map b).sum ≤ Rows.uptoBulkAll (l.map D)
  | [], _ => by simp [Rows.uptoBulkAll]
  | i :: l, h => by
    have h1 := h i (by simp)
    have h2 := sum_le (b := b) (D := D) (f := f) l (fun j hj => h j (by simp [hj]))
    simp only [List.map_cons, List.sum_cons, Rows.uptoBulkAll]
    omega
theorem opens_slice {α : Type} {d : Kd α} {t e : TypeId} (h : P.underlying t = some (.slice e)) (hsz : P.cellsOf e = d.sz) (hpos : 0 < d.sz) (hd : Opens P d e) : Opens P (Kd.slice e d) t := by
  intro H enc w fuel cs x hx hb
  rcases Go.Deep.open_slice h hx with ⟨rfl, rfl⟩ | ⟨a, len, cap, m, n, D, Pl, rfl, h0, hl, hc, hm, rfl, hi⟩
  · exact ⟨[], ⟨none, 0, rfl, by simp, by simp [maxLen], Kd.row_nil _ _ _ _ _⟩, bulk_pos _⟩
  · simp only [if_true] at hm
    subst hm
    simp only [Rows.uptoBulk] at hb
    have hD : ∀ i, i < len → Rows.uptoBulk (D i) ≤ 1048576 := fun i hil => by
      have := bulk_mem (d := D i) (l := (List.range len).map D) (List.mem_map.2 ⟨i, List.mem_range.2 hil, rfl⟩)
      omega
    have hex : ∀ i, i < len → ∃ y : α, (∃ cs', w.cells? 0 (a.add (i * d.sz)) d.sz = some cs' ∧ d.K w.heap.size w y cs') ∧ d.bulk y ≤ Rows.uptoBulk (D i) := fun i hil => by
      obtain ⟨cs', h1, h2⟩ := hi i (by omega)
      rw [hsz] at h1
      obtain ⟨y, h3, h4⟩ := hd H enc w n cs' _ h2 (hD i hil)
      exact ⟨y, ⟨cs', h1, h3⟩, h4⟩
    rcases Nat.eq_zero_or_pos len with h0 | h0
    · subst h0
      exact ⟨[], ⟨some a, m, rfl, by simp, hc, Kd.row_nil _ _ _ _ _⟩, bulk_pos _⟩
    · obtain ⟨y0, _, _⟩ := hex 0 h0
      let f : Nat → α := fun i => if hil : i < len then (hex i hil).choose else y0
      have hf : ∀ i, i < len → (∃ cs', w.cells? 0 (a.add (i * d.sz)) d.sz = some cs' ∧ d.K w.heap.size w (f i) cs') ∧ d.bulk (f i) ≤ Rows.uptoBulk (D i) := fun i hil => by
        show (∃ cs', _ ∧ d.K _ w (if hil : i < len then (hex i hil).choose else y0) cs') ∧ d.bulk (if hil : i < len then (hex i hil).choose else y0) ≤ _
        rw [dif_pos hil]
        exact (hex i hil).choose_spec
      refine ⟨(List.range len).map f, ⟨some a, m, by simp, by simpa using hl, hc, fun _ => ⟨a, rfl, ?_, fun i x hx => ?_⟩⟩, ?_⟩
      · obtain ⟨⟨cs', h1, h2⟩, _⟩ := hf 0 h0
        obtain ⟨_, h3, h4⟩ := World.cells?_some h1
        have h5 := h4 0 hpos
        have h6 : a.block < w.heap.size := by
          have h7 : cs'[0]? = some (cs'[0]'(by omega)) := List.getElem?_eq_getElem (by omega)
          rw [h7, add_of_add] at h5
          have := World.block_lt_of_cell? w _ h5
          rwa [block_of_add] at this
        exact ⟨h6, .inl h6⟩
      · have hil : i < len := by
          have := (List.getElem?_eq_some_iff.1 hx).1
          simpa using this
        obtain ⟨⟨cs', h1, h2⟩, _⟩ := hf i hil
        have e2 : f i = x := by simpa [hil] using hx
        subst e2
        obtain ⟨_, h3, h4⟩ := World.cells?_some h1
        refine ⟨cs', h2, fun j u hu => ?_⟩
        have hj : j < d.sz := by have := (List.getElem?_eq_some_iff.1 hu).1; omega
        rw [← add_of_add, h4 j hj, hu]
      · show (((List.range len).map f).map d.bulk).sum + 1 ≤ _
        have := sum_le (b := d.bulk) (D := D) (f := f) (List.range len) (fun i hi => (hf i (List.mem_range.1 hi)).2)
        simp only [Rows.uptoBulk]
        omega

/-- A struct's fields, from an offset on. -/
def OpensF (P : Program) {α : Type} (d : Kd α) (fs : List Field) (off : Nat) : Prop :=
  ∀ (H : Type) (enc : TypeId × Value → H) (w : World) (fuel : Nat) (cs : List Value) (ys : List (DataW H × List MemPlace)), ys.length = fs.length →
    (∀ (i : Nat) (f : Field), fs[i]? = some f → DataW.trod enc P w 0 (fun _ => true) true fuel f.type ((cs.drop f.offset).take (P.cellsOf f.type)) = ys[i]?) →
    Rows.uptoBulkAll (ys.map (·.1)) ≤ 1048576 → ∃ a : α, d.K w.heap.size w a ((cs.drop off).take d.sz) ∧ d.bulk a ≤ Rows.uptoBulkAll (ys.map (·.1))
theorem opensF_one {α : Type} {d : Kd α} {f : Field} {off : Nat} (ho : f.offset = off) (hs : P.cellsOf f.type = d.sz) (hd : Opens P d f.type) : OpensF P d [f] off := by
  intro H enc w fuel cs ys hl hf hb
  match ys, hl with
  | [y], _ =>
    have h1 := hf 0 f rfl
    rw [ho, hs] at h1
    simp only [List.map_cons, List.map_nil, Rows.uptoBulkAll] at hb ⊢
    obtain ⟨a, h2, h3⟩ := hd H enc w fuel _ y h1 (by omega)
    exact ⟨a, h2, by omega⟩
theorem opensF_cons {α β : Type} {d : Kd α} {d' : Kd β} {f : Field} {fs : List Field} {off : Nat} (ho : f.offset = off) (hs : P.cellsOf f.type = d.sz) (hd : Opens P d f.type) (hr : OpensF P d' fs (off + d.sz)) : OpensF P (d.pair d') (f :: fs) off := by
  intro H enc w fuel cs ys hl hf hb
  match ys, hl with
  | y :: ys, hl =>
    have h1 := hf 0 f rfl
    rw [ho, hs] at h1
    simp only [List.map_cons, Rows.uptoBulkAll] at hb ⊢
    obtain ⟨a, h2, h3⟩ := hd H enc w fuel _ y h1 (by omega)
    obtain ⟨b, h4, h5⟩ := hr H enc w fuel cs ys (by simpa using hl) (fun i g hg => by simpa using hf (i + 1) g (by simpa using hg)) (by omega)
    refine ⟨(a, b), ⟨_, _, ?_, h2, h4⟩, by show d.bulk a + d'.bulk b ≤ _; omega⟩
    show (cs.drop off).take (d.sz + d'.sz) = _
    rw [List.take_add, List.drop_drop]
theorem opens_struct {α β : Type} {d : Kd α} {g : β → α} {g' : α → β} (hg : ∀ a, g (g' a) = a) {t : TypeId} {fs : Array Field} (ht : P.underlying t = some (.struct fs)) (hC : P.cellsOf t = d.sz) (h : OpensF P d fs.toList 0) : Opens P (d.iso g) t := by
  intro H enc w fuel cs x hx hb
  obtain ⟨ys, n, rfl, rfl, hl, hyl, hf⟩ := DataW.trod_struct ht hx
  simp only [Rows.uptoBulk] at hb ⊢
  obtain ⟨a, h1, h2⟩ := h H enc w n cs ys (by simpa using hyl) (fun i f hi => hf i f (by simpa using hi)) (by omega)
  refine ⟨g' a, ?_, ?_⟩
  · show d.K _ w (g (g' a)) cs
    rw [hg]
    have e : (cs.drop 0).take d.sz = cs := by rw [List.drop_zero, List.take_of_length_le (by omega)]
    rwa [e] at h1
  · show d.bulk (g (g' a)) + 1 ≤ _
    rw [hg]
    omega
end
theorem arg_of {P : Program} {α : Type} {d : Kd α} {t : TypeId} (hO : Opens P d t) {H : Type} {enc : TypeId × Value → H} {W : World} {v : Value} {dd : DataW H} {p : List MemPlace}
    (h : DataW.Trod enc P W 0 (fun _ => true) true t v dd p) (hb : Rows.uptoBulk dd ≤ 1048576) : ∃ a : α, d.K W.heap.size W a v.cells.toList ∧ d.bulk a ≤ Rows.uptoBulk dd := by
  obtain ⟨fuel, hf⟩ := h
  exact hO H enc W fuel _ _ hf hb
theorem slice_of {α : Type} {d : Kd α} {e B : Nat} {W : World} {xs : List α} {A : Option Addr} {len cap : Nat} (h : (Kd.slice e d).K B W xs (Value.slice A len cap).cells.toList) : len = xs.length ∧ xs.length ≤ cap ∧ cap ≤ maxLen ∧ d.Row e B W A xs := by
  obtain ⟨A', c, e1, h1, h2, h3⟩ := h
  have e2 : Value.slice A len cap = .slice A' xs.length c := by simpa [Value.cells] using e1
  injection e2 with e3 e4 e5
  subst e3 e4 e5
  exact ⟨rfl, h1, h2, h3⟩
theorem sum_bulk {α : Type} (b : α → Nat) (hb : ∀ x, 1 ≤ b x) : ∀ xs : List α, xs.length ≤ (xs.map b).sum
  | [] => by simp
  | x :: xs => by
    have h1 := hb x
    have h2 := sum_bulk b hb xs
    simp only [List.length_cons, List.map_cons, List.sum_cons]
    omega
/-- No longer than its bulk. -/
theorem list_bulk {α : Type} {d : Kd α} {e : Nat} {xs : List α} {n : Nat} (h : (Kd.slice e d).bulk xs ≤ n) (hb : ∀ x, 1 ≤ d.bulk x) : xs.length ≤ n ∧ (xs.map d.bulk).sum ≤ n := by
  have h1 := sum_bulk d.bulk hb xs
  have h2 : (xs.map d.bulk).sum + 1 ≤ n := h
  omega
end Go.Proofs.YtcbfpdenjdgnlaaGreat
