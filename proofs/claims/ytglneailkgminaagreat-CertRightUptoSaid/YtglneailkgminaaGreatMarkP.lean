/- slices.Compact, in plain Lean: what is left where of equal neighbours one is kept. No claim of its own; no condition. -/
import Derived.Test.YtglneailkgminaaGreatWordsB
import Derived.Test.YtglneailkgminaaGreatTypes
import Derived.Sort.Statements
import Derived.Shelf.SlSortCmp.WholeK
namespace Go.Proofs.YtglneailkgminaaGreat
set_option linter.unusedVariables false
section
variable {α : Type} [DecidableEq α]
/-- What is left behind p. -/
def compFrom : α → List α → List α
  | _, [] => []
  | p, y :: t => if y = p then compFrom p t else y :: compFrom y t
def compF : List α → List α
  | [] => []
  | x :: t => x :: compFrom x t
theorem compFrom_snoc (x : α) : ∀ (t : List α) (p : α), compFrom p (t ++ [x]) = if x = (p :: t).getLast (by simp) then compFrom p t else compFrom p t ++ [x]
  | [], p => by
    by_cases hx : x = p
    · rw [if_pos (by simpa using hx)]; simp [compFrom, hx]
    · rw [if_neg (by simpa using hx)]; simp [compFrom, hx]
  | y :: t, p => by
    have ih := fun q => compFrom_snoc x t q
    have hl : (p :: y :: t).getLast (by simp) = (y :: t).getLast (by simp) := List.getLast_cons_cons ..
    by_cases hx : x = (y :: t).getLast (by simp)
    · rw [if_pos (by rw [hl]; exact hx)]
      rw [List.cons_append]
      simp only [compFrom]
      by_cases h : y = p
      · subst h
        rw [if_pos rfl, if_pos rfl, ih, if_pos hx]
      · rw [if_neg h, if_neg h, ih, if_pos hx]
    · rw [if_neg (by rw [hl]; exact hx)]
      rw [List.cons_append]
      simp only [compFrom]
      by_cases h : y = p
      · subst h
        rw [if_pos rfl, if_pos rfl, ih, if_neg hx]
      · rw [if_neg h, if_neg h, ih, if_neg hx, List.cons_append]
theorem comp_snoc (x p : α) (l : List α) (h : l.getLast? = some p) : compF (l ++ [x]) = if x = p then compF l else compF l ++ [x] := by
  cases l with
  | nil => simp at h
  | cons a t =>
    rw [List.getLast?_eq_some_getLast (by simp)] at h
    injection h with h
    subst h
    rw [List.cons_append]
    simp only [compF]
    rw [compFrom_snoc]
    split <;> simp
theorem comp_step {l : List α} {n : Nat} {x p : α} (h0 : l[n]? = some p) (h1 : l[n + 1]? = some x) : compF (l.take (n + 2)) = if x = p then compF (l.take (n + 1)) else compF (l.take (n + 1)) ++ [x] := by
  rw [List.take_add_one, h1]
  refine comp_snoc x p _ ?_
  have hlt : n < l.length := (List.getElem?_eq_some_iff.1 h0).1
  rw [List.getLast?_eq_getElem?, List.length_take, List.getElem?_take, Nat.min_eq_left (by omega), if_pos (by omega)]
  exact h0
theorem compFrom_mem {z : α} : ∀ {t : List α} {p : α}, z ∈ compFrom p t → z ∈ t
  | [], p, h => by simp [compFrom] at h
  | y :: t, p, h => by
    simp only [compFrom] at h
    split at h
    · exact List.mem_cons_of_mem _ (compFrom_mem h)
    · rcases List.mem_cons.1 h with rfl | h
      · exact List.mem_cons_self
      · exact List.mem_cons_of_mem _ (compFrom_mem h)
theorem mem_compFrom {z : α} : ∀ {t : List α} {p : α}, z ∈ t → z = p ∨ z ∈ compFrom p t
  | [], p, h => by cases h
  | y :: t, p, h => by
    simp only [compFrom]
    by_cases e : y = p
    · rw [if_pos e]
      rcases List.mem_cons.1 h with rfl | h
      · exact .inl e
      · exact mem_compFrom h
    · rw [if_neg e]
      rcases List.mem_cons.1 h with rfl | h
      · exact .inr List.mem_cons_self
      · rcases mem_compFrom (p := y) h with rfl | h
        · exact .inr List.mem_cons_self
        · exact .inr (List.mem_cons_of_mem _ h)
theorem mem_comp {z : α} {l : List α} : z ∈ compF l ↔ z ∈ l := by
  cases l with
  | nil => rfl
  | cons x t =>
    simp only [compF, List.mem_cons]
    constructor
    · rintro (h | h)
      · exact .inl h
      · exact .inr (compFrom_mem h)
    · rintro (h | h)
      · exact .inl h
      · exact mem_compFrom h
theorem comp_len (l : List α) : (compF l).length ≤ l.length := by
  have key : ∀ (t : List α) (p : α), (compFrom p t).length ≤ t.length := by
    intro t
    induction t with
    | nil => intro p; simp [compFrom]
    | cons y t ih =>
      intro p
      simp only [compFrom]
      split
      · have := ih p; simp; omega
      · have := ih y; simp; omega
  cases l with
  | nil => simp [compF]
  | cons x t => simp [compF]; exact key t x
/-- Of a sorted list what is left rises strictly. -/
theorem comp_rises {lt : α → α → Bool} (htri : ∀ a b, lt a b = false → lt b a = false → a = b) : ∀ (l : List α), l.Pairwise (fun a b => lt b a = false) → (htr : ∀ a b c, lt a b = true → lt b c = true → lt a c = true) → (compF l).Pairwise (fun a b => lt a b = true) := by
  intro l hl htr
  have key : ∀ (t : List α) (p : α), (p :: t).Pairwise (fun a b => lt b a = false) → (p :: compFrom p t).Pairwise (fun a b => lt a b = true) := by
    intro t
    induction t with
    | nil => intro p _; simp [compFrom]
    | cons y t ih =>
      intro p hp
      simp only [compFrom]
      have hpy : lt y p = false := (List.pairwise_cons.1 hp).1 y (by simp)
      have hyt := (List.pairwise_cons.1 hp).2
      by_cases e : y = p
      · rw [if_pos e]
        subst e
        exact ih y hyt
      · rw [if_neg e]
        have hy := ih y hyt
        have hlt : lt p y = true := by
          cases h : lt p y with
          | true => rfl
          | false => exact absurd (htri p y h hpy).symm e
        refine List.pairwise_cons.2 ⟨fun z hz => ?_, hy⟩
        rcases List.mem_cons.1 hz with rfl | hz
        · exact hlt
        · exact htr p y z hlt ((List.pairwise_cons.1 hy).1 z hz)
  cases l with
  | nil => simp [compF]
  | cons x t => exact key t x hl
end
end Go.Proofs.YtglneailkgminaaGreat
/- Package rule: the order of marks, in plain Lean. No claim of its own; no condition. -/
namespace Go.Proofs.YtglneailkgminaaGreat
open Go.Sort
set_option linter.unusedVariables false
/-- '<' of strings is the lexical order. -/
theorem less_lt : ∀ (x y : List UInt8), Op.bytesLess x y = true ↔ x < y
  | [], [] => by simp [Op.bytesLess]
  | _ :: _, [] => by simp [Op.bytesLess]
  | [], _ :: _ => by simp [Op.bytesLess]
  | a :: x, b :: y => by
    have ih := less_lt x y
    simp only [Op.bytesLess, List.cons_lt_cons_iff, Bool.or_eq_true, Bool.and_eq_true, decide_eq_true_eq, beq_iff_eq]
    rw [ih]
def strLt (a b : ByteArray) : Bool := Op.bytesLess a.toList b.toList
theorem strLt_irr (a : ByteArray) : strLt a a = false := by
  cases h : strLt a a with
  | false => rfl
  | true => exact absurd ((less_lt _ _).1 h) (List.lt_irrefl _)
theorem strLt_tr {a b c : ByteArray} (h : strLt a b = true) (k : strLt b c = true) : strLt a c = true := (less_lt _ _).2 (List.lt_trans ((less_lt _ _).1 h) ((less_lt _ _).1 k))
theorem strLt_tri {a b : ByteArray} (h : strLt a b = false) (k : strLt b a = false) : a = b := by
  have h1 : ¬ a.toList < b.toList := fun x => by rw [strLt, (less_lt _ _).2 x] at h; cases h
  have h2 : ¬ b.toList < a.toList := fun x => by rw [strLt, (less_lt _ _).2 x] at k; cases k
  have e : a.toList = b.toList := List.le_antisymm (List.not_lt.1 h2) (List.not_lt.1 h1)
  rw [ByteArray.toList_eq, ByteArray.toList_eq] at e
  cases a
  cases b
  simp only at e
  congr
  exact Array.toList_inj.1 e
/-- cmp.Compare at strings. -/
def cmpStr (a b : ByteArray) : Int := if strLt a b then -1 else if strLt b a then 1 else 0
/-- The law's 'below'. -/
def belowF (a b : Mark) : Bool := decide (a.view < b.view) || (decide (a.view = b.view) && (decide (a.height < b.height) || (decide (a.height = b.height) && strLt a.block b.block)))
/-- cmp.Or of the three. -/
def ordF (a b : Mark) : Int := if Lib.compareInt a.view b.view ≠ 0 then Lib.compareInt a.view b.view else if Lib.compareInt a.height b.height ≠ 0 then Lib.compareInt a.height b.height else cmpStr a.block b.block
theorem cmp_lt (x y : Int) : (Lib.compareInt x y < 0 ↔ x < y) ∧ (Lib.compareInt x y = 0 ↔ x = y) := by
  unfold Lib.compareInt
  repeat' split
  all_goals (constructor <;> constructor <;> intro h <;> omega)
theorem ord_below (a b : Mark) : ltOf ordF a b = belowF a b := by
  unfold ltOf ordF belowF
  obtain ⟨v1, v2⟩ := cmp_lt a.view b.view
  obtain ⟨h1, h2⟩ := cmp_lt a.height b.height
  by_cases ev : a.view = b.view
  · rw [if_neg (by simp [v2.2 ev])]
    by_cases eh : a.height = b.height
    · rw [if_neg (by simp [h2.2 eh])]
      have nv : ¬ a.view < b.view := by omega
      have nh : ¬ a.height < b.height := by omega
      simp only [ev, eh, cmpStr, decide_true, Bool.true_and, Int.lt_irrefl, decide_false, Bool.false_or]
      by_cases p1 : strLt a.block b.block = true
      · simp [p1]
      · by_cases p2 : strLt b.block a.block = true
        · simp [p1, p2]
        · simp [p1, p2]
    · rw [if_pos (by simp [h2, eh])]
      simp [ev, eh, h1]
  · rw [if_pos (by simp [v2, ev])]
    simp [ev, v1]
theorem below_iff (a b : Mark) : belowF a b = true ↔ a.view < b.view ∨ (a.view = b.view ∧ (a.height < b.height ∨ (a.height = b.height ∧ strLt a.block b.block = true))) := by
  simp [belowF]
theorem below_irr (a : Mark) : belowF a a = false := by
  simp [belowF, strLt_irr]
theorem below_tr {a b c : Mark} (h : belowF a b = true) (k : belowF b c = true) : belowF a c = true := by
  rw [below_iff] at h k ⊢
  rcases h with h | ⟨h, h' | ⟨h', h''⟩⟩ <;> rcases k with k | ⟨k, k' | ⟨k', k''⟩⟩
  · left; omega
  · left; omega
  · left; omega
  · left; omega
  · right; exact ⟨by omega, .inl (by omega)⟩
  · right; exact ⟨by omega, .inl (by omega)⟩
  · left; omega
  · right; exact ⟨by omega, .inl (by omega)⟩
  · right; exact ⟨by omega, .inr ⟨by omega, strLt_tr h'' k''⟩⟩
theorem below_tri {a b : Mark} (h : belowF a b = false) (k : belowF b a = false) : a = b := by
  have h' : ¬ _ := fun x => by rw [(below_iff a b).2 x] at h; cases h
  have k' : ¬ _ := fun x => by rw [(below_iff b a).2 x] at k; cases k
  have ev : a.view = b.view := by
    rcases Int.lt_trichotomy a.view b.view with x | x | x
    · exact absurd (.inl x) h'
    · exact x
    · exact absurd (.inl x) k'
  have eh : a.height = b.height := by
    rcases Int.lt_trichotomy a.height b.height with x | x | x
    · exact absurd (.inr ⟨ev, .inl x⟩) h'
    · exact x
    · exact absurd (.inr ⟨ev.symm, .inl x⟩) k'
  have eb : a.block = b.block := by
    refine strLt_tri ?_ ?_
    · cases x : strLt a.block b.block with
      | false => rfl
      | true => exact absurd (.inr ⟨ev, .inr ⟨eh, x⟩⟩) h'
    · cases x : strLt b.block a.block with
      | false => rfl
      | true => exact absurd (.inr ⟨ev.symm, .inr ⟨eh.symm, x⟩⟩) k'
  cases a; cases b
  simp only at ev eh eb
  subst ev eh eb
  rfl
theorem below_cotr {a b c : Mark} (h : belowF a b = false) (k : belowF b c = false) : belowF a c = false := by
  cases x : belowF a c with
  | false => rfl
  | true =>
    cases y : belowF b a with
    | true => rw [below_tr y x] at k; cases k
    | false =>
      obtain rfl := below_tri h y
      rw [x] at k; cases k
theorem ord_swo : SWO (ltOf ordF) where
  irrefl x := by rw [ord_below]; exact below_irr x
  trans x y z h k := by rw [ord_below] at *; exact below_tr h k
  ntrans x y z h k := by rw [ord_below] at *; exact below_cotr h k
end Go.Proofs.YtglneailkgminaaGreat
