/- slices.Compact, in plain Lean: what is left where of equal neighbours one is kept. No claim of its own; no condition. -/
import Derived.Test.YtglneailkgminaaSmall
namespace Go.Proofs.Ytglneailkgminaa
set_option linter.unusedVariables false
section
variable {α : Type} [DecidableEq α]
/-- What is left behind p. -/
def compFrom : α → List α → List α
  | _, [] => []
  | p, y :: t => if y = p then compFrom p t else y :: compFrom y t
def compF : List α → List α
  | [] => []
  | x :: t => x :: compFrom x t
theorem compFrom_snoc (x : α) : ∀ (t : List α) (p : α), compFrom p (t ++ [x]) = if x = (p :: t).getLast (by simp) then compFrom p t else compFrom p t ++ [x]
  | [], p => by
    by_cases hx : x = p
    · rw [if_pos (by simpa using hx)]; simp [compFrom, hx]
    · rw [if_neg (by simpa using hx)]; simp [compFrom, hx]
  | y :: t, p => by
    have ih := fun q => compFrom_snoc x t q
    have hl : (p :: y :: t).getLast (by simp) = (y :: t).getLast (by simp) := List.getLast_cons_cons ..
    by_cases hx : x = (y :: t).getLast (by simp)
    · rw [if_pos (by rw [hl]; exact hx)]
      rw [List.cons_append]
      simp only [compFrom]
      by_cases h : y = p
      · subst h
        rw [if_pos rfl, if_pos rfl, ih, if_pos hx]
      · rw [if_neg h, if_neg h, ih, if_pos hx]
    · rw [if_neg (by rw [hl]; exact hx)]
      rw [List.cons_append]
      simp only [compFrom]
      by_cases h : y = p
      · subst h
        rw [if_pos rfl, if_pos rfl, ih, if_neg hx]
      · rw [if_neg h, if_neg h, ih, if_neg hx, List.cons_append]
theorem comp_snoc (x p : α) (l : List α) (h : l.getLast? = some p) : compF (l ++ [x]) = if x = p then compF l else compF l ++ [x] := by
  cases l with
  | nil => simp at h
  | cons a t =>
    rw [List.getLast?_eq_some_getLast (by simp)] at h
    injection h with h
    subst h
    rw [List.cons_append]
    simp only [compF]
    rw [compFrom_snoc]
    split <;> simp
theorem comp_step {l : List α} {n : Nat} {x p : α} (h0 : l[n]? = some p) (h1 : l[n + 1]? = some x) : compF (l.take (n + 2)) = if x = p then compF (l.take (n + 1)) else compF (l.take (n + 1)) ++ [x] := by
  rw [List.take_add_one, h1]
  refine comp_snoc x p _ ?_
  have hlt : n < l.length := (List.getElem?_eq_some_iff.1 h0).1
  rw [List.getLast?_eq_getElem?, List.length_take, List.getElem?_take, Nat.min_eq_left (by omega), if_pos (by omega)]
  exact h0
theorem compFrom_mem {z : α} : ∀ {t : List α} {p : α}, z ∈ compFrom p t → z ∈ t
  | [], p, h => by simp [compFrom] at h
  | y :: t, p, h => by
    simp only [compFrom] at h
    split at h
    · exact List.mem_cons_of_mem _ (compFrom_mem h)
    · rcases List.mem_cons.1 h with rfl | h
      · exact List.mem_cons_self
      · exact List.mem_cons_of_mem _ (compFrom_mem h)
theorem mem_compFrom {z : α} : ∀ {t : List α} {p : α}, z ∈ t → z = p ∨ z ∈ compFrom p t
  | [], p, h => by cases h
  | y :: t, p, h => by
    simp only [compFrom]
    by_cases e : y = p
    · rw [if_pos e]
      rcases List.mem_cons.1 h with rfl | h
      · exact .inl e
      · exact mem_compFrom h
    · rw [if_neg e]
      rcases List.mem_cons.1 h with rfl | h
      · exact .inr List.mem_cons_self
      · rcases mem_compFrom (p := y) h with rfl | h
        · exact .inr List.mem_cons_self
        · exact .inr (List.mem_cons_of_mem _ h)
theorem mem_comp {z : α} {l : List α} : z ∈ compF l ↔ z ∈ l := by
  cases l with
  | nil => rfl
  | cons x t =>
    simp only [compF, List.mem_cons]
    constructor
    · rintro (h | h)
      · exact .inl h
      · exact .inr (compFrom_mem h)
    · rintro (h | h)
      · exact .inl h
      · exact mem_compFrom h
theorem comp_len (l : List α) : (compF l).length ≤ l.length := by
  have key : ∀ (t : List α) (p : α), (compFrom p t).length ≤ t.length := by
    intro t
    induction t with
    | nil => intro p; simp [compFrom]
    | cons y t ih =>
      intro p
      simp only [compFrom]
      split
      · have := ih p; simp; omega
      · have := ih y; simp; omega
  cases l with
  | nil => simp [compF]
  | cons x t => simp [compF]; exact key t x
/-- Of a sorted list what is left rises strictly. -/
theorem comp_rises {lt : α → α → Bool} (htri : ∀ a b, lt a b = false → lt b a = false → a = b) : ∀ (l : List α), l.Pairwise (fun a b => lt b a = false) → (htr : ∀ a b c, lt a b = true → lt b c = true → lt a c = true) → (compF l).Pairwise (fun a b => lt a b = true) := by
  intro l hl htr
  have key : ∀ (t : List α) (p : α), (p :: t).Pairwise (fun a b => lt b a = false) → (p :: compFrom p t).Pairwise (fun a b => lt a b = true) := by
    intro t
    induction t with
    | nil => intro p _; simp [compFrom]
    | cons y t ih =>
      intro p hp
      simp only [compFrom]
      have hpy : lt y p = false := (List.pairwise_cons.1 hp).1 y (by simp)
      have hyt := (List.pairwise_cons.1 hp).2
      by_cases e : y = p
      · rw [if_pos e]
        subst e
        exact ih y hyt
      · rw [if_neg e]
        have hy := ih y hyt
        have hlt : lt p y = true := by
          cases h : lt p y with
          | true => rfl
          | false => exact absurd (htri p y h hpy).symm e
        refine List.pairwise_cons.2 ⟨fun z hz => ?_, hy⟩
        rcases List.mem_cons.1 hz with rfl | hz
        · exact hlt
        · exact htr p y z hlt ((List.pairwise_cons.1 hy).1 z hz)
  cases l with
  | nil => simp [compF]
  | cons x t => exact key t x hl
end
end Go.Proofs.Ytglneailkgminaa
