/- Plain law: how many different signers a list has does not hang on its order, and does not fall with more. No claim of its own; no condition. -/
import Derived.Test.YtflfpfaebndefaaRuleB
namespace Go.Proofs.Ytflfpfaebndefaa
open Go.Maps
set_option linter.unusedVariables false
set_option linter.unusedSimpArgs false

theorem sub_length {α : Type} [DecidableEq α] : ∀ {l m : List α}, l.Nodup → (∀ x ∈ l, x ∈ m) → l.length ≤ m.length
  | [], _, _, _ => Nat.zero_le _
  | x :: l, m, h, hs => by
    rw [List.nodup_cons] at h
    have hx : x ∈ m := hs x (by simp)
    have h1 := sub_length (l := l) (m := m.erase x) h.2 (fun y hy => (List.mem_erase_of_ne (fun e => h.1 (by rw [← e]; exact hy))).2 (hs y (by simp [hy])))
    rw [List.length_erase_of_mem hx] at h1
    have : 0 < m.length := List.length_pos_of_mem hx
    simp only [List.length_cons]
    omega

def addI (acc : List Int) (x : Int) : List Int := if x ∈ acc then acc else acc ++ [x]
theorem addKey_map (acc : List Int) (x : Int) : addKey (acc.map (Lit.int .i64)) (.int .i64 x) = (addI acc x).map (Lit.int .i64) := by
  have e : ((acc.map (Lit.int .i64)).any fun y => y.sameKey (.int .i64 x)) = decide (x ∈ acc) := by
    induction acc with
    | nil => simp
    | cons y acc ih =>
      have e2 : (Lit.int .i64 y).sameKey (.int .i64 x) = decide (x = y) := by
        by_cases h : y = x
        · subst h; simp [Lit.sameKey]
        · have h2 : ¬ x = y := fun e => h e.symm
          simp [Lit.sameKey, h, h2]
      rw [List.map_cons, List.any_cons, ih, e2]
      simp
  unfold addKey addI
  rw [e]
  by_cases h : x ∈ acc <;> simp [h]
theorem fold_map (xs : List Int) : ∀ acc : List Int, (xs.map (Lit.int .i64)).foldl addKey (acc.map (Lit.int .i64)) = (xs.foldl addI acc).map (Lit.int .i64) := by
  induction xs with
  | nil => intro acc; rfl
  | cons x xs ih => intro acc; rw [List.map_cons, List.foldl_cons, addKey_map, ih, List.foldl_cons]
theorem fold_mem (y : Int) (xs : List Int) : ∀ acc : List Int, y ∈ xs.foldl addI acc ↔ y ∈ acc ∨ y ∈ xs := by
  induction xs with
  | nil => intro acc; simp
  | cons x xs ih =>
    intro acc
    rw [List.foldl_cons, ih]
    unfold addI
    split
    · rename_i h
      simp only [List.mem_cons]
      exact ⟨fun h1 => h1.elim .inl (fun h2 => .inr (.inr h2)), fun h1 => h1.elim .inl (fun h2 => h2.elim (fun e => .inl (by rw [e]; exact h)) .inr)⟩
    · simp only [List.mem_append, List.mem_cons, List.not_mem_nil, or_false, or_assoc]
theorem fold_nodup (xs : List Int) : ∀ acc : List Int, acc.Nodup → (xs.foldl addI acc).Nodup := by
  induction xs with
  | nil => intro acc h; exact h
  | cons x xs ih =>
    intro acc h
    rw [List.foldl_cons]
    refine ih _ ?_
    unfold addI
    split
    · exact h
    · rename_i hx
      rw [List.nodup_append]
      refine ⟨h, by simp, fun a ha b hb => ?_⟩
      rw [List.mem_singleton] at hb
      subst hb
      exact fun e => hx (by rw [← e]; exact ha)
def ints (m : Mark) (kind ticks : Int) (l : List Vote) : List Int := (l.filter (sgn m kind ticks)).map Vote.signer
theorem signersF_ints (m : Mark) (kind ticks : Int) (l : List Vote) : signersF m kind ticks l = ((ints m kind ticks l).foldl addI []).length := by
  have h := fold_map (ints m kind ticks l) []
  have e : (ints m kind ticks l).map (Lit.int .i64) = keysOf m kind ticks l := by unfold ints keysOf; rw [List.map_map]; rfl
  rw [e] at h
  unfold signersF
  rw [show ([] : List Lit) = ([] : List Int).map (Lit.int .i64) from rfl, h, List.length_map]
theorem signersF_sub (m : Mark) (kind ticks : Int) {l l' : List Vote} (h : ∀ v ∈ l, v ∈ l') : signersF m kind ticks l ≤ signersF m kind ticks l' := by
  rw [signersF_ints, signersF_ints]
  refine sub_length (fold_nodup _ _ (by simp)) (fun y hy => ?_)
  rw [fold_mem] at hy ⊢
  rcases hy with hy | hy
  · cases hy
  · right
    unfold ints at hy ⊢
    obtain ⟨v, hv, rfl⟩ := List.mem_map.1 hy
    rw [List.mem_filter] at hv
    exact List.mem_map.2 ⟨v, List.mem_filter.2 ⟨h v hv.1, hv.2⟩, rfl⟩
theorem enoughF_sub (r : Rule) (q : Int) (m : Mark) {l l' : List Vote} (h : ∀ v ∈ l, v ∈ l') : enoughF r q m l = true → enoughF r q m l' = true := by
  have h1 := signersF_sub m 2 0 h
  have h2 := signersF_sub m 3 (2 * r.n) h
  unfold enoughF
  split
  · simp only [Bool.and_eq_true, decide_eq_true_eq]
    omega
  · split
    · simp only [Bool.and_eq_true, decide_eq_true_eq]
      omega
    · exact id
theorem enoughF_swap (r : Rule) (q : Int) (m : Mark) (a b : List Vote) : enoughF r q m (a ++ b) = enoughF r q m (b ++ a) := by
  rw [Bool.eq_iff_iff]
  exact ⟨enoughF_sub r q m (fun v hv => by simp only [List.mem_append] at hv ⊢; exact hv.symm), enoughF_sub r q m (fun v hv => by simp only [List.mem_append] at hv ⊢; exact hv.symm)⟩
theorem enoughF_more (r : Rule) (q : Int) (m : Mark) (a b : List Vote) (h : enoughF r q m (a ++ b) = false) : enoughF r q m a = false := by
  cases h2 : enoughF r q m a with
  | false => rfl
  | true => rw [enoughF_sub r q m (l' := a ++ b) (fun v hv => List.mem_append_left _ hv) h2] at h; cases h
end Go.Proofs.Ytflfpfaebndefaa
