/- A cert out of statements, in plain Lean: of each signer the first, by signers. No claim of its own; no condition. -/
import Derived.Test.YtglneailkgminaaGreatSortV
namespace Go.Proofs.YtglneailkgminaaGreat
open Go.Sort
set_option linter.unusedVariables false
def ownStep (m : Mark) (own : List Vote) (v : Vote) : List Vote := if isF m v && !own.any (fun x => x.signer == v.signer) then own ++ [v] else own
/-- Of each signer the first that is about m. -/
def ownF (m : Mark) (l : List Vote) : List Vote := l.foldl (ownStep m) []
theorem own_step {m : Mark} {l : List Vote} {k : Nat} {x : Vote} (h : l[k]? = some x) : ownF m (l.take (k + 1)) = ownStep m (ownF m (l.take k)) x := by
  unfold ownF
  rw [List.take_add_one, h, List.foldl_append]
  rfl
theorem own_yes {m : Mark} {o : List Vote} {x : Vote} (h : isF m x = true) (k : o.any (fun y => y.signer == x.signer) = false) : ownStep m o x = o ++ [x] := by simp [ownStep, h, k]
theorem own_no {m : Mark} {o : List Vote} {x : Vote} (h : isF m x = false ∨ o.any (fun y => y.signer == x.signer) = true) : ownStep m o x = o := by
  rcases h with h | h <;> simp [ownStep, h]
theorem own_all (m : Mark) : ∀ (l o : List Vote), (l.foldl (ownStep m) o).length ≤ o.length + l.length ∧ (∀ x ∈ l.foldl (ownStep m) o, x ∈ o ∨ x ∈ l) ∧ (o.Pairwise (fun a b => a.signer ≠ b.signer) → (l.foldl (ownStep m) o).Pairwise (fun a b => a.signer ≠ b.signer))
  | [], o => ⟨by simp, fun x h => .inl h, fun h => h⟩
  | v :: l, o => by
    obtain ⟨h1, h2, h3⟩ := own_all m l (ownStep m o v)
    have hl : (ownStep m o v).length ≤ o.length + 1 := by unfold ownStep; split <;> simp
    have hm : ∀ x ∈ ownStep m o v, x ∈ o ∨ x = v := by
      intro x hx
      unfold ownStep at hx
      split at hx
      · simpa using hx
      · exact .inl hx
    refine ⟨by rw [List.foldl_cons, List.length_cons]; omega, fun x hx => ?_, fun hp => h3 ?_⟩
    · rcases h2 x hx with h | h
      · rcases hm x h with h | h
        · exact .inl h
        · exact .inr (by simp [h])
      · exact .inr (by simp [h])
    · unfold ownStep
      split
      · rename_i hc
        simp only [Bool.and_eq_true, Bool.not_eq_true'] at hc
        refine List.pairwise_append.2 ⟨hp, by simp, fun a ha b hb => ?_⟩
        obtain rfl : b = v := by simpa using hb
        intro e
        have := List.any_eq_false.1 hc.2 a ha
        simp [e] at this
      · exact hp
theorem own_le (m : Mark) (l : List Vote) (k : Nat) : (ownF m (l.take k)).length ≤ k := by
  have := (own_all m (l.take k) []).1
  rw [List.length_nil, List.length_take] at this
  unfold ownF
  omega
theorem own_distinct (m : Mark) (l : List Vote) : (ownF m l).Pairwise (fun a b => a.signer ≠ b.signer) := (own_all m l []).2.2 List.Pairwise.nil
/-- Sorted by signers. -/
def Rises (s : List Vote) : Prop := s.Pairwise (fun a b => a.signer < b.signer)
theorem rises_of {s o : List Vote} (hp : s.Perm o) (ho : o.Pairwise (fun a b => a.signer ≠ b.signer)) (hs : s.Pairwise (fun a b => ltOf sgnCmp b a = false)) : Rises s := by
  have hd : s.Pairwise (fun a b => a.signer ≠ b.signer) := (hp.pairwise_iff (fun h => fun e => h e.symm)).2 ho
  refine List.Pairwise.imp₂ ?_ hd hs
  intro a b h1 h2
  rw [sgn_lt] at h2
  have := of_decide_eq_false h2
  omega
/-- The least is the first. -/
theorem sel_step {s0 : Vote} {s' r : List Vote} {i : Nat} {b : Vote} (hp : r.Perm (s0 :: s')) (hs : Rises (s0 :: s')) (hb : r[i]? = some b) (hmin : ∀ y ∈ r, b.signer ≤ y.signer) : b = s0 ∧ (r.take i ++ r.drop (i + 1)).Perm s' := by
  have hbm : b ∈ r := List.mem_of_getElem? hb
  have h0 : s0 ∈ r := hp.mem_iff.2 (by simp)
  have e : b = s0 := by
    rcases List.mem_cons.1 (hp.mem_iff.1 hbm) with h | h
    · exact h
    · have h1 := (List.pairwise_cons.1 hs).1 b h
      have h2 := hmin s0 h0
      omega
  refine ⟨e, ?_⟩
  have hr : r.Perm (b :: (r.take i ++ r.drop (i + 1))) := by
    obtain ⟨h1, h2⟩ := List.getElem?_eq_some_iff.1 hb
    conv => lhs; rw [← List.take_append_drop i r, List.drop_eq_getElem_cons h1, h2]
    exact List.perm_middle
  rw [← e] at hp
  exact (hr.symm.trans hp).cons_inv
end Go.Proofs.YtglneailkgminaaGreat
