/- Uses in order, each once: what they are is told by which there are. No claim of its own; no condition. -/
import Derived.Test.YtglneailkgminaaLeaG
namespace Go.Proofs.Ytglneailkgminaa
open Go.Sort
set_option linter.unusedVariables false
theorem sorted_ext {α : Type} {lt : α → α → Bool} (hirr : ∀ a, lt a a = false) (htr : ∀ a b c, lt a b = true → lt b c = true → lt a c = true) : ∀ (a b : List α), a.Pairwise (fun x y => lt x y = true) → b.Pairwise (fun x y => lt x y = true) → (∀ x, x ∈ a ↔ x ∈ b) → a = b
  | [], [], _, _, _ => rfl
  | [], y :: b, _, _, h => by have := (h y).2 (by simp); cases this
  | x :: a, [], _, _, h => by have := (h x).1 (by simp); cases this
  | x :: a, y :: b, ha, hb, h => by
    rw [List.pairwise_cons] at ha hb
    have hxy : x = y := by
      rcases List.mem_cons.1 ((h x).1 (by simp)) with e | hx
      · exact e
      · rcases List.mem_cons.1 ((h y).2 (by simp)) with e | hy
        · exact e.symm
        · have h1 := hb.1 x hx
          have h2 := ha.1 y hy
          have := htr _ _ _ h1 h2
          rw [hirr] at this
          cases this
    subst hxy
    have hne : ∀ z, (z ∈ a → lt x z = true) ∧ (z ∈ b → lt x z = true) := fun z => ⟨ha.1 z, hb.1 z⟩
    rw [sorted_ext hirr htr a b ha.2 hb.2 fun z => ⟨fun hz => by
      rcases List.mem_cons.1 ((h z).1 (List.mem_cons_of_mem _ hz)) with e | k
      · subst e; have := ha.1 z hz; rw [hirr] at this; cases this
      · exact k, fun hz => by
      rcases List.mem_cons.1 ((h z).2 (List.mem_cons_of_mem _ hz)) with e | k
      · subst e; have := hb.1 z hz; rw [hirr] at this; cases this
      · exact k⟩]
theorem ltU (a b : Use) : ltOf ordU a b = belowF a.toM b.toM := ord_below a.toM b.toM
theorem comp_same {M N : List Use} (hM : M.Pairwise fun a b => ltOf ordU b a = false) (hN : N.Pairwise fun a b => ltOf ordU b a = false) (h : ∀ x, x ∈ M ↔ x ∈ N) : compF M = compF N := by
  have htri : ∀ a b : Use, ltOf ordU a b = false → ltOf ordU b a = false → a = b := fun a b h k => Use.toM_inj (below_tri (by rw [← ltU]; exact h) (by rw [← ltU]; exact k))
  have htr : ∀ a b c : Use, ltOf ordU a b = true → ltOf ordU b c = true → ltOf ordU a c = true := fun a b c h k => ordU_swo.trans a b c h k
  refine sorted_ext (fun a => ordU_swo.irrefl a) htr _ _ (comp_rises htri M hM htr) (comp_rises htri N hN htr) fun x => ?_
  rw [mem_comp, mem_comp, h]
theorem uses_mem (roots : List ByteArray) (l : List Vote) (u : Use) : u ∈ usesIn roots l ↔ ∃ v ∈ l, useF v roots = some u := by
  unfold usesIn
  rw [List.mem_filterMap]
/-- All's answer is told by which statements there are. -/
theorem all_same {roots : List ByteArray} {l r : List Vote} (hlr : ∀ v, v ∈ l ↔ v ∈ r) {M N : List Use} (pM : M.Perm (usesIn roots l)) (sM : M.Pairwise fun a b => ltOf ordU b a = false) (pN : N.Perm (usesIn roots r)) (sN : N.Pairwise fun a b => ltOf ordU b a = false) : compF M = compF N :=
  comp_same sM sN fun x => by
    rw [pM.mem_iff, pN.mem_iff, uses_mem, uses_mem]
    exact ⟨fun ⟨v, h, k⟩ => ⟨v, (hlr v).1 h, k⟩, fun ⟨v, h, k⟩ => ⟨v, (hlr v).2 h, k⟩⟩
theorem all_len {roots : List ByteArray} {l : List Vote} {M : List Use} (p : M.Perm (usesIn roots l)) : (compF M).length ≤ l.length := by
  have h1 := comp_len M
  have h2 := p.length_eq
  have h3 := uses_le roots l l.length
  rw [List.take_length] at h3
  omega
end Go.Proofs.Ytglneailkgminaa
