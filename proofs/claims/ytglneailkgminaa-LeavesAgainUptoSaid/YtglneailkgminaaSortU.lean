/- slices.SortFunc at this program's structs, for rows of the call's own. No claim of its own; no condition. -/
import Derived.Test.YtglneailkgminaaSortL
import Derived.Test.YtglneailkgminaaSortQ
import Derived.Test.YtglneailkgminaaLibU
import Derived.Test.YtglneailkgminaaCmpU
namespace Go.Proofs.Ytglneailkgminaa
open Go.ChangeShapes Go.WideShapes Go.ChangeAt Go.RowKit Go.Sort Go.Shelf
set_option linter.unusedVariables false
set_option linter.unusedSimpArgs false
instance : Inhabited Use := ⟨0, 0, ⟨#[]⟩⟩
theorem sortIns0Use (p : Option Addr) (cap : Nat) (fv : Value) (w : World) : Calls Try.prog 124 #[.slice p 0 cap, .int .i64 0, .int .i64 0, fv] w fun e w' => e = .returned (.tuple #[]) ∧ w' = w := by
  go_enter Try.func124, Try.ntmps124
  go_wp2
  refine wp_loop_rounds 1 ?_
  rw [rounds_succ]
  go_wp2
  go_end0
  exact ⟨rfl, rfl⟩
theorem sortPdq0Use (p : Option Addr) (cap : Nat) (lim : Int) (fv : Value) (w : World) : Calls Try.prog 92 #[.slice p 0 cap, .int .i64 0, .int .i64 0, .int .i64 lim, fv] w fun e w' => e = .returned (.tuple #[]) ∧ w' = w := by
  go_enter Try.func92, Try.ntmps92
  go_wp2
  refine wp_loop_rounds 1 ?_
  rw [rounds_succ]
  go_wp2_with (go_at_call 124; refine (sortIns0Use p cap fv _).mono ?_; rintro e w' ⟨rfl, rfl⟩)
  (try simp only [Exit.inBlock, Exit.then]); refine bodyPost_ret (results_none rfl _ _ _) rfl ?_
  exact ⟨rfl, rfl⟩
theorem sort0Use (p : Option Addr) (cap : Nat) (fv : Value) (w : World) : Calls Try.prog 63 #[.slice p 0 cap, fv] w fun e w' => e = .returned (.tuple #[]) ∧ w' = w := by
  have hl : ∀ W, Calls Try.prog 75 #[.int .u64 0] W fun e w' => e = .returned (.int .i64 (Lib.bitLen 0 : Nat)) ∧ w' = W := fun W => Any.bits_Len (SlLaysF0.n15.bits (P := Try.prog) (ρ := Try.sortUse_ren) { Try.sortUse with }) 0 W (by omega) (by omega)
  go_enter Try.func63, Try.ntmps63
  go_wp2_with (first | (go_at_call 75; refine (hl _).mono ?_; rintro e w' ⟨rfl, rfl⟩) | (go_at_call 92; refine (sortPdq0Use p cap _ fv _).mono ?_; rintro e w' ⟨rfl, rfl⟩))
  go_end0
  exact ⟨rfl, rfl⟩
theorem enc_lenUse (x : Use) : (encUse x).length = 3 := rfl
theorem enc_oneUse (x : Use) : ∀ v ∈ encUse x, v.oneCell' = true := by
  intro v hv
  simp only [encUse, List.mem_cons, List.not_mem_nil, or_false] at hv
  rcases hv with rfl | rfl | rfl <;> rfl
theorem sortUse (l : List Use) (v : Value) (w : World) (B base : Nat) (hl : l.length ≤ 2097152) (own : kUse.Own 71 B w base v l) :
    Calls Try.prog 63 #[v, .func (.func 64) #[] #[]] w fun e w' => e = .returned (.tuple #[]) ∧ (∃ l' : List Use, l'.Perm l ∧ l'.Pairwise (fun a b => ltOf ordU b a = false) ∧ kUse.Own 71 B w' base v l') ∧ w.grownBy w' v.ownBlock := by
  by_cases hne : l = []
  · subst hne
    obtain ⟨A, c, rfl, _, _, _, _⟩ := Kd.own_row own
    exact (sort0Use A c _ w).mono fun e w' ⟨he, hw⟩ => ⟨he, ⟨[], List.Perm.refl _, List.Pairwise.nil, by rw [hw]; exact own⟩, by rw [hw]; exact World.grownBy.refl w _⟩
  · obtain ⟨G, c, cs, Z, rfl, hG, hblk, hrp, hlc, hcm, hsz⟩ := Kd.own_form own hne
    have hcs := reps_encUse hrp
    have hallK := reps_allUse hrp
    subst hcs
    have eg : ∀ args w, (callFunc 64 args).run Try.prog w = .ok (.enter 64 args) w := enters_of Try.func64 (by kernel_rfl) rfl
    have hcmp : CmpLays Try.prog 64 #[] encUse 3 ordU G 0 l.toArray.size w := fun _ _ _ _ x y => orderU_calls x y _
    have hcon := AnyQ.slices_SortFunc Try.sortUse 3 Try.isAgg71 Try.sizeOf71 encUse enc_lenUse enc_oneUse ordU ordU_swo 64 #[] G 0 c l.toArray w eg hcmp (holds_of_block enc_lenUse (by decide) hblk) (blk_lt hblk) (by rw [List.size_toArray]; omega)
    change Calls Try.prog 63 _ _ _ at hcon
    rw [List.size_toArray] at hcon
    refine hcon.mono ?_
    rintro e w' ⟨he, d', n, os, hp, hs, rfl⟩
    have hd : d'.size = l.length := by rw [hp.1, List.size_toArray]
    have hpm : d'.toList.Perm l := perm_of_permIn (by rw [List.size_toArray]; exact hp)
    refine ⟨he, ⟨d'.toList, hpm, pairs_of_sorted (by rw [hd]; exact hs), ?_⟩, grown_of_sort⟩
    have hb := block_of_sort (enc := encUse) (n := n) (os := os) enc_lenUse (by decide) hblk hd
    refine Kd.own_of_form hb (reps_mkUse fun x hx => flat_kUse _ _ _ _ _ _ (hallK x (hpm.mem_iff.1 hx))) hG (by rw [show d'.toList.length = l.length by simp [hd]]) hlc hcm ?_
    rw [← hsz, List.length_append, List.length_append, encs_lenUse, encs_lenUse, Array.length_toList, hd]
end Go.Proofs.Ytglneailkgminaa
