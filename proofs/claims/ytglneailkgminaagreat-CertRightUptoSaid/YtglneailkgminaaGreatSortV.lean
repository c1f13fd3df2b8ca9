/- slices.SortFunc at this program's structs, for rows of the call's own. No claim of its own; no condition. -/
import Derived.Test.YtglneailkgminaaGreatSortL
import Derived.Test.YtglneailkgminaaGreatSortQ
import Derived.Test.YtglneailkgminaaGreatLibV
import Derived.Test.YtglneailkgminaaGreatCmpV
namespace Go.Proofs.YtglneailkgminaaGreat
open Go.ChangeShapes Go.WideShapes Go.ChangeAt Go.RowKit Go.Sort Go.Shelf
set_option linter.unusedVariables false
set_option linter.unusedSimpArgs false
instance : Inhabited Vote := ⟨0, 0, 0, ⟨#[]⟩, 0, 0, ⟨#[]⟩⟩
theorem sortIns0Vote (p : Option Addr) (cap : Nat) (fv : Value) (w : World) : Calls Tryz.prog 45 #[.slice p 0 cap, .int .i64 0, .int .i64 0, fv] w fun e w' => e = .returned (.tuple #[]) ∧ w' = w := by
  go_enter Tryz.func45, Tryz.ntmps45
  go_wp2
  refine wp_loop_rounds 1 ?_
  rw [rounds_succ]
  go_wp2
  go_end0
  exact ⟨rfl, rfl⟩
theorem sortPdq0Vote (p : Option Addr) (cap : Nat) (lim : Int) (fv : Value) (w : World) : Calls Tryz.prog 28 #[.slice p 0 cap, .int .i64 0, .int .i64 0, .int .i64 lim, fv] w fun e w' => e = .returned (.tuple #[]) ∧ w' = w := by
  go_enter Tryz.func28, Tryz.ntmps28
  go_wp2
  refine wp_loop_rounds 1 ?_
  rw [rounds_succ]
  go_wp2_with (go_at_call 45; refine (sortIns0Vote p cap fv _).mono ?_; rintro e w' ⟨rfl, rfl⟩)
  (try simp only [Exit.inBlock, Exit.then]); refine bodyPost_ret (results_none rfl _ _ _) rfl ?_
  exact ⟨rfl, rfl⟩
theorem sort0Vote (p : Option Addr) (cap : Nat) (fv : Value) (w : World) : Calls Tryz.prog 15 #[.slice p 0 cap, fv] w fun e w' => e = .returned (.tuple #[]) ∧ w' = w := by
  have hl : ∀ W, Calls Tryz.prog 29 #[.int .u64 0] W fun e w' => e = .returned (.int .i64 (Lib.bitLen 0 : Nat)) ∧ w' = W := fun W => Any.bits_Len (SlLaysF0.n15.bits (P := Tryz.prog) (ρ := Tryz.sortVote_ren) { Tryz.sortVote with }) 0 W (by omega) (by omega)
  go_enter Tryz.func15, Tryz.ntmps15
  go_wp2_with (first | (go_at_call 29; refine (hl _).mono ?_; rintro e w' ⟨rfl, rfl⟩) | (go_at_call 28; refine (sortPdq0Vote p cap _ fv _).mono ?_; rintro e w' ⟨rfl, rfl⟩))
  go_end0
  exact ⟨rfl, rfl⟩
theorem enc_lenVote (x : Vote) : (encVote x).length = 7 := rfl
theorem enc_oneVote (x : Vote) : ∀ v ∈ encVote x, v.oneCell' = true := by
  intro v hv
  simp only [encVote, List.mem_cons, List.not_mem_nil, or_false] at hv
  rcases hv with rfl | rfl | rfl | rfl | rfl | rfl | rfl <;> rfl
theorem sortVote (l : List Vote) (v : Value) (w : World) (B base : Nat) (hl : l.length ≤ 2097152) (own : kVote.Own 29 B w base v l) :
    Calls Tryz.prog 15 #[v, .func (.func 16) #[] #[]] w fun e w' => e = .returned (.tuple #[]) ∧ (∃ l' : List Vote, l'.Perm l ∧ l'.Pairwise (fun a b => ltOf sgnCmp b a = false) ∧ kVote.Own 29 B w' base v l') ∧ w.grownBy w' v.ownBlock := by
  by_cases hne : l = []
  · subst hne
    obtain ⟨A, c, rfl, _, _, _, _⟩ := Kd.own_row own
    exact (sort0Vote A c _ w).mono fun e w' ⟨he, hw⟩ => ⟨he, ⟨[], List.Perm.refl _, List.Pairwise.nil, by rw [hw]; exact own⟩, by rw [hw]; exact World.grownBy.refl w _⟩
  · obtain ⟨G, c, cs, Z, rfl, hG, hblk, hrp, hlc, hcm, hsz⟩ := Kd.own_form own hne
    have hcs := reps_encVote hrp
    have hallK := reps_allVote hrp
    subst hcs
    have eg : ∀ args w, (callFunc 16 args).run Tryz.prog w = .ok (.enter 16 args) w := enters_of Tryz.func16 (by kernel_rfl) rfl
    have hcmp : CmpLays Tryz.prog 16 #[] encVote 7 sgnCmp G 0 l.toArray.size w := fun _ _ _ _ x y => signer_calls x y _
    have hcon := AnyQ.slices_SortFunc Tryz.sortVote 7 Tryz.isAgg29 Tryz.sizeOf29 encVote enc_lenVote enc_oneVote sgnCmp sgn_swo 16 #[] G 0 c l.toArray w eg hcmp (holds_of_block enc_lenVote (by decide) hblk) (blk_lt hblk) (by rw [List.size_toArray]; omega)
    change Calls Tryz.prog 15 _ _ _ at hcon
    rw [List.size_toArray] at hcon
    refine hcon.mono ?_
    rintro e w' ⟨he, d', n, os, hp, hs, rfl⟩
    have hd : d'.size = l.length := by rw [hp.1, List.size_toArray]
    have hpm : d'.toList.Perm l := perm_of_permIn (by rw [List.size_toArray]; exact hp)
    refine ⟨he, ⟨d'.toList, hpm, pairs_of_sorted (by rw [hd]; exact hs), ?_⟩, grown_of_sort⟩
    have hb := block_of_sort (enc := encVote) (n := n) (os := os) enc_lenVote (by decide) hblk hd
    refine Kd.own_of_form hb (reps_mkVote fun x hx => flat_kVote _ _ _ _ _ _ (hallK x (hpm.mem_iff.1 hx))) hG (by rw [show d'.toList.length = l.length by simp [hd]]) hlc hcm ?_
    rw [← hsz, List.length_append, List.length_append, encs_lenVote, encs_lenVote, Array.length_toList, hd]
end Go.Proofs.YtglneailkgminaaGreat
