/- slices.SortFunc at this program's structs, for rows of the call's own. No claim of its own; no condition. -/
import Derived.Test.YtglneailkgminaaSortL
import Derived.Test.YtglneailkgminaaSortQ
import Derived.Test.YtglneailkgminaaLibM
import Derived.Test.YtglneailkgminaaCmpM
namespace Go.Proofs.Ytglneailkgminaa
open Go.ChangeShapes Go.WideShapes Go.ChangeAt Go.RowKit Go.Sort Go.Shelf
set_option linter.unusedVariables false
set_option linter.unusedSimpArgs false
instance : Inhabited Mark := ⟨0, 0, ⟨#[]⟩⟩
theorem sortIns0Mark (p : Option Addr) (cap : Nat) (fv : Value) (w : World) : Calls Try.prog 96 #[.slice p 0 cap, .int .i64 0, .int .i64 0, fv] w fun e w' => e = .returned (.tuple #[]) ∧ w' = w := by
  go_enter Try.func96, Try.ntmps96
  go_wp2
  refine wp_loop_rounds 1 ?_
  rw [rounds_succ]
  go_wp2
  go_end0
  exact ⟨rfl, rfl⟩
theorem sortPdq0Mark (p : Option Addr) (cap : Nat) (lim : Int) (fv : Value) (w : World) : Calls Try.prog 74 #[.slice p 0 cap, .int .i64 0, .int .i64 0, .int .i64 lim, fv] w fun e w' => e = .returned (.tuple #[]) ∧ w' = w := by
  go_enter Try.func74, Try.ntmps74
  go_wp2
  refine wp_loop_rounds 1 ?_
  rw [rounds_succ]
  go_wp2_with (go_at_call 96; refine (sortIns0Mark p cap fv _).mono ?_; rintro e w' ⟨rfl, rfl⟩)
  (try simp only [Exit.inBlock, Exit.then]); refine bodyPost_ret (results_none rfl _ _ _) rfl ?_
  exact ⟨rfl, rfl⟩
theorem sort0Mark (p : Option Addr) (cap : Nat) (fv : Value) (w : World) : Calls Try.prog 40 #[.slice p 0 cap, fv] w fun e w' => e = .returned (.tuple #[]) ∧ w' = w := by
  have hl : ∀ W, Calls Try.prog 75 #[.int .u64 0] W fun e w' => e = .returned (.int .i64 (Lib.bitLen 0 : Nat)) ∧ w' = W := fun W => Any.bits_Len (SlLaysF0.n15.bits (P := Try.prog) (ρ := Try.sortMark_ren) { Try.sortMark with }) 0 W (by omega) (by omega)
  go_enter Try.func40, Try.ntmps40
  go_wp2_with (first | (go_at_call 75; refine (hl _).mono ?_; rintro e w' ⟨rfl, rfl⟩) | (go_at_call 74; refine (sortPdq0Mark p cap _ fv _).mono ?_; rintro e w' ⟨rfl, rfl⟩))
  go_end0
  exact ⟨rfl, rfl⟩
theorem enc_lenMark (x : Mark) : (encMark x).length = 3 := rfl
theorem enc_oneMark (x : Mark) : ∀ v ∈ encMark x, v.oneCell' = true := by
  intro v hv
  simp only [encMark, List.mem_cons, List.not_mem_nil, or_false] at hv
  rcases hv with rfl | rfl | rfl <;> rfl
theorem sortMark (l : List Mark) (v : Value) (w : World) (B base : Nat) (hl : l.length ≤ 2097152) (own : kMark.Own 26 B w base v l) :
    Calls Try.prog 40 #[v, .func (.func 41) #[] #[]] w fun e w' => e = .returned (.tuple #[]) ∧ (∃ l' : List Mark, l'.Perm l ∧ l'.Pairwise (fun a b => ltOf ordF b a = false) ∧ kMark.Own 26 B w' base v l') ∧ w.grownBy w' v.ownBlock := by
  by_cases hne : l = []
  · subst hne
    obtain ⟨A, c, rfl, _, _, _, _⟩ := Kd.own_row own
    exact (sort0Mark A c _ w).mono fun e w' ⟨he, hw⟩ => ⟨he, ⟨[], List.Perm.refl _, List.Pairwise.nil, by rw [hw]; exact own⟩, by rw [hw]; exact World.grownBy.refl w _⟩
  · obtain ⟨G, c, cs, Z, rfl, hG, hblk, hrp, hlc, hcm, hsz⟩ := Kd.own_form own hne
    have hcs := reps_encMark hrp
    have hallK := reps_allMark hrp
    subst hcs
    have eg : ∀ args w, (callFunc 41 args).run Try.prog w = .ok (.enter 41 args) w := enters_of Try.func41 (by kernel_rfl) rfl
    have hcmp : CmpLays Try.prog 41 #[] encMark 3 ordF G 0 l.toArray.size w := fun _ _ _ _ x y => order_calls x y _
    have hcon := AnyQ.slices_SortFunc Try.sortMark 3 Try.isAgg26 Try.sizeOf26 encMark enc_lenMark enc_oneMark ordF ord_swo 41 #[] G 0 c l.toArray w eg hcmp (holds_of_block enc_lenMark (by decide) hblk) (blk_lt hblk) (by rw [List.size_toArray]; omega)
    change Calls Try.prog 40 _ _ _ at hcon
    rw [List.size_toArray] at hcon
    refine hcon.mono ?_
    rintro e w' ⟨he, d', n, os, hp, hs, rfl⟩
    have hd : d'.size = l.length := by rw [hp.1, List.size_toArray]
    have hpm : d'.toList.Perm l := perm_of_permIn (by rw [List.size_toArray]; exact hp)
    refine ⟨he, ⟨d'.toList, hpm, pairs_of_sorted (by rw [hd]; exact hs), ?_⟩, grown_of_sort⟩
    have hb := block_of_sort (enc := encMark) (n := n) (os := os) enc_lenMark (by decide) hblk hd
    refine Kd.own_of_form hb (reps_mkMark fun x hx => flat_kMark _ _ _ _ _ _ (hallK x (hpm.mem_iff.1 hx))) hG (by rw [show d'.toList.length = l.length by simp [hd]]) hlc hcm ?_
    rw [← hsz, List.length_append, List.length_append, encs_lenMark, encs_lenMark, Array.length_toList, hd]
end Go.Proofs.Ytglneailkgminaa
