/- Package mootlaw09: the walk of CertMakes. No claim of its own; no condition. -/
import Derived.Test.YtglneailkgminaaCertN
import Derived.Test.YtglneailkgminaaCertA
namespace Go.Proofs.Ytglneailkgminaa
open Go.ChangeShapes Go.WideShapes Go.ChangeAt Go.RowKit Go.Sort
set_option linter.unusedVariables false
set_option linter.unusedSimpArgs false
theorem sorted_of {o : List Vote} (ho : o.Pairwise (fun a b => a.signer ≠ b.signer)) : ∃ s : List Vote, s.Perm o ∧ Rises s := by
  have hp := List.mergeSort_perm o (fun a b : Vote => decide (a.signer ≤ b.signer))
  have hs := List.pairwise_mergeSort (le := fun a b : Vote => decide (a.signer ≤ b.signer)) (fun a b c h1 h2 => by simp at *; omega) (fun a b => by simp; omega) o
  refine ⟨_, hp, rises_of hp ho (hs.imp fun {a b} h => ?_)⟩
  rw [sgn_lt]
  simp at h ⊢
  omega
theorem samezero_calls (w : World) : Calls Try.prog 29 #[.agg #[.int .i64 0, .int .i64 0, .string ⟨#[]⟩, .slice none 0 0], .agg #[.int .i64 0, .int .i64 0, .string ⟨#[]⟩, .slice none 0 0]] w fun e w' => e = .returned (.bool true) ∧ Below w.heap.size w w' :=
  samecert_calls ⟨0, 0, ⟨#[]⟩⟩ [] none none 0 0 0 0 w rfl rfl (by decide) vrow_nil vrow_nil
set_option maxHeartbeats 6400000 in
set_option maxRecDepth 100000 in
theorem certmakes_walk (l : List Vote) (m : Mark) (q : Int) (A : Option Addr) (c : Nat) (w : World) (hl : l.length ≤ 1048576) (hr : kVote.Row 28 w.heap.size w A l) :
    Calls Try.prog 10 #[.slice A l.length c, .agg #[.int .i64 m.view, .int .i64 m.height, .string m.block], .int .i64 q] w fun e w' => e = .returned (.bool true) ∧ Below w.heap.size w w' := by
  have q0 := bl_alloc (Below.refl w.heap.size w) (.cells #[.int .i64 m.view, .int .i64 m.height, .string m.block] 26)
  have a4 := alloc_new w (.cells #[.int .i64 m.view, .int .i64 m.height, .string m.block] 26)
  obtain ⟨bad, hbad⟩ : ∃ bad, badQ (ownF m l) q = bad := ⟨_, rfl⟩
  have HB := Lib.hid hbad
  clear hbad
  go_enter Try.func10, Try.ntmps10
  go_upto_region 1 with fail
  generalize w.alloc (.cells #[.int .i64 m.view, .int .i64 m.height, .string m.block] 26) = W at *
  have k0 := block_cell a4 (i := 0) rfl
  have k1 := block_cell a4 (i := 1) rfl
  have k2 := block_cell a4 (i := 2) rfl
  have rowW := Kd.row_below q0 hr
  have hrW : kVote.Row 28 W.heap.size W A l := Kd.row_flat flat_kVote rowW (Nat.le_refl _)
  have hmk := make_calls l m q A c W hl hrW
  rw [HB.out] at hmk
  cases bad with
  | true =>
    have hmk2 : Calls Try.prog 37 #[.slice A l.length c, .agg #[.int .i64 m.view, .int .i64 m.height, .string m.block], .int .i64 q] W fun e w' => e = .returned (.tuple #[.agg #[.int .i64 0, .int .i64 0, .string ⟨#[]⟩, .slice none 0 0], .bool false]) ∧ Below W.heap.size W w' :=
      hmk.mono fun e w' ⟨h, hb⟩ => ⟨(by rcases h with ⟨_, h⟩ | ⟨h, _⟩ <;> first | exact h | cases h), hb⟩
    have H37 := Lib.hid hmk2
    clear hmk hmk2
    go_upto_region 2 with (go_at_call 37; refine (H37.out).mono ?_; rintro e w1 ⟨rfl, b1⟩)
    have bv1 := bl_trans q0 (bl_trans b1 (bl_alloc (Below.refl w1.heap.size w1) (.cells #[.int .i64 0, .int .i64 0, .string ⟨#[]⟩, .slice none 0 0] 35)))
    have h4 := block_below (bl_trans b1 (bl_alloc (Below.refl w1.heap.size w1) (.cells #[.int .i64 0, .int .i64 0, .string ⟨#[]⟩, .slice none 0 0] 35))) a4
    have h7 := alloc_new w1 (.cells #[.int .i64 0, .int .i64 0, .string ⟨#[]⟩, .slice none 0 0] 35)
    have k0' := block_cell h4 (i := 0) rfl
    have k1' := block_cell h4 (i := 1) rfl
    have k2' := block_cell h4 (i := 2) rfl
    clear k0 k1 k2
    have hsz7 : w1.heap.size < (w1.alloc (.cells #[.int .i64 0, .int .i64 0, .string ⟨#[]⟩, .slice none 0 0] 35)).heap.size := blk_lt h7
    generalize w1.alloc (.cells #[.int .i64 0, .int .i64 0, .string ⟨#[]⟩, .slice none 0 0] 35) = V1 at *
    obtain ⟨s, hsp, hsr⟩ := sorted_of (own_distinct m l)
    have hrf := refmake_calls l m q s hsp hsr A c V1 hl (Kd.row_flat flat_kVote (Kd.row_below bv1 hr) (Nat.le_refl _))
    rw [HB.out] at hrf
    have hrf2 : Calls Try.prog 38 #[.slice A l.length c, .agg #[.int .i64 m.view, .int .i64 m.height, .string m.block], .int .i64 q] V1 fun e w' => e = .returned (.tuple #[.agg #[.int .i64 0, .int .i64 0, .string ⟨#[]⟩, .slice none 0 0], .bool false]) ∧ Below V1.heap.size V1 w' :=
      hrf.mono fun e w' ⟨h, hb⟩ => ⟨(by rcases h with ⟨_, h⟩ | ⟨h, _⟩ <;> first | exact h | cases h), hb⟩
    have H38 := Lib.hid hrf2
    clear hrf hrf2 hsp hsr
    go_upto_region 3 with (go_at_call 38; refine (H38.out).mono ?_; rintro e w2 ⟨rfl, b2⟩)
    have bv2 := bl_trans bv1 (bl_trans b2 (bl_alloc (Below.refl w2.heap.size w2) (.cells #[.int .i64 0, .int .i64 0, .string ⟨#[]⟩, .slice none 0 0] 35)))
    have h7' := block_below (bl_trans b2 (bl_alloc (Below.refl w2.heap.size w2) (.cells #[.int .i64 0, .int .i64 0, .string ⟨#[]⟩, .slice none 0 0] 35))) h7
    have h9 := alloc_new w2 (.cells #[.int .i64 0, .int .i64 0, .string ⟨#[]⟩, .slice none 0 0] 35)
    generalize w2.alloc (.cells #[.int .i64 0, .int .i64 0, .string ⟨#[]⟩, .slice none 0 0] 35) = V2 at *
    have x0 := block_cell h7' (i := 0) rfl
    have x1 := block_cell h7' (i := 1) rfl
    have x2 := block_cell h7' (i := 2) rfl
    have x3 := block_cell h7' (i := 3) rfl
    have y0 := block_cell h9 (i := 0) rfl
    have y1 := block_cell h9 (i := 1) rfl
    have y2 := block_cell h9 (i := 2) rfl
    have y3 := block_cell h9 (i := 3) rfl
    go_wp2_with (first
      | (go_at_call 29; refine (samezero_calls _).mono ?_; rintro e w3 ⟨rfl, b3⟩)
      | (go_at_call 15; refine (alive09_calls _).mono ?_; rintro e w4 ⟨rfl, b4⟩))
    go_ret
    exact ⟨rfl, bl_trans bv2 (bl_trans b3 b4)⟩
  | false =>
    have hmk2 : Calls Try.prog 37 #[.slice A l.length c, .agg #[.int .i64 m.view, .int .i64 m.height, .string m.block], .int .i64 q] W fun e w' => (∃ s A' n' c', s.Perm (ownF m l) ∧ Rises s ∧ n' = (s.take q.toNat).length ∧ e = .returned (.tuple #[.agg #[.int .i64 m.view, .int .i64 m.height, .string m.block, .slice A' n' c'], .bool true]) ∧ kVote.Row 28 W.heap.size w' A' (s.take q.toNat)) ∧ Below W.heap.size W w' :=
      hmk.mono fun e w' ⟨h, hb⟩ => ⟨(by rcases h with ⟨h, _⟩ | ⟨_, h⟩ <;> first | exact h | cases h), hb⟩
    have H37 := Lib.hid hmk2
    clear hmk hmk2
    go_upto_region 2 with (go_at_call 37; refine (H37.out).mono ?_; rintro e w1 ⟨⟨s, A1, n1, c1, hsp, hsr, hn1, rfl, row1⟩, b1⟩; have HN1 := Lib.hid hn1; clear hn1)
    have bv1 := bl_trans q0 (bl_trans b1 (bl_alloc (Below.refl w1.heap.size w1) (.cells #[.int .i64 m.view, .int .i64 m.height, .string m.block, .slice A1 n1 c1] 35)))
    have h4 := block_below (bl_trans b1 (bl_alloc (Below.refl w1.heap.size w1) (.cells #[.int .i64 m.view, .int .i64 m.height, .string m.block, .slice A1 n1 c1] 35))) a4
    have h7 := alloc_new w1 (.cells #[.int .i64 m.view, .int .i64 m.height, .string m.block, .slice A1 n1 c1] 35)
    have row1' := Kd.row_below (bl_alloc (Below.refl w1.heap.size w1) (.cells #[.int .i64 m.view, .int .i64 m.height, .string m.block, .slice A1 n1 c1] 35)) row1
    have k0' := block_cell h4 (i := 0) rfl
    have k1' := block_cell h4 (i := 1) rfl
    have k2' := block_cell h4 (i := 2) rfl
    clear k0 k1 k2
    have hsz7 : w1.heap.size < (w1.alloc (.cells #[.int .i64 m.view, .int .i64 m.height, .string m.block, .slice A1 n1 c1] 35)).heap.size := blk_lt h7
    generalize w1.alloc (.cells #[.int .i64 m.view, .int .i64 m.height, .string m.block, .slice A1 n1 c1] 35) = V1 at *
    have hrf := refmake_calls l m q s hsp hsr A c V1 hl (Kd.row_flat flat_kVote (Kd.row_below bv1 hr) (Nat.le_refl _))
    rw [HB.out] at hrf
    have hrf2 : Calls Try.prog 38 #[.slice A l.length c, .agg #[.int .i64 m.view, .int .i64 m.height, .string m.block], .int .i64 q] V1 fun e w' => (∃ A' n' c', n' = (s.take q.toNat).length ∧ e = .returned (.tuple #[.agg #[.int .i64 m.view, .int .i64 m.height, .string m.block, .slice A' n' c'], .bool true]) ∧ kVote.Row 28 V1.heap.size w' A' (s.take q.toNat)) ∧ Below V1.heap.size V1 w' :=
      hrf.mono fun e w' ⟨h, hb⟩ => ⟨(by rcases h with ⟨h, _⟩ | ⟨_, h⟩ <;> first | exact h | cases h), hb⟩
    have hle : (s.take q.toNat).length ≤ 2097152 := by
      have h1 := hsp.length_eq
      have h2 := own_le m l l.length
      rw [List.take_of_length_le (Nat.le_refl _)] at h2
      rw [List.length_take]
      omega
    have H38 := Lib.hid hrf2
    have HLE := Lib.hid hle
    clear hrf hrf2 hsp hsr hle row1
    go_upto_region 3 with (go_at_call 38; refine (H38.out).mono ?_; rintro e w2 ⟨⟨A2, n2, c2, hn2, rfl, row2⟩, b2⟩; have HN2 := Lib.hid hn2; clear hn2)
    have bv2 := bl_trans bv1 (bl_trans b2 (bl_alloc (Below.refl w2.heap.size w2) (.cells #[.int .i64 m.view, .int .i64 m.height, .string m.block, .slice A2 n2 c2] 35)))
    have h7' := block_below (bl_trans b2 (bl_alloc (Below.refl w2.heap.size w2) (.cells #[.int .i64 m.view, .int .i64 m.height, .string m.block, .slice A2 n2 c2] 35))) h7
    have h9 := alloc_new w2 (.cells #[.int .i64 m.view, .int .i64 m.height, .string m.block, .slice A2 n2 c2] 35)
    have r1 := Kd.row_below (bl_trans b2 (bl_alloc (Below.refl w2.heap.size w2) (.cells #[.int .i64 m.view, .int .i64 m.height, .string m.block, .slice A2 n2 c2] 35))) row1'
    have r2 := Kd.row_below (bl_alloc (Below.refl w2.heap.size w2) (.cells #[.int .i64 m.view, .int .i64 m.height, .string m.block, .slice A2 n2 c2] 35)) row2
    generalize w2.alloc (.cells #[.int .i64 m.view, .int .i64 m.height, .string m.block, .slice A2 n2 c2] 35) = V2 at *
    have x0 := block_cell h7' (i := 0) rfl
    have x1 := block_cell h7' (i := 1) rfl
    have x2 := block_cell h7' (i := 2) rfl
    have x3 := block_cell h7' (i := 3) rfl
    have y0 := block_cell h9 (i := 0) rfl
    have y1 := block_cell h9 (i := 1) rfl
    have y2 := block_cell h9 (i := 2) rfl
    have y3 := block_cell h9 (i := 3) rfl
    have RW1 := Lib.hid (Kd.row_flat flat_kVote r1 (Nat.le_refl _))
    have RW2 := Lib.hid (Kd.row_flat flat_kVote r2 (Nat.le_refl _))
    clear r1 r2 row1' row2
    go_wp2_with (first
      | (go_at_call 29; refine (samecert_calls m (s.take q.toNat) A1 A2 n1 n2 c1 c2 _ HN1.out HN2.out HLE.out RW1.out RW2.out).mono ?_; rintro e w3 ⟨rfl, b3⟩)
      | (go_at_call 15; refine (alive09_calls _).mono ?_; rintro e w4 ⟨rfl, b4⟩))
    go_ret
    exact ⟨rfl, bl_trans bv2 (bl_trans b3 b4)⟩
end Go.Proofs.Ytglneailkgminaa
