/- Packages light, mootref14, mootlaw36: Higher, rank, New. No claim of its own; no condition. -/
import Derived.Test.YtglneailkgminaaCertA
namespace Go.Proofs.Ytglneailkgminaa
open Go.ChangeShapes Go.WideShapes Go.ChangeAt Go.RowKit
set_option linter.unusedVariables false
set_option linter.unusedSimpArgs false
set_option maxHeartbeats 1600000 in
set_option maxRecDepth 100000 in
theorem higher14_calls (x y : Mark) (w : World) : Calls Try.prog 27 #[.agg #[.int .i64 x.view, .int .i64 x.height, .string x.block], .agg #[.int .i64 y.view, .int .i64 y.height, .string y.block]] w fun e w' => e = .returned (.bool (higherF x y)) ∧ Below w.heap.size w w' := by
  have q0 := bl_alloc (bl_alloc (Below.refl w.heap.size w) (.cells #[.int .i64 x.view, .int .i64 x.height, .string x.block] 26)) (.cells #[.int .i64 y.view, .int .i64 y.height, .string y.block] 26)
  have a1 := alloc_old (alloc_new w (.cells #[.int .i64 x.view, .int .i64 x.height, .string x.block] 26)) (.cells #[.int .i64 y.view, .int .i64 y.height, .string y.block] 26)
  have a2 := alloc_new (w.alloc (.cells #[.int .i64 x.view, .int .i64 x.height, .string x.block] 26)) (.cells #[.int .i64 y.view, .int .i64 y.height, .string y.block] 26)
  have s1 : (w.alloc (.cells #[.int .i64 x.view, .int .i64 x.height, .string x.block] 26)).heap.size = w.heap.size + 1 := by simp
  rw [s1] at a2
  clear s1
  obtain ⟨h, hh⟩ : ∃ h, higherF x y = h := ⟨_, rfl⟩
  rw [hh]
  have hcs : (x.view > y.view ∧ h = true) ∨ (¬ x.view > y.view ∧ (x.view == y.view) = true ∧ x.height > y.height ∧ h = true) ∨ (¬ x.view > y.view ∧ (x.view == y.view) = true ∧ ¬ x.height > y.height ∧ h = false) ∨ (¬ x.view > y.view ∧ (x.view == y.view) = false ∧ h = false) := by
    rw [← hh]
    unfold higherF
    rcases Int.lt_trichotomy x.view y.view with k | k | k
    · right; right; right
      refine ⟨by omega, by rw [beq_eq_false_iff_ne]; omega, ?_⟩
      simp; omega
    · by_cases k2 : x.height > y.height
      · right; left
        exact ⟨by omega, by rw [k]; simp, k2, by simp [k, k2]⟩
      · right; right; left
        refine ⟨by omega, by rw [k]; simp, k2, ?_⟩
        simp [k]; omega
    · left; exact ⟨k, by simp [k]⟩
  clear hh
  rcases hcs with ⟨d1, rfl⟩ | ⟨d1, d2, d3, rfl⟩ | ⟨d1, d2, d3, rfl⟩ | ⟨d1, d2, rfl⟩
  all_goals
    go_enter Try.func27, Try.ntmps27
    go_upto_region 1 with fail
    generalize (w.alloc (.cells #[.int .i64 x.view, .int .i64 x.height, .string x.block] 26)).alloc (.cells #[.int .i64 y.view, .int .i64 y.height, .string y.block] 26) = V at *
    have r0 := block_cell a1 (i := 0) rfl
    have r1 := block_cell a1 (i := 1) rfl
    have t0 := block_cell a2 (i := 0) rfl
    have t1 := block_cell a2 (i := 1) rfl
    go_wp2_with fail
    go_ret
    exact ⟨rfl, q0⟩
set_option maxHeartbeats 1600000 in
set_option maxRecDepth 100000 in
theorem rank_calls (m : Mark) (A : Option Addr) (n c : Nat) (w : World) : Calls Try.prog 28 #[.agg #[.int .i64 m.view, .int .i64 m.height, .string m.block, .slice A n c]] w fun e w' => e = .returned (.agg #[.int .i64 m.view, .int .i64 m.height, .string ⟨#[]⟩]) ∧ Below w.heap.size w w' := by
  go_enter Try.func28, Try.ntmps28
  go_wp2
  refine bodyPost_ret (v := .agg #[.int .i64 m.view, .int .i64 m.height, .string ⟨#[]⟩]) (by simp [results, Try.results28, go_sem]) rfl ⟨rfl, ?_⟩
  repeat (first | exact Below.refl _ _ | apply bl_alloc | apply bl_drew | (refine bl_set ?_ (by simp) _))
end Go.Proofs.Ytglneailkgminaa
/- Package mootref06: SameVotes, SameCert at the same cert twice. No claim of its own; no condition. -/
namespace Go.Proofs.Ytglneailkgminaa
open Go.ChangeShapes Go.WideShapes Go.ChangeAt Go.RowKit Go.Sort
set_option linter.unusedVariables false
set_option linter.unusedSimpArgs false
set_option maxHeartbeats 1600000 in
set_option maxRecDepth 100000 in
/-- SameVotes at two rows of the same statements. -/
theorem samevotes_calls (l : List Vote) (A A' : Option Addr) (n n' c c' : Nat) (w : World) (B B' : Nat) (hn : n = l.length) (hn' : n' = l.length) (hl : l.length ≤ 2097152) (hr : kVote.Row 28 B w A l) (hr' : kVote.Row 28 B' w A' l) :
    Calls Try.prog 59 #[.slice A n c, .slice A' n' c'] w fun e w' => e = .returned (.bool true) ∧ Below w.heap.size w w' := by
  subst hn hn'
  have dn : (((l.length : Nat) : Int) != ((l.length : Nat) : Int)) = false := by simp
  go_enter Try.func59, Try.ntmps59
  go_wp2_with fail
  go_loopw [5] (fun kv w' => ∃ k : Nat, k ≤ l.length ∧ kv = .int .i64 k ∧ Below w.heap.size w w') (fun kv _ => l.length - (intOf kv).toNat)
  case atStart => exact ⟨0, by omega, rfl, Below.refl _ _⟩
  case round =>
    obtain ⟨k, h1, rfl, bel⟩ := hrel
    by_cases h : k < l.length
    · obtain ⟨x, hx⟩ : ∃ x, l[k]? = some x := ⟨_, List.getElem?_eq_getElem h⟩
      obtain ⟨ad, rfl, e0, e1, e2, e3, e4, e5, e6, _⟩ := kVote_at (Kd.row_below bel hr) hx
      obtain ⟨ad', rfl, f0, f1, f2, f3, f4, f5, f6, _⟩ := kVote_at (Kd.row_below bel hr') hx
      have hkI : (k : Int) < (l.length : Int) := by omega
      have hq : ∀ W, (binOp .neq 28 (.agg #[.int .i64 x.kind, .int .i64 x.view, .int .i64 x.height, .string x.block, .int .i64 x.ticks, .int .i64 x.signer, .string x.sig]) (.agg #[.int .i64 x.kind, .int .i64 x.view, .int .i64 x.height, .string x.block, .int .i64 x.ticks, .int .i64 x.signer, .string x.sig])).run Try.prog W = .ok (.bool false) W := fun W => by rw [neqVote, decide_eq_true rfl]; rfl
      clear hx
      go_upto_region 6 with fail
      go_quiet (fail)
      go_wp2_with fail
      go_roundw
      case rel => exact ⟨k + 1, by omega, by go_num, bl_drewN bel _⟩
      case measure => simp [intOf]; omega
    · have hk : k = l.length := by omega
      subst hk
      have hnI : ¬ ((l.length : Int) < (l.length : Int)) := by omega
      go_wp2_with fail
      go_ret
      exact ⟨rfl, bel⟩
set_option maxHeartbeats 1600000 in
set_option maxRecDepth 100000 in
theorem samecert_calls (m : Mark) (l : List Vote) (A A' : Option Addr) (n n' c c' : Nat) (w : World) (hn : n = l.length) (hn' : n' = l.length) (hl : l.length ≤ 2097152) (hr : kVote.Row 28 w.heap.size w A l) (hr' : kVote.Row 28 w.heap.size w A' l) :
    Calls Try.prog 29 #[.agg #[.int .i64 m.view, .int .i64 m.height, .string m.block, .slice A n c], .agg #[.int .i64 m.view, .int .i64 m.height, .string m.block, .slice A' n' c']] w fun e w' => e = .returned (.bool true) ∧ Below w.heap.size w w' := by
  subst hn hn'
  have q := bl_alloc (bl_alloc (Below.refl w.heap.size w) (.cells #[.int .i64 m.view, .int .i64 m.height, .string m.block, .slice A l.length c] 35)) (.cells #[.int .i64 m.view, .int .i64 m.height, .string m.block, .slice A' l.length c'] 35)
  have d0 : (m.view == m.view) = true := by simp
  have d1 : (m.height == m.height) = true := by simp
  have d2 : (m.block.toList == m.block.toList) = true := by simp
  go_enter Try.func29, Try.ntmps29
  go_wp2_with (go_at_call 59; refine (samevotes_calls l A A' _ _ c c' _ _ _ rfl rfl hl (Kd.row_below q hr) (Kd.row_below q hr')).mono ?_; rintro e w1 ⟨rfl, b1⟩)
  go_ret
  exact ⟨rfl, bl_trans q b1⟩
end Go.Proofs.Ytglneailkgminaa
