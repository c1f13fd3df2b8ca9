/- Package mootref06: SameVotes, SameCert at the same cert twice. No claim of its own; no condition. -/
import Derived.Test.YtglneailkgminaaCertA
namespace Go.Proofs.Ytglneailkgminaa
open Go.ChangeShapes Go.WideShapes Go.ChangeAt Go.RowKit Go.Sort
set_option linter.unusedVariables false
set_option linter.unusedSimpArgs false
set_option maxHeartbeats 1600000 in
set_option maxRecDepth 100000 in
/-- SameVotes at two rows of the same statements. -/
theorem samevotes_calls (l : List Vote) (A A' : Option Addr) (n n' c c' : Nat) (w : World) (B B' : Nat) (hn : n = l.length) (hn' : n' = l.length) (hl : l.length ≤ 2097152) (hr : kVote.Row 28 B w A l) (hr' : kVote.Row 28 B' w A' l) :
    Calls Try.prog 59 #[.slice A n c, .slice A' n' c'] w fun e w' => e = .returned (.bool true) ∧ Below w.heap.size w w' := by
  subst hn hn'
  have dn : (((l.length : Nat) : Int) != ((l.length : Nat) : Int)) = false := by simp
  go_enter Try.func59, Try.ntmps59
  go_wp2_with fail
  go_loopw [5] (fun kv w' => ∃ k : Nat, k ≤ l.length ∧ kv = .int .i64 k ∧ Below w.heap.size w w') (fun kv _ => l.length - (intOf kv).toNat)
  case atStart => exact ⟨0, by omega, rfl, Below.refl _ _⟩
  case round =>
    obtain ⟨k, h1, rfl, bel⟩ := hrel
    by_cases h : k < l.length
    · obtain ⟨x, hx⟩ : ∃ x, l[k]? = some x := ⟨_, List.getElem?_eq_getElem h⟩
      obtain ⟨ad, rfl, e0, e1, e2, e3, e4, e5, e6, _⟩ := kVote_at (Kd.row_below bel hr) hx
      obtain ⟨ad', rfl, f0, f1, f2, f3, f4, f5, f6, _⟩ := kVote_at (Kd.row_below bel hr') hx
      have hkI : (k : Int) < (l.length : Int) := by omega
      have hq : ∀ W, (binOp .neq 28 (.agg #[.int .i64 x.kind, .int .i64 x.view, .int .i64 x.height, .string x.block, .int .i64 x.ticks, .int .i64 x.signer, .string x.sig]) (.agg #[.int .i64 x.kind, .int .i64 x.view, .int .i64 x.height, .string x.block, .int .i64 x.ticks, .int .i64 x.signer, .string x.sig])).run Try.prog W = .ok (.bool false) W := fun W => by rw [neqVote, decide_eq_true rfl]; rfl
      clear hx
      go_upto_region 6 with fail
      go_quiet (fail)
      go_wp2_with fail
      go_roundw
      case rel => exact ⟨k + 1, by omega, by go_num, bl_drewN bel _⟩
      case measure => simp [intOf]; omega
    · have hk : k = l.length := by omega
      subst hk
      have hnI : ¬ ((l.length : Int) < (l.length : Int)) := by omega
      go_wp2_with fail
      go_ret
      exact ⟨rfl, bel⟩
set_option maxHeartbeats 1600000 in
set_option maxRecDepth 100000 in
theorem samecert_calls (m : Mark) (l : List Vote) (A A' : Option Addr) (n n' c c' : Nat) (w : World) (hn : n = l.length) (hn' : n' = l.length) (hl : l.length ≤ 2097152) (hr : kVote.Row 28 w.heap.size w A l) (hr' : kVote.Row 28 w.heap.size w A' l) :
    Calls Try.prog 29 #[.agg #[.int .i64 m.view, .int .i64 m.height, .string m.block, .slice A n c], .agg #[.int .i64 m.view, .int .i64 m.height, .string m.block, .slice A' n' c']] w fun e w' => e = .returned (.bool true) ∧ Below w.heap.size w w' := by
  subst hn hn'
  have q := bl_alloc (bl_alloc (Below.refl w.heap.size w) (.cells #[.int .i64 m.view, .int .i64 m.height, .string m.block, .slice A l.length c] 35)) (.cells #[.int .i64 m.view, .int .i64 m.height, .string m.block, .slice A' l.length c'] 35)
  have d0 : (m.view == m.view) = true := by simp
  have d1 : (m.height == m.height) = true := by simp
  have d2 : (m.block.toList == m.block.toList) = true := by simp
  go_enter Try.func29, Try.ntmps29
  go_wp2_with (go_at_call 59; refine (samevotes_calls l A A' _ _ c c' _ _ _ rfl rfl hl (Kd.row_below q hr) (Kd.row_below q hr')).mono ?_; rintro e w1 ⟨rfl, b1⟩)
  go_ret
  exact ⟨rfl, bl_trans q b1⟩
end Go.Proofs.Ytglneailkgminaa
