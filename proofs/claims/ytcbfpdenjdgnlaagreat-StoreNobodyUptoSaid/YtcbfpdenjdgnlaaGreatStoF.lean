/- Package mootlaw23: the walk of StoreNobody. No claim of its own; no condition. -/
import Derived.Test.YtcbfpdenjdgnlaaGreatStoE
namespace Go.Proofs.YtcbfpdenjdgnlaaGreat
open Go.ChangeShapes Go.WideShapes Go.ChangeAt Go.RowKit
set_option linter.unusedVariables false
set_option linter.unusedSimpArgs false
def stoZ : Array Value := #[.slice none 0 0, .slice none 0 0, .int .i64 0, .int .i64 0, .int .i64 0, .int .i64 0, .int .i64 0, .pointer none, .pointer none, .bool false]
set_option maxHeartbeats 4000000 in
set_option maxRecDepth 100000 in
theorem nobody_walk (A : Option Addr) (n c : Nat) (keep : Int) (w : World) : Calls Tryz.prog 10 #[.slice A n c, .int .i64 keep] w fun e w' => e = .returned (.bool true) ∧ Below w.heap.size w w' := by
  have HA := Lib.hid (alive23_calls w)
  go_enter Tryz.func10, Tryz.ntmps10
  go_wp2_with (go_at_call 35; refine Calls.mono (HA.out) ?_; rintro x w1 ⟨rfl, b1⟩; have B1 := Lib.hid b1; clear b1)
  have q0 := bl_alloc (bl_alloc (Below.refl w1.heap.size w1) (.cells stoZ 88)) (.cells #[.pointer none, .pointer (some ⟨w1.heap.size, 0, none⟩)] 81)
  have a0 := alloc_old (alloc_new w1 (.cells stoZ 88)) (.cells #[.pointer none, .pointer (some ⟨w1.heap.size, 0, none⟩)] 81)
  have a1 : ((w1.alloc (.cells stoZ 88)).alloc (.cells #[.pointer none, .pointer (some ⟨w1.heap.size, 0, none⟩)] 81)).heap[w1.heap.size + 1]? = some (.cells #[.pointer none, .pointer (some ⟨w1.heap.size, 0, none⟩)] 81 (0, 0)) := by
    have := alloc_new (w1.alloc (.cells stoZ 88)) (.cells #[.pointer none, .pointer (some ⟨w1.heap.size, 0, none⟩)] 81)
    rwa [World.size_alloc] at this
  have n7 : ((w1.alloc (.cells stoZ 88)).alloc (.cells #[.pointer none, .pointer (some ⟨w1.heap.size, 0, none⟩)] 81)).cell? ⟨w1.heap.size, 7, none⟩ = some (.pointer none) := block_cell a0 (i := 7) rfl
  have p0 := block_cell a1 (i := 0) rfl
  have p1 := block_cell a1 (i := 1) rfl
  clear a0 a1
  change Code.wp _ _ _ _ ((w1.alloc (.cells stoZ 88)).alloc (.cells #[.pointer none, .pointer (some ⟨w1.heap.size, 0, none⟩)] 81))
  generalize (w1.alloc (.cells stoZ 88)).alloc (.cells #[.pointer none, .pointer (some ⟨w1.heap.size, 0, none⟩)] 81) = V at *
  have Q0 := Lib.hid (bl_trans B1.out q0)
  clear q0
  have N0 : Nob none V := .inl rfl
  have N1 : Nob (some ⟨w1.heap.size, 0, none⟩) V := .inr ⟨_, rfl, n7⟩
  have HN0 := Lib.hid N0
  have HN1 := Lib.hid N1
  clear N0 N1 n7
  go_loopw [7] (fun kv wr => ∃ k : Nat, k ≤ 2 ∧ kv = .int .i64 k ∧ wr = V) (fun kv _ => 2 - (intOf kv).toNat)
  case atStart => exact ⟨0, by omega, rfl, rfl⟩
  case round =>
    obtain ⟨k, hk, rfl, rfl⟩ := hrel
    have h3 : k = 0 ∨ k = 1 ∨ k = 2 := by omega
    rcases h3 with rfl | rfl | rfl
    · go_wp2_with first
        | (go_at_call 42; refine Calls.mono (sfail_nob HN0.out _ _ _ _) ?_; rintro x w2 ⟨⟨vx, rfl⟩, hw⟩; subst hw)
        | (go_at_call 43; refine Calls.mono (sledger_nob HN0.out) ?_; rintro x w2 ⟨rfl, hw⟩; subst hw)
        | (go_at_call 40; refine Calls.mono (snames_nob HN0.out) ?_; rintro x w2 ⟨rfl, hw⟩; subst hw)
        | (go_at_call 37; refine Calls.mono (shear_nob HN0.out _ _ _) ?_; rintro x w2 ⟨rfl, hw⟩; subst hw)
        | (go_at_call 38; refine Calls.mono (sdown_nob HN0.out) ?_; rintro x w2 ⟨rfl, hw⟩; subst hw)
        | (go_at_call 41; refine Calls.mono (slearner_nob HN0.out) ?_; rintro x w2 ⟨rfl, hw⟩; subst hw)
        | (go_at_call 39; refine Calls.mono (sup_nob HN0.out) ?_; rintro x w2 ⟨rfl, hw⟩; subst hw)
      go_roundw
      case rel => exact ⟨1, by omega, by simp, by simp⟩
      case measure => simp [intOf]
    · go_wp2_with first
        | (go_at_call 42; refine Calls.mono (sfail_nob HN1.out _ _ _ _) ?_; rintro x w2 ⟨⟨vx, rfl⟩, hw⟩; subst hw)
        | (go_at_call 43; refine Calls.mono (sledger_nob HN1.out) ?_; rintro x w2 ⟨rfl, hw⟩; subst hw)
        | (go_at_call 40; refine Calls.mono (snames_nob HN1.out) ?_; rintro x w2 ⟨rfl, hw⟩; subst hw)
        | (go_at_call 37; refine Calls.mono (shear_nob HN1.out _ _ _) ?_; rintro x w2 ⟨rfl, hw⟩; subst hw)
        | (go_at_call 38; refine Calls.mono (sdown_nob HN1.out) ?_; rintro x w2 ⟨rfl, hw⟩; subst hw)
        | (go_at_call 41; refine Calls.mono (slearner_nob HN1.out) ?_; rintro x w2 ⟨rfl, hw⟩; subst hw)
        | (go_at_call 39; refine Calls.mono (sup_nob HN1.out) ?_; rintro x w2 ⟨rfl, hw⟩; subst hw)
      go_roundw
      case rel => exact ⟨2, by omega, by simp, by simp⟩
      case measure => simp [intOf]
    · have HS := Lib.hid (snewR wr)
      go_wp2_with first
        | (go_at_call 36; refine Calls.mono (HS.out) ?_; rintro x w3 ⟨⟨S, L, D, m, rfl, st, hm⟩, b3⟩; have U3 := Lib.hid (sup_at S ⟨L, 0, none⟩ w3 (stoat_cells st).1 (stoat_cells st).2.2.1); clear st hm)
        | (go_at_call 39; refine Calls.mono (U3.out) ?_; rintro x w4 ⟨rfl, hw⟩; subst hw)
      go_ret
      exact ⟨rfl, bl_trans Q0.out b3⟩
end Go.Proofs.YtcbfpdenjdgnlaaGreat
