/- Package pack: a reader of no octets. No claim of its own; no condition. -/
import Derived.Test.YtcbfpdenjdgnlaaGreatPakC
import Derived.Test.YtcbfpdenjdgnlaaGreatBkw
namespace Go.Proofs.YtcbfpdenjdgnlaaGreat
open Go.ChangeShapes Go.WideShapes Go.ChangeAt Go.RowKit
set_option linter.unusedVariables false
set_option linter.unusedSimpArgs false
/-- A reader that has nothing left, and its error. -/
def Rd0 (w : World) (N : Nat) (e : Int) : Prop := w.heap[N]? = some (.cells #[.slice none 0 0, .int .i64 e, .bool true] 239 (0, 0))
/-- All blocks but N are as they were. -/
def Only (N : Nat) (w w' : World) : Prop := ∀ k, k < w.heap.size → k ≠ N → w'.heap[k]? = w.heap[k]?
theorem only_below {N : Nat} {a w w' : World} (h : Only N a w) (k : Below w.heap.size w w') (hz : a.heap.size ≤ w.heap.size) : Only N a w' := fun i hi hne => (k.block i (by omega)).trans (h i hi hne)
theorem rd0_below {w w' : World} {N : Nat} {e : Int} (h : Rd0 w N e) (k : Below w.heap.size w w') : Rd0 w' N e := block_below k h
theorem open_nil (w : World) : Calls Tryz.prog 118 #[.slice none 0 0] w fun e w' => (∃ b, e = .returned (.pointer (some ⟨b, 0, none⟩)) ∧ Rd0 w' b 0 ∧ w.heap.size ≤ b) ∧ Below w.heap.size w w' := by
  have hc := Lib.hid (clone8_calls [] none 0 0 w 0 rfl (by simp) (Kd.row_nil _ _ _ _ _))
  go_enter Tryz.func118, Tryz.ntmps118
  go_wp2_with (go_at_call 157; refine (hc.out).mono ?_; rintro x w1 ⟨⟨v1, rfl, own1, hv⟩, b1⟩; have hv' := hv.2 rfl; subst hv'; clear hv own1; have bz := Below.size b1; have a1 := alloc_new w1 (.cells #[.slice none 0 0, .int .i64 0, .bool true] 239); have q1 := bl_alloc b1 (.cells #[.slice none 0 0, .int .i64 0, .bool true] 239))
  go_ret
  exact ⟨⟨_, rfl, a1, bz⟩, q1⟩
theorem ready_rd (w : World) (N : Nat) (A : Option Addr) (n c : Nat) (e : Int) (h : w.heap[N]? = some (.cells #[.slice A n c, .int .i64 e, .bool true] 239 (0, 0))) :
    Calls Tryz.prog 187 #[.pointer (some ⟨N, 0, none⟩)] w fun x w' => x = .returned (.bool (e == 0)) ∧ w' = w := by
  have c1 : w.cell? ⟨N, 1, none⟩ = some (.int .i64 e) := block_cell h (i := 1) rfl
  have c2 : w.cell? ⟨N, 2, none⟩ = some (.bool true) := block_cell h (i := 2) rfl
  go_enter Tryz.func187, Tryz.ntmps187
  go_wp2
  go_ret
  exact ⟨rfl, rfl⟩
theorem err_rd (w : World) (N : Nat) (A : Option Addr) (n c : Nat) (e : Int) (h : w.heap[N]? = some (.cells #[.slice A n c, .int .i64 e, .bool true] 239 (0, 0))) :
    Calls Tryz.prog 120 #[.pointer (some ⟨N, 0, none⟩)] w fun x w' => x = .returned (.int .i64 e) ∧ w' = w := by
  have c1 : w.cell? ⟨N, 1, none⟩ = some (.int .i64 e) := block_cell h (i := 1) rfl
  have c2 : w.cell? ⟨N, 2, none⟩ = some (.bool true) := block_cell h (i := 2) rfl
  go_enter Tryz.func120, Tryz.ntmps120
  go_wp2
  go_ret
  exact ⟨rfl, rfl⟩
theorem stop_rd (w : World) (M N : Nat) (A : Option Addr) (n c : Nat) (e k : Int) (h : w.heap[N]? = some (.cells #[.slice A n c, .int .i64 e, .bool true] 239 (0, 0))) (hM : M ≤ N) :
    Calls Tryz.prog 236 #[.pointer (some ⟨N, 0, none⟩), .int .i64 k] w fun x w' => (∃ v, x = .returned v) ∧ Rd0 w' N k ∧ Below M w w' ∧ w'.heap.size = w.heap.size ∧ Only N w w' := by
  have c0 : w.cell? ⟨N, 0, none⟩ = some (.slice A n c) := block_cell h (i := 0) rfl
  have c1 : w.cell? ⟨N, 1, none⟩ = some (.int .i64 e) := block_cell h (i := 1) rfl
  have f0 : w.frozen? ⟨N, 0, none⟩ = false := block_free h
  have h1 := block_set (i := 0) (u := Value.slice none 0 0) h
  have h2 := block_set (i := 1) (u := Value.int .i64 k) h1
  have f1 : (w.setCell ⟨N, 0, none⟩ (.slice none 0 0)).frozen? ⟨N, 1, none⟩ = false := block_free h1
  have q : Below M w ((w.setCell ⟨N, 0, none⟩ (.slice none 0 0)).setCell ⟨N, 1, none⟩ (.int .i64 k)) := ((Below.refl M w).setCell (p := ⟨N, 0, none⟩) hM _).setCell (p := ⟨N, 1, none⟩) hM _
  go_enter Tryz.func236, Tryz.ntmps236
  go_wp2
  go_end0
  refine ⟨⟨_, rfl⟩, ?_, q, by simp, fun i _ hne => by rw [Below.heap_setCell _ ⟨N, 1, none⟩ _ i hne, Below.heap_setCell _ ⟨N, 0, none⟩ _ i hne]⟩
  unfold Rd0
  simpa using h2
theorem take_nil (w : World) (M N : Nat) (k : Int) (hk : 0 < k ∧ k ≤ 100000) (h : Rd0 w N 0) (hM : M ≤ N) :
    Calls Tryz.prog 235 #[.pointer (some ⟨N, 0, none⟩), .int .i64 k] w fun x w' => x = .returned (.slice none 0 0) ∧ Rd0 w' N 8 ∧ Below M w w' ∧ w'.heap.size = w.heap.size ∧ Only N w w' := by
  have hs := Lib.hid (stop_rd w M N none 0 0 0 8 h hM)
  have c0 : w.cell? ⟨N, 0, none⟩ = some (.slice none 0 0) := block_cell h (i := 0) rfl
  have hk1 : decide ((0:Int) < k) = true := by simpa using hk.1
  have hk2 := hk.1
  go_enter Tryz.func235, Tryz.ntmps235
  go_wp2_with (go_at_call 236; refine (hs.out).mono ?_; rintro x w1 ⟨⟨v1, rfl⟩, r1, b1, z1, o1⟩)
  go_ret
  exact ⟨rfl, r1, b1, z1, o1⟩
theorem num_nil (w : World) (M N : Nat) (k : Int) (h : Rd0 w N 0) (hM : M ≤ N) (hMw : M ≤ w.heap.size) :
    Calls Tryz.prog 181 #[.pointer (some ⟨N, 0, none⟩), .int .i64 k] w fun x w' => x = .returned (.int .i64 0) ∧ Rd0 w' N 8 ∧ Below M w w' ∧ Only N w w' := by
  have hr := Lib.hid (ready_rd w N none 0 0 0 h)
  have ht := Lib.hid (take_nil w M N 6 (by omega) h hM)
  have hg : ∀ W, Calls Tryz.prog 223 #[.slice none 0 0] W fun x w' => x = .returned (.int .i64 0) ∧ Below W.heap.size W w' := fun W => get_calls [] none 0 0 W 0 rfl (by simp) (Kd.row_nil _ _ _ _ _)
  have HG := Lib.hid hg
  clear hg
  go_enter Tryz.func181, Tryz.ntmps181
  go_wp2_with first | (go_at_call 187; refine (hr.out).mono ?_; rintro x w1 ⟨rfl, rfl⟩) | (go_at_call 235; refine (ht.out).mono ?_; rintro x w2 ⟨rfl, r2, b2, z2, o2⟩) | (go_at_call 223; refine (HG.out _).mono ?_; rintro x w3 ⟨rfl, b3⟩; have r3 := rd0_below r2 b3; have q3 := b2.trans (b3.mono (by omega)); have o3 := only_below o2 b3 (by omega); have c1 : w3.cell? ⟨N, 1, none⟩ = some (.int .i64 8) := block_cell r3 (i := 1) rfl)
  go_ret
  exact ⟨rfl, r3, q3, o3⟩
end Go.Proofs.YtcbfpdenjdgnlaaGreat
