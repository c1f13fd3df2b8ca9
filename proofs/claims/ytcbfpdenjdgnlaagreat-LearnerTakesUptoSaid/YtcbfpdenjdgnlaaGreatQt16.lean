/- Package pack: a reader of no octets. No claim of its own; no condition. -/
import Derived.Test.YtcbfpdenjdgnlaaGreatQt15
import Derived.Test.YtcbfpdenjdgnlaaGreatQt05
import Derived.Test.YtcbfpdenjdgnlaaGreatQt07
import Derived.Great.Walk
import Derived.Laws.ResultCell
namespace Go.Proofs.YtcbfpdenjdgnlaaGreat
open Go.ChangeShapes Go.WideShapes Go.ChangeAt Go.RowKit
set_option linter.unusedVariables false
set_option linter.unusedSimpArgs false
/-- A reader that has nothing left, and its error. -/
def Rd0 (w : World) (N : Nat) (e : Int) : Prop := w.heap[N]? = some (.cells #[.slice none 0 0, .int .i64 e, .bool true] 239 (0, 0))
/-- All blocks but N are as they were. -/
def Only (N : Nat) (w w' : World) : Prop := ∀ k, k < w.heap.size → k ≠ N → w'.heap[k]? = w.heap[k]?
theorem only_below {N : Nat} {a w w' : World} (h : Only N a w) (k : Below w.heap.size w w') (hz : a.heap.size ≤ w.heap.size) : Only N a w' := fun i hi hne => (k.block i (by omega)).trans (h i hi hne)
theorem rd0_below {w w' : World} {N : Nat} {e : Int} (h : Rd0 w N e) (k : Below w.heap.size w w') : Rd0 w' N e := block_below k h
theorem open_nil (w : World) : Calls Tryz.prog 118 #[.slice none 0 0] w fun e w' => (∃ b, e = .returned (.pointer (some ⟨b, 0, none⟩)) ∧ Rd0 w' b 0 ∧ w.heap.size ≤ b) ∧ Below w.heap.size w w' := by
  have hc := Lib.hid (clone8_calls [] none 0 0 w 0 rfl (by simp) (Kd.row_nil _ _ _ _ _))
  go_enter Tryz.func118, Tryz.ntmps118
  go_wp2_with (go_at_call 157; refine (hc.out).mono ?_; rintro x w1 ⟨⟨v1, rfl, own1, hv⟩, b1⟩; have hv' := hv.2 rfl; subst hv'; clear hv own1; have bz := Below.size b1; have a1 := alloc_new w1 (.cells #[.slice none 0 0, .int .i64 0, .bool true] 239); have q1 := bl_alloc b1 (.cells #[.slice none 0 0, .int .i64 0, .bool true] 239))
  go_ret
  exact ⟨⟨_, rfl, a1, bz⟩, q1⟩
theorem ready_rd (w : World) (N : Nat) (A : Option Addr) (n c : Nat) (e : Int) (h : w.heap[N]? = some (.cells #[.slice A n c, .int .i64 e, .bool true] 239 (0, 0))) :
    Calls Tryz.prog 187 #[.pointer (some ⟨N, 0, none⟩)] w fun x w' => x = .returned (.bool (e == 0)) ∧ w' = w := by
  have c1 : w.cell? ⟨N, 1, none⟩ = some (.int .i64 e) := block_cell h (i := 1) rfl
  have c2 : w.cell? ⟨N, 2, none⟩ = some (.bool true) := block_cell h (i := 2) rfl
  go_enter Tryz.func187, Tryz.ntmps187
  go_wp2
  go_ret
  exact ⟨rfl, rfl⟩
theorem err_rd (w : World) (N : Nat) (A : Option Addr) (n c : Nat) (e : Int) (h : w.heap[N]? = some (.cells #[.slice A n c, .int .i64 e, .bool true] 239 (0, 0))) :
    Calls Tryz.prog 120 #[.pointer (some ⟨N, 0, none⟩)] w fun x w' => x = .returned (.int .i64 e) ∧ w' = w := by
  have c1 : w.cell? ⟨N, 1, none⟩ = some (.int .i64 e) := block_cell h (i := 1) rfl
  have c2 : w.cell? ⟨N, 2, none⟩ = some (.bool true) := block_cell h (i := 2) rfl
  go_enter Tryz.func120, Tryz.ntmps120
  go_wp2
  go_ret
  exact ⟨rfl, rfl⟩
theorem stop_rd (w : World) (M N : Nat) (A : Option Addr) (n c : Nat) (e k : Int) (h : w.heap[N]? = some (.cells #[.slice A n c, .int .i64 e, .bool true] 239 (0, 0))) (hM : M ≤ N) :
    Calls Tryz.prog 236 #[.pointer (some ⟨N, 0, none⟩), .int .i64 k] w fun x w' => (∃ v, x = .returned v) ∧ Rd0 w' N k ∧ Below M w w' ∧ w'.heap.size = w.heap.size ∧ Only N w w' := by
  have c0 : w.cell? ⟨N, 0, none⟩ = some (.slice A n c) := block_cell h (i := 0) rfl
  have c1 : w.cell? ⟨N, 1, none⟩ = some (.int .i64 e) := block_cell h (i := 1) rfl
  have f0 : w.frozen? ⟨N, 0, none⟩ = false := block_free h
  have h1 := block_set (i := 0) (u := Value.slice none 0 0) h
  have h2 := block_set (i := 1) (u := Value.int .i64 k) h1
  have f1 : (w.setCell ⟨N, 0, none⟩ (.slice none 0 0)).frozen? ⟨N, 1, none⟩ = false := block_free h1
  have q : Below M w ((w.setCell ⟨N, 0, none⟩ (.slice none 0 0)).setCell ⟨N, 1, none⟩ (.int .i64 k)) := ((Below.refl M w).setCell (p := ⟨N, 0, none⟩) hM _).setCell (p := ⟨N, 1, none⟩) hM _
  go_enter Tryz.func236, Tryz.ntmps236
  go_wp2
  go_end0
  refine ⟨⟨_, rfl⟩, ?_, q, by simp, fun i _ hne => by rw [Below.heap_setCell _ ⟨N, 1, none⟩ _ i hne, Below.heap_setCell _ ⟨N, 0, none⟩ _ i hne]⟩
  unfold Rd0
  simpa using h2
theorem take_nil (w : World) (M N : Nat) (k : Int) (hk : 0 < k ∧ k ≤ 100000) (h : Rd0 w N 0) (hM : M ≤ N) :
    Calls Tryz.prog 235 #[.pointer (some ⟨N, 0, none⟩), .int .i64 k] w fun x w' => x = .returned (.slice none 0 0) ∧ Rd0 w' N 8 ∧ Below M w w' ∧ w'.heap.size = w.heap.size ∧ Only N w w' := by
  have hs := Lib.hid (stop_rd w M N none 0 0 0 8 h hM)
  have c0 : w.cell? ⟨N, 0, none⟩ = some (.slice none 0 0) := block_cell h (i := 0) rfl
  have hk1 : decide ((0:Int) < k) = true := by simpa using hk.1
  have hk2 := hk.1
  go_enter Tryz.func235, Tryz.ntmps235
  go_wp2_with (go_at_call 236; refine (hs.out).mono ?_; rintro x w1 ⟨⟨v1, rfl⟩, r1, b1, z1, o1⟩)
  go_ret
  exact ⟨rfl, r1, b1, z1, o1⟩
theorem num_nil (w : World) (M N : Nat) (k : Int) (h : Rd0 w N 0) (hM : M ≤ N) (hMw : M ≤ w.heap.size) :
    Calls Tryz.prog 181 #[.pointer (some ⟨N, 0, none⟩), .int .i64 k] w fun x w' => x = .returned (.int .i64 0) ∧ Rd0 w' N 8 ∧ Below M w w' ∧ Only N w w' := by
  have hr := Lib.hid (ready_rd w N none 0 0 0 h)
  have ht := Lib.hid (take_nil w M N 6 (by omega) h hM)
  have hg : ∀ W, Calls Tryz.prog 223 #[.slice none 0 0] W fun x w' => x = .returned (.int .i64 0) ∧ Below W.heap.size W w' := fun W => get_calls [] none 0 0 W 0 rfl (by simp) (Kd.row_nil _ _ _ _ _)
  have HG := Lib.hid hg
  clear hg
  go_enter Tryz.func181, Tryz.ntmps181
  go_wp2_with first | (go_at_call 187; refine (hr.out).mono ?_; rintro x w1 ⟨rfl, rfl⟩) | (go_at_call 235; refine (ht.out).mono ?_; rintro x w2 ⟨rfl, r2, b2, z2, o2⟩) | (go_at_call 223; refine (HG.out _).mono ?_; rintro x w3 ⟨rfl, b3⟩; have r3 := rd0_below r2 b3; have q3 := b2.trans (b3.mono (by omega)); have o3 := only_below o2 b3 (by omega); have c1 : w3.cell? ⟨N, 1, none⟩ = some (.int .i64 8) := block_cell r3 (i := 1) rfl)
  go_ret
  exact ⟨rfl, r3, q3, o3⟩
end Go.Proofs.YtcbfpdenjdgnlaaGreat
/- Package message: no octets are no message. No claim of its own; no condition. -/
namespace Go.Proofs.YtcbfpdenjdgnlaaGreat
open Go.ChangeShapes Go.WideShapes Go.ChangeAt Go.RowKit
set_option linter.unusedVariables false
set_option linter.unusedSimpArgs false
def msgC : Array Value := #[.int .i64 0, .int .i64 0, .int .i64 0, .string ⟨#[]⟩, .int .i64 0, .int .i64 0, .string ⟨#[]⟩, .slice none 0 0, .slice none 0 0, .string ⟨#[]⟩, .int .i64 0, .int .i64 0, .int .i64 0, .string ⟨#[]⟩, .int .i64 0, .int .i64 0, .string ⟨#[]⟩, .int .i64 0, .int .i64 0, .string ⟨#[]⟩, .slice none 0 0, .slice none 0 0, .string ⟨#[]⟩, .int .i64 0, .int .i64 0, .int .i64 0, .int .i64 0, .string ⟨#[]⟩]
theorem size79 : (Tryz.prog.info? 79).map (·.size) = some msgC.size := by kernel_rfl
theorem bl_setRow {M g : Nat} {a w : World} {cs : Array Value} (h : Below M a w) (hg : M ≤ g) : Below M a (w.setRow g cs) :=
  ⟨h.os, h.tape, h.output, by have := h.size; show _ ≤ (w.heap.modify g _).size; rw [Array.size_modify]; exact this, fun k hk => (setRow_far (by omega)).trans (h.block k hk)⟩
set_option maxHeartbeats 1600000 in
set_option maxRecDepth 100000 in
theorem mread_nil (w : World) (M N : Nat) (h : Rd0 w N 0) (hM : M ≤ N) (hMw : M ≤ w.heap.size) :
    Calls Tryz.prog 119 #[.pointer (some ⟨N, 0, none⟩)] w fun x w' => x = .returned (.agg msgC) ∧ Rd0 w' N 8 ∧ Below M w w' ∧ Only N w w' := by
  have hNs : N < w.heap.size := blk_lt h
  have q0 := bl_alloc (Below.refl w.heap.size w) (.cells msgC 79)
  have r0 := rd0_below h q0
  have z0 : (w.alloc (.cells msgC 79)).heap.size = w.heap.size + 1 := World.size_alloc _ _
  have hn := num_nil (w.alloc (.cells msgC 79)) M N 6 r0 hM (by omega)
  have HN := Lib.hid hn
  have HB0 := Lib.hid (alloc_new w (.cells msgC 79))
  have Q0 := Lib.hid q0
  have Z0 := Lib.hid z0
  clear hn h q0 r0 z0
  have HNE := Lib.hid (show w.heap.size ≠ N by omega)
  go_enter Tryz.func119, Tryz.ntmps119
  go_wp2_with first
    | (refine wpList_allocTo rfl _ rfl (.pointer (some ⟨_, 0, none⟩)) (.cells msgC 79) (by kernel_rfl) ?_)
    | (refine wpList_build rfl 79 _ rfl (.agg msgC) (by kernel_rfl) ?_)
    | (go_at_call 181; refine Calls.mono (HN.out) ?_; rintro x w1 ⟨rfl, r1, b1, o1⟩; have c0 : (w1.alloc (.cells msgC 79)).cell? ⟨w1.heap.size, 0, none⟩ = some (.int .i64 0) := block_cell (alloc_new w1 _) (i := 0) rfl; have t1 := (o1 w.heap.size (by rw [Z0.out]; omega) HNE.out).trans HB0.out)
    | (refine wpList_store_new msgC 79 _ rfl rfl 79 (.tmp 3) (.tmp 6) rfl rfl msgC rfl size79 rfl (by kernel_rfl) ?_)
    | (refine wpList_load_row rfl 79 (.tmp 3) rfl w1.heap.size rfl 79 msgC (0, 0) _ (alloc_new w1 _) Tryz.underlying79 rfl size79 ?_)
    | (refine wpList_store_row rfl 79 (.tmp 2) (.tmp 48) rfl w.heap.size rfl msgC rfl 79 msgC (alloc_old t1 _) size79 rfl (by kernel_rfl) ?_)
  refine bodyPost_ret (results_cell_row rfl _ _ w.heap.size 79 msgC (0, 0) _ rfl (setRow_same (alloc_old t1 _)) Tryz.underlying79 rfl size79) rfl ?_
  have n1 : (w1.alloc (.cells msgC 79)).heap[N]? = _ := alloc_old r1 _
  have hz := Z0.out
  have q1 : Below M w w1 := (Q0.out.mono hMw).trans b1
  have zz : M ≤ w1.heap.size := by have := q1.size; omega
  have q2 : Below M w (w1.alloc (.cells msgC 79)) := q1.alloc zz _
  refine ⟨rfl, (setRow_far (by omega)).trans n1, bl_setRow q2 hMw, fun i hi hne => ?_⟩
  rw [setRow_far (by omega)]
  have e1 := o1 i (by omega) hne
  rw [Below.heap_alloc w1 _ i (by have := b1.size; omega), e1]
  exact (Q0.out).block i hi
section
variable {P : Program}
theorem results_cell_row2 {fn : Func} {p u : Tmp} {ty : TypeId} (h : fn.results = #[.cell p ty, .tmp u]) (tmps : Array Value) (w : World) (g : Nat) (t : TypeId) (cs : Array Value) (fr : Nat × Nat) (d : TypeDesc)
    (hp : tmps.getD p undef = .pointer (some ⟨g, 0, none⟩)) (hg : w.heap[g]? = some (.cells cs t fr))
    (hu : P.underlying ty = some d) (hd : (match d with | .struct _ | .array _ _ => true | _ => false) = true) (hi : (P.info? ty).map (·.size) = some cs.size) :
    (results fn tmps).run P w = .ok (.tuple #[.agg cs, tmps.getD u undef]) w := by
  rw [results_cell_tmp h]
  rw [hp]
  simp [asAddr, run_loadVar_row w g t ty cs fr d hg hu hd hi]
end
set_option maxHeartbeats 1600000 in
set_option maxRecDepth 100000 in
theorem mRead_nil (w : World) : Calls Tryz.prog 59 #[.slice none 0 0] w fun x w' => x = .returned (.tuple #[.agg msgC, .int .i64 33]) ∧ Below w.heap.size w w' := by
  have q0 := bl_alloc (Below.refl w.heap.size w) (.cells msgC 79)
  have z0 : (w.alloc (.cells msgC 79)).heap.size = w.heap.size + 1 := World.size_alloc _ _
  have HO := Lib.hid (open_nil (w.alloc (.cells msgC 79)))
  have HB0 := Lib.hid (alloc_new w (.cells msgC 79))
  have Q0 := Lib.hid q0
  have Z0 := Lib.hid z0
  clear q0 z0
  go_enter Tryz.func59, Tryz.ntmps59
  go_wp2_with first
    | (refine wpList_allocTo rfl _ rfl (.pointer (some ⟨_, 0, none⟩)) (.cells msgC 79) (by kernel_rfl) ?_)
    | (refine wpList_build rfl 79 _ rfl (.agg msgC) (by kernel_rfl) ?_)
    | (go_at_call 118; refine Calls.mono (HO.out) ?_; rintro x w1 ⟨⟨N, rfl, r1, l1⟩, b1⟩)
    | (go_at_call 119; refine Calls.mono (mread_nil w1 w.heap.size N r1 (by have := Z0.out; omega) (by have := Z0.out; have := b1.size; omega)) ?_; rintro x w2 ⟨rfl, r2, b2, o2⟩; have e2 := err_rd _ N none 0 0 8 (alloc_old r2 (.cells msgC 79)); have E2 := Lib.hid e2; clear e2; have t2 := ((o2 w.heap.size (by have := Z0.out; have := b1.size; omega) (by have := Z0.out; omega)).trans (b1.block w.heap.size (by have := Z0.out; omega))).trans HB0.out)
    | (go_at_call 120; refine Calls.mono (E2.out) ?_; rintro x w3 ⟨rfl, rfl⟩)
    | (refine wpList_store_new msgC 79 _ rfl rfl 79 (.tmp 5) (.tmp 13) rfl rfl msgC rfl size79 rfl (by kernel_rfl) ?_)
    | (refine wpList_store_row rfl 79 (.tmp 2) (.tmp 27) rfl w.heap.size rfl msgC rfl 79 msgC (alloc_old t2 _) size79 rfl (by kernel_rfl) ?_)
  refine bodyPost_ret (results_cell_row2 rfl _ _ w.heap.size 79 msgC (0, 0) _ rfl (setRow_same (alloc_old t2 _)) Tryz.underlying79 rfl size79) rfl ?_
  have hz := Z0.out
  have q1 : Below w.heap.size w w2 := ((Q0.out).trans (b1.mono (by omega))).trans b2
  exact ⟨rfl, bl_setRow (bl_alloc q1 _) (Nat.le_refl _)⟩
theorem neq_map (W : World) (m : Option Nat) : (binOp .neq 106 (.map m) (.map none)).run Tryz.prog W = .ok (.bool m.isSome) W := by
  cases m <;> kernel_rfl
set_option maxRecDepth 100000 in
theorem lis_at (w : World) (N : Nat) (m : Option Nat) (hm : w.cell? ⟨N, 8, none⟩ = some (.map m)) : Calls Tryz.prog 58 #[.pointer (some ⟨N, 0, none⟩)] w fun x w' => x = .returned (.bool m.isSome) ∧ w' = w := by
  have hnm := neq_map w
  cases m with
  | none =>
    go_enter Tryz.func58, Tryz.ntmps58
    go_wp2
    go_ret
    exact ⟨rfl, rfl⟩
  | some a =>
    go_enter Tryz.func58, Tryz.ntmps58
    go_wp2
    go_ret
    exact ⟨rfl, rfl⟩
set_option maxHeartbeats 1600000 in
set_option maxRecDepth 100000 in
theorem lhear_nil (w : World) (N : Nat) (m : Nat) (hm : w.cell? ⟨N, 8, none⟩ = some (.map (some m))) : Calls Tryz.prog 24 #[.pointer (some ⟨N, 0, none⟩), .slice none 0 0] w fun x w' => x = .returned (.bool false) ∧ Below w.heap.size w w' := by
  have HI := Lib.hid (lis_at w N (some m) hm)
  have HR := Lib.hid (mRead_nil w)
  go_enter Tryz.func24, Tryz.ntmps24
  go_wp2_with first
    | (refine wpList_allocTo rfl _ rfl (.pointer (some ⟨_, 0, none⟩)) (.cells msgC 79) (by kernel_rfl) ?_)
    | (go_at_call 58; refine Calls.mono (HI.out) ?_; rintro x w1 ⟨rfl, rfl⟩)
    | (go_at_call 59; refine Calls.mono (HR.out) ?_; rintro x w2 ⟨rfl, b2⟩)
    | (refine wpList_store_new msgC 79 _ rfl rfl 79 (.tmp 5) (.tmp 15) rfl rfl msgC rfl size79 rfl (by kernel_rfl) ?_)
  go_ret
  exact ⟨rfl, bl_alloc b2 _⟩
end Go.Proofs.YtcbfpdenjdgnlaaGreat
