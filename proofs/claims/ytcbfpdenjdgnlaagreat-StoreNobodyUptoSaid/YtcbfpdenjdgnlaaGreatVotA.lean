/- Package vote: Check. No claim of its own; no condition. -/
import Derived.Test.YtcbfpdenjdgnlaaGreatSigB
import Derived.BigGuardPart
namespace Go.Proofs.YtcbfpdenjdgnlaaGreat
open Go.ChangeShapes Go.WideShapes Go.ChangeAt Go.RowKit
set_option linter.unusedVariables false
set_option linter.unusedSimpArgs false
/-- A vote's cells. -/
def vcs (v : Vote) : Array Value := #[.int .i64 v.kind, .int .i64 v.view, .int .i64 v.height, .string v.block, .int .i64 v.ticks, .int .i64 v.signer, .string v.sig]
theorem vcells {W : World} {g : Nat} {v : Vote} {t : TypeId} {f : Nat × Nat} (h : W.heap[g]? = some (.cells (vcs v) t f)) :
    W.cell? ⟨g, 0, none⟩ = some (.int .i64 v.kind) ∧ W.cell? ⟨g, 1, none⟩ = some (.int .i64 v.view) ∧ W.cell? ⟨g, 2, none⟩ = some (.int .i64 v.height) ∧ W.cell? ⟨g, 3, none⟩ = some (.string v.block) ∧
    W.cell? ⟨g, 4, none⟩ = some (.int .i64 v.ticks) ∧ W.cell? ⟨g, 5, none⟩ = some (.int .i64 v.signer) ∧ W.cell? ⟨g, 6, none⟩ = some (.string v.sig) :=
  ⟨block_cell h rfl, block_cell h rfl, block_cell h rfl, block_cell h rfl, block_cell h rfl, block_cell h rfl, block_cell h rfl⟩
def replicaB (n : Int) : Bool := decide (0 ≤ n) && decide (n < 7)
def tickedB (v : Vote) : Bool := if (v.kind == 3) = true then decide (1 ≤ v.ticks) && decide (v.ticks ≤ 1048576) else v.ticks == 0
def aboutB (v : Vote) : Bool := if (v.kind == 4) = true then (v.height == 0) && v.block.toList.isEmpty else decide (0 ≤ v.height) && decide (v.height ≤ 1048576) && ((v.block.size : Int) == 32)
theorem ret_bool {a b : Bool} (h : a = b) : Ending.returned (.bool a) = .returned (.bool b) := by rw [h]
theorem replica_calls (n : Int) (w : World) : Calls Tryz.prog 229 #[.int .i64 n] w fun e w' => e = .returned (.bool (replicaB n)) ∧ w = w' := by
  go_enter Tryz.func229, Tryz.ntmps229
  go_wp2
  all_goals (go_ret; exact ⟨ret_bool (by unfold replicaB; first | (simp [*]; done) | (simp; omega)), rfl⟩)
theorem ticked_calls (v : Vote) (w : World) : Calls Tryz.prog 228 #[.agg (vcs v)] w fun e w' => e = .returned (.bool (tickedB v)) ∧ Below w.heap.size w w' := by
  unfold vcs
  go_enter Tryz.func228, Tryz.ntmps228
  go_wp2
  all_goals (go_ret; exact ⟨ret_bool (by unfold tickedB; first | (simp [*]; done) | (simp [*]; omega)), bl_alloc (Below.refl _ _) _⟩)
theorem vabout_calls (v : Vote) (w : World) : Calls Tryz.prog 227 #[.agg (vcs v)] w fun e w' => e = .returned (.bool (aboutB v)) ∧ Below w.heap.size w w' := by
  unfold vcs
  go_enter Tryz.func227, Tryz.ntmps227
  go_wp2
  all_goals (go_ret; refine ⟨ret_bool ?_, bl_alloc (Below.refl _ _) _⟩)
  all_goals (unfold aboutB; first | (simp [*]; done) | (simp [*]; omega))
/-- Whether a vote may be. -/
def voteOk (v : Vote) : Bool := decide (1 ≤ v.kind) && (decide (v.kind ≤ 4) && (decide (0 ≤ v.view) && (decide (v.view ≤ 1048576) && (aboutB v && (tickedB v && (replicaB v.signer && decide (v.sig.size ≤ 4096)))))))
def chkV (v : Vote) : Int := if voteOk v = true then 0 else 9
set_option maxHeartbeats 1600000 in
set_option maxRecDepth 100000 in
theorem vcheck_calls (v : Vote) (w : World) : Calls Tryz.prog 170 #[.agg (vcs v)] w fun e w' => e = .returned (.int .i64 (chkV v)) ∧ Below w.heap.size w w' := by
  have ha := fun W => vabout_calls v W
  have ht := fun W => ticked_calls v W
  obtain ⟨ab, hab⟩ : ∃ b, aboutB v = b := ⟨_, rfl⟩
  obtain ⟨tb, htb⟩ : ∃ b, tickedB v = b := ⟨_, rfl⟩
  obtain ⟨rb, hrb⟩ : ∃ b, replicaB v.signer = b := ⟨_, rfl⟩
  have hr := fun W => replica_calls v.signer W
  have hc : chkV v = if (decide (1 ≤ v.kind) && (decide (v.kind ≤ 4) && (decide (0 ≤ v.view) && (decide (v.view ≤ 1048576) && (ab && (tb && (rb && decide (v.sig.size ≤ 4096)))))))) = true then 0 else 9 := by unfold chkV voteOk; rw [hab, htb, hrb]
  rw [hab] at ha
  rw [htb] at ht
  rw [hrb] at hr
  unfold vcs at *
  have HA := Lib.hid ha
  have HT := Lib.hid ht
  have HR := Lib.hid hr
  have HC := Lib.hid hc
  clear ha ht hr hc hab htb hrb
  have q0 := bl_alloc (Below.refl w.heap.size w) (.cells (vcs v) 52)
  have a0 : (w.alloc (.cells (vcs v) 52)).heap[w.heap.size]? = some (.cells (vcs v) 52 (0, 0)) := alloc_new w _
  go_enter Tryz.func170, Tryz.ntmps170
  go_upto_region 1 with fail
  change Code.wp _ _ _ _ (w.alloc (.cells (vcs v) 52))
  generalize w.alloc (.cells (vcs v) 52) = W at *
  obtain ⟨r0, r1, r2, r3, r4, r5, r6⟩ := vcells a0
  go_wp2_with (first
    | (go_at_call 227; refine (HA.out _).mono ?_; rintro e w1 ⟨rfl, b1⟩; have a1 := block_below b1 a0; obtain ⟨s0, s1, s2, s3, s4, s5, s6⟩ := vcells a1)
    | (go_at_call 228; refine (HT.out _).mono ?_; rintro e w2 ⟨rfl, b2⟩; have a2 := block_below b2 a1; obtain ⟨p0, p1, p2, p3, p4, p5, p6⟩ := vcells a2)
    | (go_at_call 229; refine (HR.out _).mono ?_; rintro e w3 ⟨rfl, rfl⟩))
  all_goals (go_ret; refine ⟨?_, ?_⟩)
  all_goals first
    | exact q0
    | exact bl_trans q0 b1
    | exact bl_trans (bl_trans q0 b1) b2
    | exact ret_int (a := 9) (by rw [HC.out]; first | (simp [*]; done) | (simp [*]; omega))
    | exact ret_int (a := 0) (by rw [HC.out]; first | (simp [*]; done) | (simp [*]; omega))
end Go.Proofs.YtcbfpdenjdgnlaaGreat
