/- Package latency: Pair, Within, Buckets; mootlaw41: plus, alive. No claim of its own; no condition. -/
import Derived.Test.YtflfpfaebndefabLat2
import Derived.Test.YtflfpfaebndefabGenesis
import Derived.OwnWalk
namespace Go.Proofs.Ytflfpfaebndefab
open Go.ChangeShapes Go.WideShapes Go.ChangeAt Go.RowKit
set_option linter.unusedVariables false
set_option linter.unusedSimpArgs false
theorem app3 (a b c : Value) : (#[a] ++ #[b, c] : Array Value) = #[a, b, c] := rfl
theorem pair_prem (f t : Int) (B1 B2 : Nat) (w1 W : World) (v : Value) (l : List Trace) (h1 : W.cell? ⟨B1, 0, none⟩ = some (.int .i64 f)) (h2 : W.cell? ⟨B2, 0, none⟩ = some (.int .i64 t)) (b1 : Below W.heap.size W w1) (own : kTrace.Own 47 W.heap.size w1 W.heap.size v l) :
    ∀ (x : Trace) (W' : World), w1.grownBy W' v.ownBlock → Calls Try.prog 45 (#[.agg #[.int .i64 x.frm, .int .i64 x.to, .int .i64 x.sent, .int .i64 x.got]] ++ #[.pointer (some ⟨B1, 0, none⟩), .pointer (some ⟨B2, 0, none⟩)]) W' fun e W'' => e = .returned (.bool ((fun x => !isPair f t x) x)) ∧ Below W'.heap.size W' W'' := by
  intro x W' hg
  have l1 := World.block_lt_of_cell? _ _ h1
  have l2 := World.block_lt_of_cell? _ _ h2
  simp only at l1 l2
  have k1 := hg.cell (cell_below b1 h1) (fun e => by have := (Kd.own_block own _ e.symm).1; simp only at this; omega)
  have k2 := hg.cell (cell_below b1 h2) (fun e => by have := (Kd.own_block own _ e.symm).1; simp only at this; omega)
  rw [app3]
  exact pair1_calls f t _ _ x W' k1 k2
def pairF (f t : Int) (l : List Trace) : Stat := ofF (l.filter (isPair f t))
set_option maxHeartbeats 1600000 in
set_option maxRecDepth 100000 in
theorem pair_calls (l : List Trace) (f t : Int) (A : Option Addr) (n c : Nat) (w : World) (B : Nat) (hn : n = l.length) (hl : l.length ≤ 1048576) (hr : kTrace.Row 47 B w A l) :
    Calls Try.prog 22 #[.slice A n c, .int .i64 f, .int .i64 t] w fun e w' => e = .returned (.agg (statC (pairF f t l))) ∧ Below w.heap.size w w' := by
  subst hn
  have q1 := bl_alloc (Below.refl w.heap.size w) (.cells #[.int .i64 f] 3)
  have q2 := bl_alloc q1 (.cells #[.int .i64 t] 3)
  have q3 := bl_alloc q2 (.cells #[.int .i64 0, .int .i64 0, .int .i64 0, .int .i64 0, .int .i64 0] 45)
  have a1 := alloc_old (alloc_old (alloc_new w (.cells #[.int .i64 f] 3)) (.cells #[.int .i64 t] 3)) (.cells #[.int .i64 0, .int .i64 0, .int .i64 0, .int .i64 0, .int .i64 0] 45)
  have a2 := alloc_old (alloc_new (w.alloc (.cells #[.int .i64 f] 3)) (.cells #[.int .i64 t] 3)) (.cells #[.int .i64 0, .int .i64 0, .int .i64 0, .int .i64 0, .int .i64 0] 45)
  have a3 := alloc_new ((w.alloc (.cells #[.int .i64 f] 3)).alloc (.cells #[.int .i64 t] 3)) (.cells #[.int .i64 0, .int .i64 0, .int .i64 0, .int .i64 0, .int .i64 0] 45)
  have s1 : (w.alloc (.cells #[.int .i64 f] 3)).heap.size = w.heap.size + 1 := by simp
  have s2 : ((w.alloc (.cells #[.int .i64 f] 3)).alloc (.cells #[.int .i64 t] 3)).heap.size = w.heap.size + 1 + 1 := by simp
  rw [s1] at a2
  rw [s2] at a3
  clear s1 s2 q1 q2
  have hpf : pairF f t l = ofF (l.filter fun x => isPair f t x) := rfl
  have HPF := Lib.hid hpf
  have hflen : (l.filter fun x => isPair f t x).length ≤ 1048576 := Nat.le_trans (List.length_filter_le _ _) hl
  clear hpf
  go_enter Try.func22, Try.ntmps22
  go_upto_region 1 with fail
  generalize ((w.alloc (.cells #[.int .i64 f] 3)).alloc (.cells #[.int .i64 t] 3)).alloc (.cells #[.int .i64 0, .int .i64 0, .int .i64 0, .int .i64 0, .int .i64 0] 45) = W at *
  have hltR := blk_lt a3
  have hlt2 := blk_lt a2
  have hlt1 := blk_lt a1
  go_wp2_with (first
    | (go_at_call 44; refine (clone_kTrace l A _ c _ _ rfl (by omega) (Kd.row_below q3 hr)).mono ?_; rintro e w1 ⟨⟨v, rfl, own, _⟩, b1⟩; have b1' := bl_trans q3 b1)
    | (go_at_call 43; have hprem := pair_prem f t w.heap.size (w.heap.size + 1) w1 W v l (block_cell a1 (i := 0) rfl) (block_cell a2 (i := 0) rfl) b1 own; refine (delete_kTrace l v _ _ _ 45 #[.pointer (some ⟨w.heap.size, 0, none⟩), .pointer (some ⟨w.heap.size + 1, 0, none⟩)] (fun x => !isPair f t x) (enters_of Try.func45 (by kernel_rfl) rfl) (by omega) own hprem).mono ?_; rintro e w3 ⟨⟨v3, rfl, own3⟩, g3⟩; have own3' : kTrace.Own 47 W.heap.size w3 W.heap.size v3 (l.filter fun x => isPair f t x) := (by simpa using own3); obtain ⟨A3, c3, rfl, _, _, row3, _⟩ := Kd.own_row own3'; have b3 := bl_grown b1 g3 (fun k h => (Kd.own_block own k h).1))
    | (go_at_call 21; refine (of_calls (l.filter fun x => isPair f t x) A3 _ c3 _ _ rfl hflen row3).mono ?_; rw [← HPF.out]; generalize hS : pairF f t l = S; have HS := Lib.hid hS; clear hS; unfold statC; rintro e w5 ⟨rfl, b5⟩; have b35 := bl_trans b3 b5; have hR := block_below b35 a3; have r0 := block_cell hR (i := 0) rfl; have r1 := block_cell hR (i := 1) rfl; have r2 := block_cell hR (i := 2) rfl; have r3 := block_cell hR (i := 3) rfl; have r4 := block_cell hR (i := 4) rfl; have f0 := frozen_of_row _ _ 0 _ 45 hR; have f1 := frozen_of_row _ _ 1 _ 45 hR; have f2 := frozen_of_row _ _ 2 _ 45 hR; have f3 := frozen_of_row _ _ 3 _ 45 hR; have f4 := frozen_of_row _ _ 4 _ 45 hR))
  refine bodyPost_ret (v := .agg #[.int .i64 S.sent, .int .i64 S.got, .int .i64 S.lost, .int .i64 S.most, .int .i64 S.sum]) (by simp [results, Try.results22, go_sem, r0, r1, r2, r3, r4]) rfl ⟨by first | rfl | (rw [HS.out]; rfl), ?_⟩
  have hq := bl_trans q3 b35
  have le : w.heap.size ≤ w.heap.size + 1 + 1 := by omega
  exact bl_set (bl_set (bl_set (bl_set (bl_set hq le _) le _) le _) le _) le _
end Go.Proofs.Ytflfpfaebndefab
