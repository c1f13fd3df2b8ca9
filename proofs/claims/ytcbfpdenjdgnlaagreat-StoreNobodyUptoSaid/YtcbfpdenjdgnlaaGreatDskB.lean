/- Package disk: Crash, Cut. No claim of its own; no condition. -/
import Derived.Test.YtcbfpdenjdgnlaaGreatDskA
import Derived.StillTailTactics
namespace Go.Proofs.YtcbfpdenjdgnlaaGreat
open Go.ChangeShapes Go.WideShapes Go.ChangeAt Go.RowKit
set_option linter.unusedVariables false
set_option linter.unusedSimpArgs false
def keptN (b : List UInt8) (sure : Nat) (keep : Int) : Nat := sure + min keep.toNat (b.length - sure)
set_option maxHeartbeats 1600000 in
set_option maxRecDepth 100000 in
theorem dcrash_calls (M N sure : Nat) (b : List UInt8) (room keep : Int) (w : World) (h : Dsk M w N b sure room) (hk : IntOk keep) :
    Calls Tryz.prog 98 #[.pointer (some ⟨N, 0, none⟩), .int .i64 keep] w fun x w' => (∃ v, x = .returned v) ∧ Dsk M w' N (b.take (keptN b sure keep)) (keptN b sure keep) room ∧ Dk M w w' := by
  have hMw := dsk_size h
  obtain ⟨h1, h2, h3, h4, v, h5, h6⟩ := h
  have c3 : w.cell? ⟨N, 3, none⟩ = some (.bool true) := block_cell h5 (i := 3) rfl
  obtain ⟨Av, cv, rfl, lc, mc, _, _⟩ := Kd.own_row h6
  have HI := Lib.hid (dis_at w N true c3)
  unfold IntOk at hk
  obtain ⟨T, hT⟩ : ∃ T, keep.toNat = T := ⟨_, rfl⟩
  have hm1 : (if keep < 0 then 0 else keep) = (T : Int) := by split <;> omega
  have hsb : (b.length : Int) - (sure : Int) = ((b.length - sure : Nat) : Int) := by omega
  have hsub : IntKind.i64.wrap ((b.length - sure : Nat) : Int) = ((b.length - sure : Nat) : Int) := IntWalk.i64_in _ (by omega)
  have hm2 : (if b.length - sure < T then ((b.length - sure : Nat) : Int) else (T : Int)) = ((min T (b.length - sure) : Nat) : Int) := by split <;> omega
  obtain ⟨J, hJ⟩ : ∃ J, min T (b.length - sure) = J := ⟨_, rfl⟩
  rw [hJ] at hm2
  obtain ⟨K, hK⟩ : ∃ K, keptN b sure keep = K := ⟨_, rfl⟩
  rw [hK]
  unfold keptN at hK
  rw [hT, hJ] at hK
  have hKl : K ≤ b.length := by omega
  have hKc : K ≤ cv := by omega
  have hsK : (sure : Int) + (J : Int) = (K : Int) := by omega
  have hadd : IntKind.i64.wrap (K : Int) = (K : Int) := IntWalk.i64_in _ (by omega)
  have H5 := Lib.hid h5
  have H6 := Lib.hid h6
  have HKK := Lib.hid hK
  have HTT := Lib.hid hT
  have HJJ := Lib.hid hJ
  have HSK := Lib.hid h2
  clear h5 h6 hK hT hJ
  go_enter Tryz.func98, Tryz.ntmps98
  go_upto_region 1 with (go_at_call 165; refine Calls.mono (HI.out) ?_; rintro x w1 ⟨rfl, rfl⟩)
  refine wp_region_still_tail 18 (by kernel_rfl) (by kernel_rfl) ?_
  change wpStill _ _ w1.drew (fun a' => wpList _ _ _ _ a' w1.drew) _ _
  have g5 : w1.drew.heap[N]? = _ := H5.out
  have g6 : Kd.u8.Own 5 M w1.drew M (.slice Av b.length cv) b := Kd.own_below H6.out (Below.refl _ _).drew
  have gd : Dk M w1 w1.drew := dk_below (Below.refl _ _).drew hMw
  have gz : w1.drew.heap.size = w1.heap.size := rfl
  clear c3
  generalize w1.drew = w2 at *
  have c0 := block_cell g5 (i := 0) rfl
  have c1 := block_cell g5 (i := 1) rfl
  have f1 : w2.frozen? ⟨N, 1, none⟩ = false := block_free g5
  simp only [List.take_succ_cons, List.take_zero, List.drop_succ_cons, List.drop_zero]
  repeat still_step
  try refine wpStill_nil ?_
  go_upto_region 2 with fail
  have ks : ∀ E, 220 ∉ E → Keeps M E w2 (w2.setCell ⟨N, 1, none⟩ (.int .i64 (K : Int))) := fun E hE => Keeps.set (p := ⟨N, 1, none⟩) g5 h1 hE _
  have gb : Below M w2 (w2.setCell ⟨N, 1, none⟩ (.int .i64 (K : Int))) := (Below.refl M w2).setCell (p := ⟨N, 1, none⟩) h1 _
  have n5 := block_set (i := 1) (u := .int .i64 (K : Int)) g5
  have n6 := Kd.own_keep g6 (ks _ (by simp [Kd.u8]))
  have nd : Dk M w1 (w2.setCell ⟨N, 1, none⟩ (.int .i64 (K : Int))) := dk_trans gd ⟨gb, fun E hE _ => ks E hE⟩
  clear ks gb g5 g6 gd c0 c1 f1
  generalize w2.setCell ⟨N, 1, none⟩ (.int .i64 (K : Int)) = w3 at *
  refine wp_region_still_tail 10 (by kernel_rfl) (by kernel_rfl) ?_
  change wpStill _ _ w3.drew (fun a' => wpList _ _ _ _ a' w3.drew) _ _
  have p5 : w3.drew.heap[N]? = some (.cells #[.slice Av b.length cv, .int .i64 (K : Int), .int .i64 room, .bool true] 220 (0, 0)) := (by simpa using n5 : w3.heap[N]? = some (.cells #[.slice Av b.length cv, .int .i64 (K : Int), .int .i64 room, .bool true] 220 (0, 0)))
  have p6 : Kd.u8.Own 5 M w3.drew M (.slice Av b.length cv) b := Kd.own_below n6 (Below.refl _ _).drew
  have pd : Dk M w1 w3.drew := dk_trans nd (dk_below (Below.refl _ _).drew (by have := nd.1.size; omega))
  clear n5 n6 nd
  generalize w3.drew = w4 at *
  have c0 := block_cell p5 (i := 0) rfl
  have c1 := block_cell p5 (i := 1) rfl
  have f0 : w4.frozen? ⟨N, 0, none⟩ = false := block_free p5
  simp only [List.take_succ_cons, List.take_zero, List.drop_succ_cons, List.drop_zero]
  repeat still_step
  try refine wpStill_nil ?_
  go_wp2_with fail
  go_end0
  have ks : ∀ E, 220 ∉ E → Keeps M E w4 (w4.setCell ⟨N, 0, none⟩ (.slice Av K cv)) := fun E hE => Keeps.set (p := ⟨N, 0, none⟩) p5 h1 hE _
  refine ⟨⟨_, rfl⟩, ⟨h1, by rw [List.length_take]; omega, by rw [List.length_take]; omega, h4, .slice Av K cv, ?_, Kd.own_keep (own_take p6 hKl) (ks _ (by simp [Kd.u8]))⟩, dk_trans pd ⟨(Below.refl M w4).setCell (p := ⟨N, 0, none⟩) h1 _, fun E hE _ => ks E hE⟩⟩
  have := block_set (i := 0) (u := .slice Av K cv) p5
  simpa using this
set_option maxHeartbeats 1600000 in
set_option maxRecDepth 100000 in
theorem dcut_calls (M N sure k : Nat) (b : List UInt8) (room : Int) (w : World) (h : Dsk M w N b sure room) (hk : k ≤ b.length) :
    Calls Tryz.prog 166 #[.pointer (some ⟨N, 0, none⟩), .int .i64 (k : Int)] w fun x w' => x = .returned (.int .i64 0) ∧ Dk M w w' := by
  have hMw := dsk_size h
  obtain ⟨h1, h2, h3, h4, v, h5, h6⟩ := h
  have c3 : w.cell? ⟨N, 3, none⟩ = some (.bool true) := block_cell h5 (i := 3) rfl
  have c0 := block_cell h5 (i := 0) rfl
  have c1 := block_cell h5 (i := 1) rfl
  have f0 : w.frozen? ⟨N, 0, none⟩ = false := block_free h5
  have f1 : w.frozen? ⟨N, 1, none⟩ = false := block_free h5
  obtain ⟨Av, cv, rfl, lc, mc, _, _⟩ := Kd.own_row h6
  have hkc : k ≤ cv := by omega
  have hgt : ¬ ((k : Int) > (b.length : Int)) := by omega
  have HI := Lib.hid (dis_at w N true c3)
  have n5 := block_set (i := 0) (u := .slice Av k k) h5
  have ks0 : ∀ E, 220 ∉ E → Keeps M E w (w.setCell ⟨N, 0, none⟩ (.slice Av k k)) := fun E hE => Keeps.set (p := ⟨N, 0, none⟩) h5 h1 hE _
  have ks1 : ∀ E, 220 ∉ E → Keeps M E (w.setCell ⟨N, 0, none⟩ (.slice Av k k)) ((w.setCell ⟨N, 0, none⟩ (.slice Av k k)).setCell ⟨N, 1, none⟩ (.int .i64 (k : Int))) := fun E hE => Keeps.set (p := ⟨N, 1, none⟩) n5 h1 hE _
  have q : Below M w ((w.setCell ⟨N, 0, none⟩ (.slice Av k k)).setCell ⟨N, 1, none⟩ (.int .i64 (k : Int))) := ((Below.refl M w).setCell (p := ⟨N, 0, none⟩) h1 _).setCell (p := ⟨N, 1, none⟩) h1 _
  have qd := Lib.hid (show Dk M w _ from ⟨q, fun E hE _ => (ks0 E hE).trans (ks1 E hE)⟩)
  clear h5 h6 n5 ks0 ks1 q
  go_enter Tryz.func166, Tryz.ntmps166
  go_wp2_with (go_at_call 165; refine Calls.mono (HI.out) ?_; rintro x w1 ⟨rfl, rfl⟩)
  go_ret
  exact ⟨rfl, qd.out⟩
end Go.Proofs.YtcbfpdenjdgnlaaGreat
