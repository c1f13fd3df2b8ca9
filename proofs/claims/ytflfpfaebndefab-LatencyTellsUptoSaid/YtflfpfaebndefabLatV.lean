/- Package mootlaw41: the walk of LatencyTells. No claim of its own; no condition. -/
import Derived.Test.YtflfpfaebndefabLatP
import Derived.Test.YtflfpfaebndefabLatQ
import Derived.Test.YtflfpfaebndefabLat3b
import Derived.Deep.RegionHeld3
namespace Go.Proofs.Ytflfpfaebndefab
open Go.ChangeShapes Go.WideShapes Go.ChangeAt Go.RowKit
set_option linter.unusedVariables false
set_option linter.unusedSimpArgs false
theorem pairF_step {f t : Int} {l : List Trace} {k : Nat} {x : Trace} (h : l[k]? = some x) : pairF f t (l.take (k + 1)) = if isPair f t x then ofStep (pairF f t (l.take k)) x else pairF f t (l.take k) := by
  unfold pairF
  rw [List.take_add_one, h, List.filter_append]
  cases hp : isPair f t x <;> simp [hp, ofF]
theorem pairF_ok (f t : Int) (l : List Trace) : StatOk l.length (pairF f t l) := (ofF_ok _).mono (List.length_filter_le _ _)
theorem oset {w : World} {b X j : Nat} {o : Obj} {u : Value} (h : w.heap[b]? = some o) (hne : b ≠ X) : (w.setCell ⟨X, j, none⟩ u).heap[b]? = some o := (Below.heap_setCell w ⟨X, j, none⟩ u b hne).trans h
theorem stat_put {W : World} {b : Nat} {S T : Stat} (h : W.heap[b]? = some (.cells (statC S) 45)) : (((((W.setCell ⟨b, 0, none⟩ (.int .i64 T.sent)).setCell ⟨b, 1, none⟩ (.int .i64 T.got)).setCell ⟨b, 2, none⟩ (.int .i64 T.lost)).setCell ⟨b, 3, none⟩ (.int .i64 T.most)).setCell ⟨b, 4, none⟩ (.int .i64 T.sum)).heap[b]? = some (.cells (statC T) 45) :=
  heap_setCell_same _ b 4 _ 45 _ (heap_setCell_same _ b 3 _ 45 _ (heap_setCell_same _ b 2 _ 45 _ (heap_setCell_same _ b 1 _ 45 _ (heap_setCell_same _ b 0 _ 45 _ h))))
theorem stat_keep {W : World} {a b : Nat} {B : Obj} (T : Stat) (h : W.heap[a]? = some B) (ne : a ≠ b) : (((((W.setCell ⟨b, 0, none⟩ (.int .i64 T.sent)).setCell ⟨b, 1, none⟩ (.int .i64 T.got)).setCell ⟨b, 2, none⟩ (.int .i64 T.lost)).setCell ⟨b, 3, none⟩ (.int .i64 T.most)).setCell ⟨b, 4, none⟩ (.int .i64 T.sum)).heap[a]? = some B :=
  oset (oset (oset (oset (oset h ne) ne) ne) ne) ne
theorem stat_bel {b : Nat} {U W : World} (T : Stat) (h : Below U.heap.size U W) (le : U.heap.size ≤ b) : Below U.heap.size U (((((W.setCell ⟨b, 0, none⟩ (.int .i64 T.sent)).setCell ⟨b, 1, none⟩ (.int .i64 T.got)).setCell ⟨b, 2, none⟩ (.int .i64 T.lost)).setCell ⟨b, 3, none⟩ (.int .i64 T.most)).setCell ⟨b, 4, none⟩ (.int .i64 T.sum)) :=
  bl_set (bl_set (bl_set (bl_set (bl_set h le _) le _) le _) le _) le _
/-- What a trace is, added to what was. -/
def oneF (x : Trace) : Stat := if gotB x then ⟨1, 1, 0, x.got - x.sent, x.got - x.sent⟩ else if x.got = -2 then ⟨1, 0, 1, 0, 0⟩ else ⟨1, 0, 0, 0, 0⟩
theorem oneF_ok (x : Trace) : StatOk 1 (oneF x) := by
  unfold oneF
  split
  · next h =>
    obtain ⟨h1, h2⟩ := gotB_iff.1 h
    exact ⟨by simp only; omega, by simp only; omega, by simp only; omega, by simp only; omega, by simp only; omega⟩
  · split <;> exact ⟨by decide, by decide, by decide, by decide, by decide⟩
theorem add_one {n : Nat} {S : Stat} (hS : StatOk n S) (x : Trace) : addF S x = ⟨S.sent + (oneF x).sent, S.got + (oneF x).got, S.lost + (oneF x).lost, max S.most (oneF x).most, S.sum + (oneF x).sum⟩ := by
  have h := hS.most
  unfold addF oneF
  split
  · simp
  · split
    · simp; omega
    · simp; omega
theorem plus_one (S : Stat) (x : Trace) (n : Nat) (hS : StatOk n S) (hn : n ≤ 1048576) (o1 o2 o3 o4 o5 : Int) (ho : oneF x = ⟨o1, o2, o3, o4, o5⟩) (w : World) :
    Calls Try.prog 20 #[.agg #[.int .i64 S.sent, .int .i64 S.got, .int .i64 S.lost, .int .i64 S.most, .int .i64 S.sum], .agg #[.int .i64 o1, .int .i64 o2, .int .i64 o3, .int .i64 o4, .int .i64 o5]] w fun e w' => e = .returned (.agg #[.int .i64 (addF S x).sent, .int .i64 (addF S x).got, .int .i64 (addF S x).lost, .int .i64 (addF S x).most, .int .i64 (addF S x).sum]) ∧ Below w.heap.size w w' := by
  have h := plus_calls S (oneF x) w n 1 hS (oneF_ok x) hn (by omega)
  rw [add_one hS x]
  rw [ho] at h ⊢
  exact h
theorem alive41_calls (w : World) : Calls Try.prog 26 #[] w fun e w' => e = .returned (.bool true) ∧ Below w.heap.size w w' := by
  have b0 := bl_alloc (Below.refl w.heap.size w) (.cells #[.int .i64 0, .int .i64 0, .int .i64 2, .int .i64 5] 47)
  have row : kTrace.Row 47 0 (w.alloc (.cells #[.int .i64 0, .int .i64 0, .int .i64 2, .int .i64 5] 47)) (some ⟨w.heap.size, 0, none⟩) [(⟨0, 0, 2, 5⟩ : Trace)] := Kd.row_fresh1 (kTrace_mk ⟨0, 0, 2, 5⟩ (by unfold IntOk; decide) (by unfold IntOk; decide) (by unfold IntOk; decide) (by unfold IntOk; decide))
  have h := of_calls [(⟨0, 0, 2, 5⟩ : Trace)] (some ⟨w.heap.size, 0, none⟩) 1 1 _ 0 rfl (by decide) row
  have e0 : ofF [(⟨0, 0, 2, 5⟩ : Trace)] = ⟨1, 1, 0, 3, 3⟩ := by decide
  have e : statC (ofF [(⟨0, 0, 2, 5⟩ : Trace)]) = #[.int .i64 1, .int .i64 1, .int .i64 0, .int .i64 3, .int .i64 3] := by rw [e0]; rfl
  rw [e] at h
  have he := fun w => eqlStat ⟨1, 1, 0, 3, 3⟩ ⟨1, 1, 0, 3, 3⟩ w
  simp only [decide_true] at he
  have H := Lib.hid h
  clear h e e0 row
  go_enter Try.func26, Try.ntmps26
  go_wp2_with (go_at_call 21; refine (H.out).mono ?_; rintro e w1 ⟨rfl, b1⟩)
  go_ret
  exact ⟨rfl, bl_alloc (bl_trans b0 b1) _⟩
/-- The relation of the loop. -/
def LRel (f t ticks : Int) (g10 g12 : Nat) (w : World) (L : List Trace) (nv : Value) (w' : World) : Prop :=
  nv = .int .i64 (withinF ticks L : Nat) ∧ w'.heap[w.heap.size]? = some (.cells (statC (ofF L)) 45) ∧ w'.heap[g10]? = some (.cells (statC (pairF f t L)) 45) ∧ w'.heap[g12]? = some (.cells (intCells (bkF L)).toArray 3 (0, 0)) ∧ Below w.heap.size w w'
set_option maxHeartbeats 20000000 in
set_option maxRecDepth 100000 in
theorem latencytells_walk (l : List Trace) (f t ticks : Int) (A : Option Addr) (c : Nat) (w : World) (hl : l.length ≤ 1048576) (hr : kTrace.Row 47 w.heap.size w A l) :
    Calls Try.prog 4 #[.slice A l.length c, .int .i64 f, .int .i64 t, .int .i64 ticks] w fun e w' => e = .returned (.bool true) ∧ Below w.heap.size w w' := by
  obtain ⟨i0, hi, hz0, hz1, hz2⟩ := info_parts infoI
  have q1 := bl_alloc (Below.refl w.heap.size w) (.cells #[.int .i64 0, .int .i64 0, .int .i64 0, .int .i64 0, .int .i64 0] 45)
  have q2 := bl_alloc q1 (.cells #[.int .i64 0, .int .i64 0, .int .i64 0, .int .i64 0, .int .i64 0] 45)
  have a1 := alloc_old (alloc_new w (.cells #[.int .i64 0, .int .i64 0, .int .i64 0, .int .i64 0, .int .i64 0] 45)) (.cells #[.int .i64 0, .int .i64 0, .int .i64 0, .int .i64 0, .int .i64 0] 45)
  have a2 := alloc_new (w.alloc (.cells #[.int .i64 0, .int .i64 0, .int .i64 0, .int .i64 0, .int .i64 0] 45)) (.cells #[.int .i64 0, .int .i64 0, .int .i64 0, .int .i64 0, .int .i64 0] 45)
  have s1 : (w.alloc (.cells #[.int .i64 0, .int .i64 0, .int .i64 0, .int .i64 0, .int .i64 0] 45)).heap.size = w.heap.size + 1 := by simp
  rw [s1] at a2
  clear s1 q1
  go_enter Try.func4, Try.ntmps4
  go_upto_region 2 with fail
  generalize (w.alloc (.cells #[.int .i64 0, .int .i64 0, .int .i64 0, .int .i64 0, .int .i64 0] 45)).alloc (.cells #[.int .i64 0, .int .i64 0, .int .i64 0, .int .i64 0, .int .i64 0] 45) = W at *
  have hlt2 := blk_lt a2
  have hlt1 : w.heap.size < W.heap.size := by omega
  go_wp2_with (at_make; refine wpList_make_full _ rfl _ _ 35 rfl W.heap.size 3 i0 _ 1 Try.underlying35 hi hz0 hz1 .i64 .i64 _ _ 8 rfl rfl rfl rfl (by rw [hz2]; omega) (by simp only [maxLen]; omega) (Nat.le_refl _) ?_; intro w0 own1 grw1; have hblk0 := (block_made own1).trans (show _ = some (Obj.cells (intCells [0, 0, 0, 0, 0, 0, 0, 0]).toArray 3 (0, 0)) by kernel_rfl); have b0 := bl_grown (Below.refl W.heap.size W) grw1 (fun k h => by cases h))
  have n910 : w.heap.size ≠ w.heap.size + 1 := by omega
  have n912 : w.heap.size ≠ W.heap.size := by omega
  have n1012 : w.heap.size + 1 ≠ W.heap.size := by omega
  have hG9 := block_below b0 a1
  have hG10 := block_below b0 a2
  have hq := bl_trans q2 b0
  clear own1 grw1 a1 a2 b0 hi hz0 hz1 hz2
  generalize hg12 : W.heap.size = g12 at *
  have HG12 := Lib.hid hg12
  clear hg12
  go_loopw [11, 13] (fun nv kv w' => ∃ k : Nat, k ≤ l.length ∧ kv = .int .i64 k ∧ LRel f t ticks (w.heap.size + 1) g12 w (l.take k) nv w') (fun _ kv _ => l.length - (intOf kv).toNat)
  case atStart => exact ⟨0, by omega, rfl, rfl, hG9, hG10, hblk0, hq⟩
  case round =>
    clear hG9 hG10 hblk0 hq
    obtain ⟨k, h1, rfl, hrl⟩ := hrel
    obtain ⟨rfl, hG9, hG10, hG12, bel⟩ := hrl
    by_cases h : k < l.length
    · obtain ⟨x, hx⟩ : ∃ x, l[k]? = some x := ⟨_, List.getElem?_eq_getElem h⟩
      obtain ⟨ad, rfl, e0, e1, e2, e3, _⟩ := kTrace_at (Kd.row_below bel hr) hx
      have hst := ofF_step hx
      have hpt := pairF_step (f := f) (t := t) hx
      have hwt := within_step (k := ticks) hx
      have hbt := bk_step hx
      have hokS := (ofF_ok (l.take k)).mono (show _ ≤ k by simp; omega)
      have hokP := (pairF_ok f t (l.take k)).mono (show _ ≤ k by simp; omega)
      have hokB := bkF_ok (l.take k)
      rw [List.length_take] at hokB
      have hwl := within_le ticks (l.take k)
      rw [List.length_take] at hwl
      generalize ofF (l.take k) = S at *
      generalize pairF f t (l.take k) = P at *
      generalize withinF ticks (l.take k) = N at *
      generalize bkF (l.take k) = K at *
      have bt := bl_alloc (Below.refl wr.heap.size wr) (.cells #[.int .i64 x.frm, .int .i64 x.to, .int .i64 x.sent, .int .i64 x.got] 47)
      have bb := alloc_new wr (.cells #[.int .i64 x.frm, .int .i64 x.to, .int .i64 x.sent, .int .i64 x.got] 47)
      have belt := bl_trans bel bt
      have lt9r := blk_lt hG9
      have lt12r := blk_lt hG12
      replace hG9 := block_below bt hG9
      replace hG10 := block_below bt hG10
      replace hG12 := block_below bt hG12
      have lt9 := blk_lt hG9
      have lt10 := blk_lt hG10
      have lt12 := blk_lt hG12
      clear hx
      by_cases hc : cntB x = true
      · have HC := Lib.hid hc
        have hs : ofF (l.take (k + 1)) = addF S x := by rw [hst]; exact if_pos hc
        have hp : pairF f t (l.take (k + 1)) = if isPair f t x then addF P x else P := by rw [hpt]; unfold ofStep; rw [if_pos hc]
        have HS := Lib.hid hs
        have HP := Lib.hid hp
        clear hst hpt hs hp hc
        go_upto_region 9 with (go_at_call 18; refine (counts18_calls x _).mono ?_; rw [HC.out]; rintro e w1 ⟨rfl, b1⟩)
        have belt1 := bl_trans belt b1
        replace hG9 := block_below b1 hG9
        replace hG10 := block_below b1 hG10
        replace hG12 := block_below b1 hG12
        have hbb := block_below b1 bb
        have a15 := alloc_new w1 (.cells #[.int .i64 1, .int .i64 0, .int .i64 0, .int .i64 0, .int .i64 0] 45)
        have b15 := bl_alloc (Below.refl w1.heap.size w1) (.cells #[.int .i64 1, .int .i64 0, .int .i64 0, .int .i64 0, .int .i64 0] 45)
        have lt91 := blk_lt hG9
        have n915 : w.heap.size ≠ w1.heap.size := by omega
        have n1015 : w.heap.size + 1 ≠ w1.heap.size := by have := blk_lt hG10; omega
        have n1215 : g12 ≠ w1.heap.size := by have := blk_lt hG12; omega
        have nb15 : wr.heap.size ≠ w1.heap.size := by have := blk_lt hbb; omega
        have nb9 : wr.heap.size ≠ w.heap.size := by omega
        have nb12 : wr.heap.size ≠ g12 := by omega
        have lt912 : w.heap.size ≤ g12 := by omega
        replace hG9 := block_below b15 hG9
        replace hG10 := block_below b15 hG10
        replace hG12 := block_below b15 hG12
        replace hbb := block_below b15 hbb
        have belt15 := bl_trans belt1 b15
        go_upto_region 10 with fail
        generalize w1.alloc (.cells #[.int .i64 1, .int .i64 0, .int .i64 0, .int .i64 0, .int .i64 0] 45) = V1 at *
        clear b1 bt belt belt1 b15 bb e0 e1 e2 e3
        have x0 := block_cell hbb (i := 0) rfl
        have x1 := block_cell hbb (i := 1) rfl
        have x2 := block_cell hbb (i := 2) rfl
        have x3 := block_cell hbb (i := 3) rfl
        by_cases hg : gotB x = true
        · obtain ⟨hg1, hg2⟩ := gotB_iff.1 hg
          have HG := Lib.hid hg
          have hone : oneF x = ⟨1, 1, 0, x.got - x.sent, x.got - x.sent⟩ := if_pos hg
          have HO := Lib.hid hone
          obtain ⟨a, ha⟩ : ∃ a, a = atF (x.got - x.sent).toNat := ⟨_, rfl⟩
          obtain ⟨v, hv⟩ : ∃ v, K[a]? = some v := ⟨_, List.getElem?_eq_getElem (by rw [hokB.len, ha]; have := atF_le (x.got - x.sent).toNat; omega)⟩
          have hvb := hokB.bd v (List.mem_of_getElem? hv)
          have hb2 : bkF (l.take (k + 1)) = K.set a (v + 1) := by
            rw [hbt]
            unfold bkStep
            rw [if_pos hg, ← ha]
            simp [List.getD, hv]
          have HB := Lib.hid hb2
          have HV := Lib.hid hv
          have HAT := Lib.hid ha
          have ha7 : a ≤ 7 := by rw [ha]; exact atF_le _
          clear hb2 hv ha hone hbt
          go_upto_region 11 with (go_at_call 19; refine (got19_calls x _).mono ?_; rw [HG.out]; rintro e w2 ⟨rfl, b2⟩)
          have y0 := block_cell (block_below b2 hbb) (i := 0) rfl
          have y1 := block_cell (block_below b2 hbb) (i := 1) rfl
          have y2 := block_cell (block_below b2 hbb) (i := 2) rfl
          have y3 := block_cell (block_below b2 hbb) (i := 3) rfl
          replace a15 := block_below b2 a15
          have z0 := block_cell a15 (i := 0) rfl
          have z1 := block_cell a15 (i := 1) rfl
          have z2 := block_cell a15 (i := 2) rfl
          have z3 := block_cell a15 (i := 3) rfl
          have z4 := block_cell a15 (i := 4) rfl
          have r0 := frozen_of_row _ w1.heap.size 0 _ 45 a15
          have r1 := frozen_of_row _ w1.heap.size 1 _ 45 a15
          have r2 := frozen_of_row _ w1.heap.size 2 _ 45 a15
          have r3 := frozen_of_row _ w1.heap.size 3 _ 45 a15
          have r4 := frozen_of_row _ w1.heap.size 4 _ 45 a15
          go_upto_region 13 with fail
          have hX : (((((w2.setCell ⟨w1.heap.size, 0, none⟩ (.int .i64 1)).setCell ⟨w1.heap.size, 1, none⟩ (.int .i64 1)).setCell ⟨w1.heap.size, 2, none⟩ (.int .i64 0)).setCell ⟨w1.heap.size, 3, none⟩ (.int .i64 (x.got - x.sent))).setCell ⟨w1.heap.size, 4, none⟩ (.int .i64 (x.got - x.sent))).heap[w1.heap.size]? = some (.cells #[.int .i64 1, .int .i64 1, .int .i64 0, .int .i64 (x.got - x.sent), .int .i64 (x.got - x.sent)] 45) :=
            heap_setCell_same _ w1.heap.size 4 _ 45 _ (heap_setCell_same _ w1.heap.size 3 _ 45 _ (heap_setCell_same _ w1.heap.size 2 _ 45 _ (heap_setCell_same _ w1.heap.size 1 _ 45 _ (heap_setCell_same _ w1.heap.size 0 _ 45 _ a15))))
          have h9 : (((((w2.setCell ⟨w1.heap.size, 0, none⟩ (.int .i64 1)).setCell ⟨w1.heap.size, 1, none⟩ (.int .i64 1)).setCell ⟨w1.heap.size, 2, none⟩ (.int .i64 0)).setCell ⟨w1.heap.size, 3, none⟩ (.int .i64 (x.got - x.sent))).setCell ⟨w1.heap.size, 4, none⟩ (.int .i64 (x.got - x.sent))).heap[w.heap.size]? = _ := oset (oset (oset (oset (oset (block_below b2 hG9) n915) n915) n915) n915) n915
          have h10 : (((((w2.setCell ⟨w1.heap.size, 0, none⟩ (.int .i64 1)).setCell ⟨w1.heap.size, 1, none⟩ (.int .i64 1)).setCell ⟨w1.heap.size, 2, none⟩ (.int .i64 0)).setCell ⟨w1.heap.size, 3, none⟩ (.int .i64 (x.got - x.sent))).setCell ⟨w1.heap.size, 4, none⟩ (.int .i64 (x.got - x.sent))).heap[w.heap.size + 1]? = _ := oset (oset (oset (oset (oset (block_below b2 hG10) n1015) n1015) n1015) n1015) n1015
          have h12 : (((((w2.setCell ⟨w1.heap.size, 0, none⟩ (.int .i64 1)).setCell ⟨w1.heap.size, 1, none⟩ (.int .i64 1)).setCell ⟨w1.heap.size, 2, none⟩ (.int .i64 0)).setCell ⟨w1.heap.size, 3, none⟩ (.int .i64 (x.got - x.sent))).setCell ⟨w1.heap.size, 4, none⟩ (.int .i64 (x.got - x.sent))).heap[g12]? = _ := oset (oset (oset (oset (oset (block_below b2 hG12) n1215) n1215) n1215) n1215) n1215
          have hbx : (((((w2.setCell ⟨w1.heap.size, 0, none⟩ (.int .i64 1)).setCell ⟨w1.heap.size, 1, none⟩ (.int .i64 1)).setCell ⟨w1.heap.size, 2, none⟩ (.int .i64 0)).setCell ⟨w1.heap.size, 3, none⟩ (.int .i64 (x.got - x.sent))).setCell ⟨w1.heap.size, 4, none⟩ (.int .i64 (x.got - x.sent))).heap[wr.heap.size]? = _ := oset (oset (oset (oset (oset (block_below b2 hbb) nb15) nb15) nb15) nb15) nb15
          have ltX : w.heap.size ≤ w1.heap.size := by omega
          have belx : Below w.heap.size w (((((w2.setCell ⟨w1.heap.size, 0, none⟩ (.int .i64 1)).setCell ⟨w1.heap.size, 1, none⟩ (.int .i64 1)).setCell ⟨w1.heap.size, 2, none⟩ (.int .i64 0)).setCell ⟨w1.heap.size, 3, none⟩ (.int .i64 (x.got - x.sent))).setCell ⟨w1.heap.size, 4, none⟩ (.int .i64 (x.got - x.sent))) := bl_set (bl_set (bl_set (bl_set (bl_set (bl_trans belt15 b2) ltX _) ltX _) ltX _) ltX _) ltX _
          clear y0 y1 y2 y3 z0 z1 z2 z3 z4 r0 r1 r2 r3 r4 a15 hG9 hG10 hG12 hbb
          generalize (((((w2.setCell ⟨w1.heap.size, 0, none⟩ (.int .i64 1)).setCell ⟨w1.heap.size, 1, none⟩ (.int .i64 1)).setCell ⟨w1.heap.size, 2, none⟩ (.int .i64 0)).setCell ⟨w1.heap.size, 3, none⟩ (.int .i64 (x.got - x.sent))).setCell ⟨w1.heap.size, 4, none⟩ (.int .i64 (x.got - x.sent))) = V2 at *
          have hcase : ∃ N', withinF ticks (l.take (k + 1)) = N' ∧ ((x.got - x.sent ≤ ticks ∧ N' = N + 1) ∨ (ticks < x.got - x.sent ∧ N' = N)) := by
            refine ⟨_, hwt, ?_⟩
            by_cases p : x.got - x.sent ≤ ticks
            · left; simp [inTicks, HG.out, p]
            · right; simp [inTicks, p]; omega
          obtain ⟨N', hN', hcc⟩ := hcase
          have HN := Lib.hid hN'
          clear hN' hwt
          rcases hcc with ⟨ht, hn⟩ | ⟨ht, hn⟩
          all_goals
            have HNN := Lib.hid hn
            clear hn
            go_wp2_with fail
            go_loop [17] (fun av => ∃ j : Nat, j ≤ a ∧ av = .int .i64 j) (fun av => 7 - (intOf av).toNat)
            case atStart => exact ⟨0, by omega, rfl⟩
            case round =>
              obtain ⟨j, hj, rfl⟩ := hrel
              by_cases hja : j < a
              · obtain ⟨hj7, hpw⟩ := at_go (n := (x.got - x.sent).toNat) (j := j) (by rw [← HAT.out]; exact hja)
                have hle : wrap64 ((2 : Int) ^ j) ≤ x.got - x.sent := by rw [wrap_pow hj7]; omega
                have hj7I : (j : Int) < 7 := by omega
                clear hpw
                go_wp2_with fail
                go_round
                case rel => exact ⟨j + 1, by omega, by go_num⟩
                case measure => simp [intOf]; omega
              · obtain rfl : j = a := by omega
                have c12 := intCells_at h12 HV.out
                have f12 := frozen_of_row V2 g12 j _ 3 h12
                have hj8I : (j : Int) < 8 := by omega
                have hset := set_blkL h12 j (.int .i64 (v + 1))
                rw [intCells_set, ← HB.out] at hset
                have h9s := oset (j := j) (u := .int .i64 (v + 1)) h9 n912
                have h10s := oset (j := j) (u := .int .i64 (v + 1)) h10 n1012
                have hXs := oset (j := j) (u := .int .i64 (v + 1)) hX n1215.symm
                have hbs := oset (j := j) (u := .int .i64 (v + 1)) hbx nb12
                have bels := bl_set belx (p := ⟨g12, j, none⟩) lt912 (.int .i64 (v + 1))
                clear h9 h10 h12 hX hbx belx
                by_cases h7 : j < 7
                · have hend := at_end (n := (x.got - x.sent).toNat) (by rw [← HAT.out]; exact h7)
                  rw [← HAT.out] at hend
                  have hlt : x.got - x.sent < wrap64 ((2 : Int) ^ j) := by rw [wrap_pow h7]; omega
                  have hd : decide (wrap64 ((2 : Int) ^ j) ≤ x.got - x.sent) = false := by simp; omega
                  have hj7I : (j : Int) < 7 := by omega
                  clear hend hlt h7
                  go_upto_region 21 with fail
                  generalize V2.setCell ⟨g12, j, none⟩ (.int .i64 (v + 1)) = V3 at *
                  have s0 : _ = some (Value.int .i64 S.sent) := block_cell h9s (i := 0) rfl
                  have s1 : _ = some (Value.int .i64 S.got) := block_cell h9s (i := 1) rfl
                  have s2 : _ = some (Value.int .i64 S.lost) := block_cell h9s (i := 2) rfl
                  have s3 : _ = some (Value.int .i64 S.most) := block_cell h9s (i := 3) rfl
                  have s4 : _ = some (Value.int .i64 S.sum) := block_cell h9s (i := 4) rfl
                  have o0 := block_cell hXs (i := 0) rfl
                  have o1 := block_cell hXs (i := 1) rfl
                  have o2 := block_cell hXs (i := 2) rfl
                  have o3 := block_cell hXs (i := 3) rfl
                  have o4 := block_cell hXs (i := 4) rfl
                  go_upto_region 22 with (go_at_call 20; with_reducible refine (plus_one S x k hokS (by omega) _ _ _ _ _ HO.out _).mono ?_; rintro e w4 ⟨rfl, b4⟩; have k9 := block_below b4 h9s; have t0 := block_cell k9 (i := 0) rfl; have t1 := block_cell k9 (i := 1) rfl; have t2 := block_cell k9 (i := 2) rfl; have t3 := block_cell k9 (i := 3) rfl; have t4 := block_cell k9 (i := 4) rfl; have u0 := frozen_of_row _ _ 0 _ 45 k9; have u1 := frozen_of_row _ _ 1 _ 45 k9; have u2 := frozen_of_row _ _ 2 _ 45 k9; have u3 := frozen_of_row _ _ 3 _ 45 k9; have u4 := frozen_of_row _ _ 4 _ 45 k9)
                  have m9 := stat_put (T := addF S x) k9
                  have m10 := stat_keep (addF S x) (block_below b4 h10s) n910.symm
                  have m12 := stat_keep (addF S x) (block_below b4 hset) n912.symm
                  have mX := stat_keep (addF S x) (block_below b4 hXs) n915.symm
                  have mb := stat_keep (addF S x) (block_below b4 hbs) nb9
                  have belm := stat_bel (addF S x) (bl_trans bels b4) (Nat.le_refl _)
                  clear s0 s1 s2 s3 s4 o0 o1 o2 o3 o4 t0 t1 t2 t3 t4 u0 u1 u2 u3 u4 k9 h9s h10s hset hXs hbs bels
                  generalize (((((w4.setCell ⟨w.heap.size, 0, none⟩ (.int .i64 (addF S x).sent)).setCell ⟨w.heap.size, 1, none⟩ (.int .i64 (addF S x).got)).setCell ⟨w.heap.size, 2, none⟩ (.int .i64 (addF S x).lost)).setCell ⟨w.heap.size, 3, none⟩ (.int .i64 (addF S x).most)).setCell ⟨w.heap.size, 4, none⟩ (.int .i64 (addF S x).sum)) = V4 at *
                  have x0 := block_cell mb (i := 0) rfl
                  have x1 := block_cell mb (i := 1) rfl
                  have fin : ∀ (V : World) (P' : Stat) (nv : Value), nv = .int .i64 (N' : Nat) → pairF f t (l.take (k + 1)) = P' → V.heap[w.heap.size]? = some (.cells (statC (addF S x)) 45) → V.heap[w.heap.size + 1]? = some (.cells (statC P') 45) → V.heap[g12]? = some (.cells (intCells (bkF (l.take (k + 1)))).toArray 3 (0, 0)) → Below w.heap.size w V →
                      ∃ k' : Nat, k' ≤ l.length ∧ Value.int .i64 ((k : Int) + 1) = .int .i64 k' ∧ LRel f t ticks (w.heap.size + 1) g12 w (l.take k') nv V :=
                    fun V P' nv p0 p1 p2 p3 p4 p5 => ⟨k + 1, by omega, by go_num, by rw [HN.out]; exact p0, by rw [HS.out]; exact p2, by rw [p1]; exact p3, p4, p5⟩
                  have FIN := Lib.hid fin
                  clear fin
                  by_cases pf : x.frm = f
                  · have d1 : (x.frm == f) = true := by simp [pf]
                    by_cases pt : x.to = t
                    · have d2 : (x.to == t) = true := by simp [pt]
                      have hpp : pairF f t (l.take (k + 1)) = addF P x := by rw [HP.out, if_pos (by simp [isPair, pf, pt])]
                      have HPP := Lib.hid hpp
                      clear hpp pf pt
                      have p0 : _ = some (Value.int .i64 P.sent) := block_cell m10 (i := 0) rfl
                      have p1 : _ = some (Value.int .i64 P.got) := block_cell m10 (i := 1) rfl
                      have p2 : _ = some (Value.int .i64 P.lost) := block_cell m10 (i := 2) rfl
                      have p3 : _ = some (Value.int .i64 P.most) := block_cell m10 (i := 3) rfl
                      have p4 : _ = some (Value.int .i64 P.sum) := block_cell m10 (i := 4) rfl
                      have o0 := block_cell mX (i := 0) rfl
                      have o1 := block_cell mX (i := 1) rfl
                      have o2 := block_cell mX (i := 2) rfl
                      have o3 := block_cell mX (i := 3) rfl
                      have o4 := block_cell mX (i := 4) rfl
                      go_wp2_with (go_at_call 20; with_reducible refine (plus_one P x k hokP (by omega) _ _ _ _ _ HO.out _).mono ?_; rintro e w6 ⟨rfl, b6⟩; have k10 := block_below b6 m10; have t0 := block_cell k10 (i := 0) rfl; have t1 := block_cell k10 (i := 1) rfl; have t2 := block_cell k10 (i := 2) rfl; have t3 := block_cell k10 (i := 3) rfl; have t4 := block_cell k10 (i := 4) rfl; have u0 := frozen_of_row _ _ 0 _ 45 k10; have u1 := frozen_of_row _ _ 1 _ 45 k10; have u2 := frozen_of_row _ _ 2 _ 45 k10; have u3 := frozen_of_row _ _ 3 _ 45 k10; have u4 := frozen_of_row _ _ 4 _ 45 k10)
                      go_roundw
                      case rel =>
                        refine FIN.out _ (addF P x) _ (by first | rfl | (have hh := HNN.out; refine congrArg (Value.int .i64) ?_; omega)) HPP.out ?_ ?_ ?_ ?_
                        · exact stat_keep (addF P x) (block_below b6 m9) n910
                        · exact stat_put (T := addF P x) k10
                        · exact stat_keep (addF P x) (block_below b6 m12) n1012.symm
                        · exact stat_bel (addF P x) (bl_trans belm b6) (Nat.le_add_right _ 1)
                      case measure => simp [intOf]; omega
                    · have d2 : (x.to == t) = false := by simp [pt]
                      have hpp : pairF f t (l.take (k + 1)) = P := by rw [HP.out, if_neg (by simp [isPair, pt])]
                      have HPP := Lib.hid hpp
                      clear hpp pf pt
                      go_wp2_with fail
                      go_roundw
                      case rel => exact FIN.out _ P _ (by first | rfl | (have hh := HNN.out; refine congrArg (Value.int .i64) ?_; omega)) HPP.out m9 m10 m12 belm
                      case measure => simp [intOf]; omega
                  · have d1 : (x.frm == f) = false := by simp [pf]
                    have hpp : pairF f t (l.take (k + 1)) = P := by rw [HP.out, if_neg (by simp [isPair, pf])]
                    have HPP := Lib.hid hpp
                    clear hpp pf
                    go_wp2_with fail
                    go_roundw
                    case rel => exact FIN.out _ P _ (by first | rfl | (have hh := HNN.out; refine congrArg (Value.int .i64) ?_; omega)) HPP.out m9 m10 m12 belm
                    case measure => simp [intOf]; omega
                · have hj7I : ¬ ((j : Int) < 7) := by omega
                  go_upto_region 21 with fail
                  generalize V2.setCell ⟨g12, j, none⟩ (.int .i64 (v + 1)) = V3 at *
                  have s0 : _ = some (Value.int .i64 S.sent) := block_cell h9s (i := 0) rfl
                  have s1 : _ = some (Value.int .i64 S.got) := block_cell h9s (i := 1) rfl
                  have s2 : _ = some (Value.int .i64 S.lost) := block_cell h9s (i := 2) rfl
                  have s3 : _ = some (Value.int .i64 S.most) := block_cell h9s (i := 3) rfl
                  have s4 : _ = some (Value.int .i64 S.sum) := block_cell h9s (i := 4) rfl
                  have o0 := block_cell hXs (i := 0) rfl
                  have o1 := block_cell hXs (i := 1) rfl
                  have o2 := block_cell hXs (i := 2) rfl
                  have o3 := block_cell hXs (i := 3) rfl
                  have o4 := block_cell hXs (i := 4) rfl
                  go_upto_region 22 with (go_at_call 20; with_reducible refine (plus_one S x k hokS (by omega) _ _ _ _ _ HO.out _).mono ?_; rintro e w4 ⟨rfl, b4⟩; have k9 := block_below b4 h9s; have t0 := block_cell k9 (i := 0) rfl; have t1 := block_cell k9 (i := 1) rfl; have t2 := block_cell k9 (i := 2) rfl; have t3 := block_cell k9 (i := 3) rfl; have t4 := block_cell k9 (i := 4) rfl; have u0 := frozen_of_row _ _ 0 _ 45 k9; have u1 := frozen_of_row _ _ 1 _ 45 k9; have u2 := frozen_of_row _ _ 2 _ 45 k9; have u3 := frozen_of_row _ _ 3 _ 45 k9; have u4 := frozen_of_row _ _ 4 _ 45 k9)
                  have m9 := stat_put (T := addF S x) k9
                  have m10 := stat_keep (addF S x) (block_below b4 h10s) n910.symm
                  have m12 := stat_keep (addF S x) (block_below b4 hset) n912.symm
                  have mX := stat_keep (addF S x) (block_below b4 hXs) n915.symm
                  have mb := stat_keep (addF S x) (block_below b4 hbs) nb9
                  have belm := stat_bel (addF S x) (bl_trans bels b4) (Nat.le_refl _)
                  clear s0 s1 s2 s3 s4 o0 o1 o2 o3 o4 t0 t1 t2 t3 t4 u0 u1 u2 u3 u4 k9 h9s h10s hset hXs hbs bels
                  generalize (((((w4.setCell ⟨w.heap.size, 0, none⟩ (.int .i64 (addF S x).sent)).setCell ⟨w.heap.size, 1, none⟩ (.int .i64 (addF S x).got)).setCell ⟨w.heap.size, 2, none⟩ (.int .i64 (addF S x).lost)).setCell ⟨w.heap.size, 3, none⟩ (.int .i64 (addF S x).most)).setCell ⟨w.heap.size, 4, none⟩ (.int .i64 (addF S x).sum)) = V4 at *
                  have x0 := block_cell mb (i := 0) rfl
                  have x1 := block_cell mb (i := 1) rfl
                  have fin : ∀ (V : World) (P' : Stat) (nv : Value), nv = .int .i64 (N' : Nat) → pairF f t (l.take (k + 1)) = P' → V.heap[w.heap.size]? = some (.cells (statC (addF S x)) 45) → V.heap[w.heap.size + 1]? = some (.cells (statC P') 45) → V.heap[g12]? = some (.cells (intCells (bkF (l.take (k + 1)))).toArray 3 (0, 0)) → Below w.heap.size w V →
                      ∃ k' : Nat, k' ≤ l.length ∧ Value.int .i64 ((k : Int) + 1) = .int .i64 k' ∧ LRel f t ticks (w.heap.size + 1) g12 w (l.take k') nv V :=
                    fun V P' nv p0 p1 p2 p3 p4 p5 => ⟨k + 1, by omega, by go_num, by rw [HN.out]; exact p0, by rw [HS.out]; exact p2, by rw [p1]; exact p3, p4, p5⟩
                  have FIN := Lib.hid fin
                  clear fin
                  by_cases pf : x.frm = f
                  · have d1 : (x.frm == f) = true := by simp [pf]
                    by_cases pt : x.to = t
                    · have d2 : (x.to == t) = true := by simp [pt]
                      have hpp : pairF f t (l.take (k + 1)) = addF P x := by rw [HP.out, if_pos (by simp [isPair, pf, pt])]
                      have HPP := Lib.hid hpp
                      clear hpp pf pt
                      have p0 : _ = some (Value.int .i64 P.sent) := block_cell m10 (i := 0) rfl
                      have p1 : _ = some (Value.int .i64 P.got) := block_cell m10 (i := 1) rfl
                      have p2 : _ = some (Value.int .i64 P.lost) := block_cell m10 (i := 2) rfl
                      have p3 : _ = some (Value.int .i64 P.most) := block_cell m10 (i := 3) rfl
                      have p4 : _ = some (Value.int .i64 P.sum) := block_cell m10 (i := 4) rfl
                      have o0 := block_cell mX (i := 0) rfl
                      have o1 := block_cell mX (i := 1) rfl
                      have o2 := block_cell mX (i := 2) rfl
                      have o3 := block_cell mX (i := 3) rfl
                      have o4 := block_cell mX (i := 4) rfl
                      go_wp2_with (go_at_call 20; with_reducible refine (plus_one P x k hokP (by omega) _ _ _ _ _ HO.out _).mono ?_; rintro e w6 ⟨rfl, b6⟩; have k10 := block_below b6 m10; have t0 := block_cell k10 (i := 0) rfl; have t1 := block_cell k10 (i := 1) rfl; have t2 := block_cell k10 (i := 2) rfl; have t3 := block_cell k10 (i := 3) rfl; have t4 := block_cell k10 (i := 4) rfl; have u0 := frozen_of_row _ _ 0 _ 45 k10; have u1 := frozen_of_row _ _ 1 _ 45 k10; have u2 := frozen_of_row _ _ 2 _ 45 k10; have u3 := frozen_of_row _ _ 3 _ 45 k10; have u4 := frozen_of_row _ _ 4 _ 45 k10)
                      go_roundw
                      case rel =>
                        refine FIN.out _ (addF P x) _ (by first | rfl | (have hh := HNN.out; refine congrArg (Value.int .i64) ?_; omega)) HPP.out ?_ ?_ ?_ ?_
                        · exact stat_keep (addF P x) (block_below b6 m9) n910
                        · exact stat_put (T := addF P x) k10
                        · exact stat_keep (addF P x) (block_below b6 m12) n1012.symm
                        · exact stat_bel (addF P x) (bl_trans belm b6) (Nat.le_add_right _ 1)
                      case measure => simp [intOf]; omega
                    · have d2 : (x.to == t) = false := by simp [pt]
                      have hpp : pairF f t (l.take (k + 1)) = P := by rw [HP.out, if_neg (by simp [isPair, pt])]
                      have HPP := Lib.hid hpp
                      clear hpp pf pt
                      go_wp2_with fail
                      go_roundw
                      case rel => exact FIN.out _ P _ (by first | rfl | (have hh := HNN.out; refine congrArg (Value.int .i64) ?_; omega)) HPP.out m9 m10 m12 belm
                      case measure => simp [intOf]; omega
                  · have d1 : (x.frm == f) = false := by simp [pf]
                    have hpp : pairF f t (l.take (k + 1)) = P := by rw [HP.out, if_neg (by simp [isPair, pf])]
                    have HPP := Lib.hid hpp
                    clear hpp pf
                    go_wp2_with fail
                    go_roundw
                    case rel => exact FIN.out _ P _ (by first | rfl | (have hh := HNN.out; refine congrArg (Value.int .i64) ?_; omega)) HPP.out m9 m10 m12 belm
                    case measure => simp [intOf]; omega
        · have hg' : gotB x = false := by simpa using hg
          have HG := Lib.hid hg'
          have hN0 : withinF ticks (l.take (k + 1)) = N := by rw [hwt]; simp [inTicks, hg']
          have HN := Lib.hid hN0
          have hn0 : N = N := rfl
          have HNN := Lib.hid hn0
          have hb2 : bkF (l.take (k + 1)) = K := by rw [hbt]; unfold bkStep; rw [if_neg (by rw [hg']; decide)]
          have HB := Lib.hid hb2
          have ltX : w.heap.size ≤ w1.heap.size := by omega
          by_cases hl : x.got = -2
          · have dl : (x.got == -2) = true := by simp [hl]
            have hone : oneF x = ⟨1, 0, 1, 0, 0⟩ := by unfold oneF; rw [if_neg (by rw [hg']; decide), if_pos hl]
            have HO := Lib.hid hone
            clear hg hg' hN0 hn0 hb2 hone hbt hwt hl
            go_upto_region 22 with (first | (go_at_call 19; refine (got19_calls x _).mono ?_; rw [HG.out]; rintro e w2 ⟨rfl, b2⟩; have y3 := block_cell (block_below b2 hbb) (i := 3) rfl; have z2 := block_cell (block_below b2 a15) (i := 2) rfl; have r2 := frozen_of_row _ w1.heap.size 2 _ 45 (block_below b2 a15); have hXs : (w2.setCell ⟨w1.heap.size, 2, none⟩ (.int .i64 1)).heap[w1.heap.size]? = some (.cells #[.int .i64 1, .int .i64 0, .int .i64 1, .int .i64 0, .int .i64 0] 45) := heap_setCell_same _ w1.heap.size 2 _ 45 _ (block_below b2 a15); have h9s : (w2.setCell ⟨w1.heap.size, 2, none⟩ (.int .i64 1)).heap[w.heap.size]? = _ := oset (j := 2) (u := .int .i64 1) (block_below b2 hG9) n915; have h10s : (w2.setCell ⟨w1.heap.size, 2, none⟩ (.int .i64 1)).heap[w.heap.size + 1]? = _ := oset (j := 2) (u := .int .i64 1) (block_below b2 hG10) n1015; have hset : (w2.setCell ⟨w1.heap.size, 2, none⟩ (.int .i64 1)).heap[g12]? = _ := oset (j := 2) (u := .int .i64 1) (block_below b2 hG12) n1215; have hbs : (w2.setCell ⟨w1.heap.size, 2, none⟩ (.int .i64 1)).heap[wr.heap.size]? = _ := oset (j := 2) (u := .int .i64 1) (block_below b2 hbb) nb15; have bels : Below w.heap.size w (w2.setCell ⟨w1.heap.size, 2, none⟩ (.int .i64 1)) := bl_set (bl_trans belt15 b2) ltX _; have s0 : _ = some (Value.int .i64 S.sent) := block_cell h9s (i := 0) rfl; have s1 : _ = some (Value.int .i64 S.got) := block_cell h9s (i := 1) rfl; have s2 : _ = some (Value.int .i64 S.lost) := block_cell h9s (i := 2) rfl; have s3 : _ = some (Value.int .i64 S.most) := block_cell h9s (i := 3) rfl; have s4 : _ = some (Value.int .i64 S.sum) := block_cell h9s (i := 4) rfl; have o0 : _ = some (Value.int .i64 1) := block_cell hXs (i := 0) rfl; have o1 : _ = some (Value.int .i64 0) := block_cell hXs (i := 1) rfl; have o2 : _ = some (Value.int .i64 1) := block_cell hXs (i := 2) rfl; have o3 : _ = some (Value.int .i64 0) := block_cell hXs (i := 3) rfl; have o4 : _ = some (Value.int .i64 0) := block_cell hXs (i := 4) rfl) | (go_at_call 20; with_reducible refine (plus_one S x k hokS (by omega) _ _ _ _ _ HO.out _).mono ?_; rintro e w4 ⟨rfl, b4⟩; have k9 := block_below b4 h9s; have t0 := block_cell k9 (i := 0) rfl; have t1 := block_cell k9 (i := 1) rfl; have t2 := block_cell k9 (i := 2) rfl; have t3 := block_cell k9 (i := 3) rfl; have t4 := block_cell k9 (i := 4) rfl; have u0 := frozen_of_row _ _ 0 _ 45 k9; have u1 := frozen_of_row _ _ 1 _ 45 k9; have u2 := frozen_of_row _ _ 2 _ 45 k9; have u3 := frozen_of_row _ _ 3 _ 45 k9; have u4 := frozen_of_row _ _ 4 _ 45 k9))
            rw [← HB.out] at hset
            clear y3 z2 r2 a15 hG9 hG10 hG12 hbb x0 x1 x2 x3
            have m9 := stat_put (T := addF S x) k9
            have m10 := stat_keep (addF S x) (block_below b4 h10s) n910.symm
            have m12 := stat_keep (addF S x) (block_below b4 hset) n912.symm
            have mX := stat_keep (addF S x) (block_below b4 hXs) n915.symm
            have mb := stat_keep (addF S x) (block_below b4 hbs) nb9
            have belm := stat_bel (addF S x) (bl_trans bels b4) (Nat.le_refl _)
            clear s0 s1 s2 s3 s4 o0 o1 o2 o3 o4 t0 t1 t2 t3 t4 u0 u1 u2 u3 u4 k9 h9s h10s hset hXs hbs bels
            generalize (((((w4.setCell ⟨w.heap.size, 0, none⟩ (.int .i64 (addF S x).sent)).setCell ⟨w.heap.size, 1, none⟩ (.int .i64 (addF S x).got)).setCell ⟨w.heap.size, 2, none⟩ (.int .i64 (addF S x).lost)).setCell ⟨w.heap.size, 3, none⟩ (.int .i64 (addF S x).most)).setCell ⟨w.heap.size, 4, none⟩ (.int .i64 (addF S x).sum)) = V4 at *
            have x0 := block_cell mb (i := 0) rfl
            have x1 := block_cell mb (i := 1) rfl
            have fin : ∀ (V : World) (P' : Stat) (nv : Value), nv = .int .i64 (N : Nat) → pairF f t (l.take (k + 1)) = P' → V.heap[w.heap.size]? = some (.cells (statC (addF S x)) 45) → V.heap[w.heap.size + 1]? = some (.cells (statC P') 45) → V.heap[g12]? = some (.cells (intCells (bkF (l.take (k + 1)))).toArray 3 (0, 0)) → Below w.heap.size w V →
                ∃ k' : Nat, k' ≤ l.length ∧ Value.int .i64 ((k : Int) + 1) = .int .i64 k' ∧ LRel f t ticks (w.heap.size + 1) g12 w (l.take k') nv V :=
              fun V P' nv p0 p1 p2 p3 p4 p5 => ⟨k + 1, by omega, by go_num, by rw [HN.out]; exact p0, by rw [HS.out]; exact p2, by rw [p1]; exact p3, p4, p5⟩
            have FIN := Lib.hid fin
            clear fin
            by_cases pf : x.frm = f
            · have d1 : (x.frm == f) = true := by simp [pf]
              by_cases pt : x.to = t
              · have d2 : (x.to == t) = true := by simp [pt]
                have hpp : pairF f t (l.take (k + 1)) = addF P x := by rw [HP.out, if_pos (by simp [isPair, pf, pt])]
                have HPP := Lib.hid hpp
                clear hpp pf pt
                have p0 : _ = some (Value.int .i64 P.sent) := block_cell m10 (i := 0) rfl
                have p1 : _ = some (Value.int .i64 P.got) := block_cell m10 (i := 1) rfl
                have p2 : _ = some (Value.int .i64 P.lost) := block_cell m10 (i := 2) rfl
                have p3 : _ = some (Value.int .i64 P.most) := block_cell m10 (i := 3) rfl
                have p4 : _ = some (Value.int .i64 P.sum) := block_cell m10 (i := 4) rfl
                have o0 := block_cell mX (i := 0) rfl
                have o1 := block_cell mX (i := 1) rfl
                have o2 := block_cell mX (i := 2) rfl
                have o3 := block_cell mX (i := 3) rfl
                have o4 := block_cell mX (i := 4) rfl
                go_wp2_with (go_at_call 20; with_reducible refine (plus_one P x k hokP (by omega) _ _ _ _ _ HO.out _).mono ?_; rintro e w6 ⟨rfl, b6⟩; have k10 := block_below b6 m10; have t0 := block_cell k10 (i := 0) rfl; have t1 := block_cell k10 (i := 1) rfl; have t2 := block_cell k10 (i := 2) rfl; have t3 := block_cell k10 (i := 3) rfl; have t4 := block_cell k10 (i := 4) rfl; have u0 := frozen_of_row _ _ 0 _ 45 k10; have u1 := frozen_of_row _ _ 1 _ 45 k10; have u2 := frozen_of_row _ _ 2 _ 45 k10; have u3 := frozen_of_row _ _ 3 _ 45 k10; have u4 := frozen_of_row _ _ 4 _ 45 k10)
                go_roundw
                case rel =>
                  refine FIN.out _ (addF P x) _ (by first | rfl | (have hh := HNN.out; refine congrArg (Value.int .i64) ?_; omega)) HPP.out ?_ ?_ ?_ ?_
                  · exact stat_keep (addF P x) (block_below b6 m9) n910
                  · exact stat_put (T := addF P x) k10
                  · exact stat_keep (addF P x) (block_below b6 m12) n1012.symm
                  · exact stat_bel (addF P x) (bl_trans belm b6) (Nat.le_add_right _ 1)
                case measure => simp [intOf]; omega
              · have d2 : (x.to == t) = false := by simp [pt]
                have hpp : pairF f t (l.take (k + 1)) = P := by rw [HP.out, if_neg (by simp [isPair, pt])]
                have HPP := Lib.hid hpp
                clear hpp pf pt
                go_wp2_with fail
                go_roundw
                case rel => exact FIN.out _ P _ (by first | rfl | (have hh := HNN.out; refine congrArg (Value.int .i64) ?_; omega)) HPP.out m9 m10 m12 belm
                case measure => simp [intOf]; omega
            · have d1 : (x.frm == f) = false := by simp [pf]
              have hpp : pairF f t (l.take (k + 1)) = P := by rw [HP.out, if_neg (by simp [isPair, pf])]
              have HPP := Lib.hid hpp
              clear hpp pf
              go_wp2_with fail
              go_roundw
              case rel => exact FIN.out _ P _ (by first | rfl | (have hh := HNN.out; refine congrArg (Value.int .i64) ?_; omega)) HPP.out m9 m10 m12 belm
              case measure => simp [intOf]; omega
          · have dl : (x.got == -2) = false := by simp [hl]
            have hone : oneF x = ⟨1, 0, 0, 0, 0⟩ := by unfold oneF; rw [if_neg (by rw [hg']; decide), if_neg hl]
            have HO := Lib.hid hone
            clear hg hg' hN0 hn0 hb2 hone hbt hwt hl
            go_upto_region 22 with (first | (go_at_call 19; refine (got19_calls x _).mono ?_; rw [HG.out]; rintro e w2 ⟨rfl, b2⟩; have y3 := block_cell (block_below b2 hbb) (i := 3) rfl; have hXs : w2.heap[w1.heap.size]? = some (.cells #[.int .i64 1, .int .i64 0, .int .i64 0, .int .i64 0, .int .i64 0] 45) := block_below b2 a15; have h9s : w2.heap[w.heap.size]? = _ := block_below b2 hG9; have h10s : w2.heap[w.heap.size + 1]? = _ := block_below b2 hG10; have hset : w2.heap[g12]? = _ := block_below b2 hG12; have hbs : w2.heap[wr.heap.size]? = _ := block_below b2 hbb; have bels : Below w.heap.size w w2 := bl_trans belt15 b2; have s0 : _ = some (Value.int .i64 S.sent) := block_cell h9s (i := 0) rfl; have s1 : _ = some (Value.int .i64 S.got) := block_cell h9s (i := 1) rfl; have s2 : _ = some (Value.int .i64 S.lost) := block_cell h9s (i := 2) rfl; have s3 : _ = some (Value.int .i64 S.most) := block_cell h9s (i := 3) rfl; have s4 : _ = some (Value.int .i64 S.sum) := block_cell h9s (i := 4) rfl; have o0 : _ = some (Value.int .i64 1) := block_cell hXs (i := 0) rfl; have o1 : _ = some (Value.int .i64 0) := block_cell hXs (i := 1) rfl; have o2 : _ = some (Value.int .i64 0) := block_cell hXs (i := 2) rfl; have o3 : _ = some (Value.int .i64 0) := block_cell hXs (i := 3) rfl; have o4 : _ = some (Value.int .i64 0) := block_cell hXs (i := 4) rfl) | (go_at_call 20; with_reducible refine (plus_one S x k hokS (by omega) _ _ _ _ _ HO.out _).mono ?_; rintro e w4 ⟨rfl, b4⟩; have k9 := block_below b4 h9s; have t0 := block_cell k9 (i := 0) rfl; have t1 := block_cell k9 (i := 1) rfl; have t2 := block_cell k9 (i := 2) rfl; have t3 := block_cell k9 (i := 3) rfl; have t4 := block_cell k9 (i := 4) rfl; have u0 := frozen_of_row _ _ 0 _ 45 k9; have u1 := frozen_of_row _ _ 1 _ 45 k9; have u2 := frozen_of_row _ _ 2 _ 45 k9; have u3 := frozen_of_row _ _ 3 _ 45 k9; have u4 := frozen_of_row _ _ 4 _ 45 k9))
            rw [← HB.out] at hset
            clear y3 a15 hG9 hG10 hG12 hbb x0 x1 x2 x3
            have m9 := stat_put (T := addF S x) k9
            have m10 := stat_keep (addF S x) (block_below b4 h10s) n910.symm
            have m12 := stat_keep (addF S x) (block_below b4 hset) n912.symm
            have mX := stat_keep (addF S x) (block_below b4 hXs) n915.symm
            have mb := stat_keep (addF S x) (block_below b4 hbs) nb9
            have belm := stat_bel (addF S x) (bl_trans bels b4) (Nat.le_refl _)
            clear s0 s1 s2 s3 s4 o0 o1 o2 o3 o4 t0 t1 t2 t3 t4 u0 u1 u2 u3 u4 k9 h9s h10s hset hXs hbs bels
            generalize (((((w4.setCell ⟨w.heap.size, 0, none⟩ (.int .i64 (addF S x).sent)).setCell ⟨w.heap.size, 1, none⟩ (.int .i64 (addF S x).got)).setCell ⟨w.heap.size, 2, none⟩ (.int .i64 (addF S x).lost)).setCell ⟨w.heap.size, 3, none⟩ (.int .i64 (addF S x).most)).setCell ⟨w.heap.size, 4, none⟩ (.int .i64 (addF S x).sum)) = V4 at *
            have x0 := block_cell mb (i := 0) rfl
            have x1 := block_cell mb (i := 1) rfl
            have fin : ∀ (V : World) (P' : Stat) (nv : Value), nv = .int .i64 (N : Nat) → pairF f t (l.take (k + 1)) = P' → V.heap[w.heap.size]? = some (.cells (statC (addF S x)) 45) → V.heap[w.heap.size + 1]? = some (.cells (statC P') 45) → V.heap[g12]? = some (.cells (intCells (bkF (l.take (k + 1)))).toArray 3 (0, 0)) → Below w.heap.size w V →
                ∃ k' : Nat, k' ≤ l.length ∧ Value.int .i64 ((k : Int) + 1) = .int .i64 k' ∧ LRel f t ticks (w.heap.size + 1) g12 w (l.take k') nv V :=
              fun V P' nv p0 p1 p2 p3 p4 p5 => ⟨k + 1, by omega, by go_num, by rw [HN.out]; exact p0, by rw [HS.out]; exact p2, by rw [p1]; exact p3, p4, p5⟩
            have FIN := Lib.hid fin
            clear fin
            by_cases pf : x.frm = f
            · have d1 : (x.frm == f) = true := by simp [pf]
              by_cases pt : x.to = t
              · have d2 : (x.to == t) = true := by simp [pt]
                have hpp : pairF f t (l.take (k + 1)) = addF P x := by rw [HP.out, if_pos (by simp [isPair, pf, pt])]
                have HPP := Lib.hid hpp
                clear hpp pf pt
                have p0 : _ = some (Value.int .i64 P.sent) := block_cell m10 (i := 0) rfl
                have p1 : _ = some (Value.int .i64 P.got) := block_cell m10 (i := 1) rfl
                have p2 : _ = some (Value.int .i64 P.lost) := block_cell m10 (i := 2) rfl
                have p3 : _ = some (Value.int .i64 P.most) := block_cell m10 (i := 3) rfl
                have p4 : _ = some (Value.int .i64 P.sum) := block_cell m10 (i := 4) rfl
                have o0 := block_cell mX (i := 0) rfl
                have o1 := block_cell mX (i := 1) rfl
                have o2 := block_cell mX (i := 2) rfl
                have o3 := block_cell mX (i := 3) rfl
                have o4 := block_cell mX (i := 4) rfl
                go_wp2_with (go_at_call 20; with_reducible refine (plus_one P x k hokP (by omega) _ _ _ _ _ HO.out _).mono ?_; rintro e w6 ⟨rfl, b6⟩; have k10 := block_below b6 m10; have t0 := block_cell k10 (i := 0) rfl; have t1 := block_cell k10 (i := 1) rfl; have t2 := block_cell k10 (i := 2) rfl; have t3 := block_cell k10 (i := 3) rfl; have t4 := block_cell k10 (i := 4) rfl; have u0 := frozen_of_row _ _ 0 _ 45 k10; have u1 := frozen_of_row _ _ 1 _ 45 k10; have u2 := frozen_of_row _ _ 2 _ 45 k10; have u3 := frozen_of_row _ _ 3 _ 45 k10; have u4 := frozen_of_row _ _ 4 _ 45 k10)
                go_roundw
                case rel =>
                  refine FIN.out _ (addF P x) _ (by first | rfl | (have hh := HNN.out; refine congrArg (Value.int .i64) ?_; omega)) HPP.out ?_ ?_ ?_ ?_
                  · exact stat_keep (addF P x) (block_below b6 m9) n910
                  · exact stat_put (T := addF P x) k10
                  · exact stat_keep (addF P x) (block_below b6 m12) n1012.symm
                  · exact stat_bel (addF P x) (bl_trans belm b6) (Nat.le_add_right _ 1)
                case measure => simp [intOf]; omega
              · have d2 : (x.to == t) = false := by simp [pt]
                have hpp : pairF f t (l.take (k + 1)) = P := by rw [HP.out, if_neg (by simp [isPair, pt])]
                have HPP := Lib.hid hpp
                clear hpp pf pt
                go_wp2_with fail
                go_roundw
                case rel => exact FIN.out _ P _ (by first | rfl | (have hh := HNN.out; refine congrArg (Value.int .i64) ?_; omega)) HPP.out m9 m10 m12 belm
                case measure => simp [intOf]; omega
            · have d1 : (x.frm == f) = false := by simp [pf]
              have hpp : pairF f t (l.take (k + 1)) = P := by rw [HP.out, if_neg (by simp [isPair, pf])]
              have HPP := Lib.hid hpp
              clear hpp pf
              go_wp2_with fail
              go_roundw
              case rel => exact FIN.out _ P _ (by first | rfl | (have hh := HNN.out; refine congrArg (Value.int .i64) ?_; omega)) HPP.out m9 m10 m12 belm
              case measure => simp [intOf]; omega
      · have hc' : cntB x = false := by simpa using hc
        have hg' : gotB x = false := by unfold gotB; rw [hc']; rfl
        have hs : ofF (l.take (k + 1)) = S := by rw [hst]; exact if_neg hc
        have hp : pairF f t (l.take (k + 1)) = P := by rw [hpt]; unfold ofStep; rw [if_neg hc]; simp
        have hw : withinF ticks (l.take (k + 1)) = N := by rw [hwt]; simp [inTicks, hg']
        have hb : bkF (l.take (k + 1)) = K := by rw [hbt]; unfold bkStep; rw [if_neg (by rw [hg']; decide)]
        have HC := Lib.hid hc'
        have HS := Lib.hid hs
        have HP := Lib.hid hp
        have HW := Lib.hid hw
        have HB := Lib.hid hb
        clear hc hc' hg' hs hp hw hb hst hpt hwt hbt
        go_wp2_with (go_at_call 18; refine (counts18_calls x _).mono ?_; rw [HC.out]; rintro e w1 ⟨rfl, b1⟩)
        go_roundw
        case rel =>
          refine ⟨k + 1, by omega, by go_num, ?_⟩
          unfold LRel
          rw [HS.out, HP.out, HW.out, HB.out]
          exact ⟨rfl, block_below b1 hG9, block_below b1 hG10, block_below b1 hG12, bl_trans belt b1⟩
        case measure => simp [intOf]; omega
    · obtain rfl : k = l.length := by omega
      have hokB := bkF_ok l
      rw [List.take_length] at hG9 hG10 hG12 ⊢
      obtain ⟨S, hS⟩ : ∃ S, ofF l = S := ⟨_, rfl⟩
      obtain ⟨P, hP⟩ : ∃ P, pairF f t l = P := ⟨_, rfl⟩
      obtain ⟨N, hN⟩ : ∃ N, withinF ticks l = N := ⟨_, rfl⟩
      obtain ⟨K, hK⟩ : ∃ K, bkF l = K := ⟨_, rfl⟩
      rw [hS] at hG9
      rw [hP] at hG10
      rw [hK] at hG12 hokB
      rw [hN]
      have HS := Lib.hid hS
      have HP := Lib.hid hP
      have HN := Lib.hid hN
      have HK := Lib.hid hK
      clear hS hP hN hK
      have hown12 : Kd.int.Own 3 w.heap.size wr w.heap.size (.slice (some ⟨g12, 0, none⟩) 8 8) K :=
        own_of_block hG12 (reps_int fun x hx => by have := hokB.bd x hx; unfold IntOk; omega) (Nat.le_of_lt hlt1) hokB.len.symm (by simp [maxLen])
      obtain ⟨A12, c12, e12, hx1, hx2, row12, hx3⟩ := Kd.own_row hown12
      simp only [Value.slice.injEq] at e12
      obtain ⟨hx4, hx5, hx6⟩ := e12
      subst hx4
      clear hx1 hx2 hx3 hx5 hx6
      have hK8 : 8 = K.length := hokB.len.symm
      have hKle : K.length ≤ 1048576 := by omega
      have HO := Lib.hid hK8
      clear hown12 hokB hK8
      have m0 : ∀ w', Below wr.heap.size wr w' → w'.cell? ⟨w.heap.size, 0, none⟩ = some (Value.int .i64 S.sent) := fun w' h => cell_below h (block_cell hG9 (i := 0) rfl)
      have m1 : ∀ w', Below wr.heap.size wr w' → w'.cell? ⟨w.heap.size, 1, none⟩ = some (Value.int .i64 S.got) := fun w' h => cell_below h (block_cell hG9 (i := 1) rfl)
      have m2 : ∀ w', Below wr.heap.size wr w' → w'.cell? ⟨w.heap.size, 2, none⟩ = some (Value.int .i64 S.lost) := fun w' h => cell_below h (block_cell hG9 (i := 2) rfl)
      have m3 : ∀ w', Below wr.heap.size wr w' → w'.cell? ⟨w.heap.size, 3, none⟩ = some (Value.int .i64 S.most) := fun w' h => cell_below h (block_cell hG9 (i := 3) rfl)
      have m4 : ∀ w', Below wr.heap.size wr w' → w'.cell? ⟨w.heap.size, 4, none⟩ = some (Value.int .i64 S.sum) := fun w' h => cell_below h (block_cell hG9 (i := 4) rfl)
      have n0 : ∀ w', Below wr.heap.size wr w' → w'.cell? ⟨w.heap.size + 1, 0, none⟩ = some (Value.int .i64 P.sent) := fun w' h => cell_below h (block_cell hG10 (i := 0) rfl)
      have n1 : ∀ w', Below wr.heap.size wr w' → w'.cell? ⟨w.heap.size + 1, 1, none⟩ = some (Value.int .i64 P.got) := fun w' h => cell_below h (block_cell hG10 (i := 1) rfl)
      have n2 : ∀ w', Below wr.heap.size wr w' → w'.cell? ⟨w.heap.size + 1, 2, none⟩ = some (Value.int .i64 P.lost) := fun w' h => cell_below h (block_cell hG10 (i := 2) rfl)
      have n3 : ∀ w', Below wr.heap.size wr w' → w'.cell? ⟨w.heap.size + 1, 3, none⟩ = some (Value.int .i64 P.most) := fun w' h => cell_below h (block_cell hG10 (i := 3) rfl)
      have n4 : ∀ w', Below wr.heap.size wr w' → w'.cell? ⟨w.heap.size + 1, 4, none⟩ = some (Value.int .i64 P.sum) := fun w' h => cell_below h (block_cell hG10 (i := 4) rfl)
      clear hG9 hG10 hG12
      have hlr : ∀ w', Below wr.heap.size wr w' → kTrace.Row 47 w.heap.size w' A l := fun w' h => Kd.row_below (bl_trans bel h) hr
      have hr12 : ∀ w', Below wr.heap.size wr w' → Kd.int.Row 3 w.heap.size w' (some ⟨g12, 0, none⟩) K := fun w' h => Kd.row_below h row12
      clear row12
      have heS := fun w => eqlStat S S w
      have heP := fun w => eqlStat P P w
      simp only [decide_true] at heS heP
      go_upto_region 24 with fail
      go_region_held3 (fun w' => Below wr.heap.size wr w') (repeat (first | exact Below.refl _ _ | assumption | apply bl_drew | apply bl_alloc | (refine bl_trans ?_ (by assumption)))) ((first
        | (go_at_call 21; refine (of_calls l A _ c _ _ rfl hl (hlr _ (by assumption))).mono ?_; rw [HS.out]; unfold statC; rintro e w1 ⟨rfl, b1⟩)
        | (go_at_call 22; refine (pair_calls l f t A _ c _ _ rfl hl (hlr _ (by assumption))).mono ?_; rw [HP.out]; unfold statC; rintro e w2 ⟨rfl, b2⟩)
        | (go_at_call 23; refine (within_calls l ticks A _ c _ _ rfl hl (hlr _ (by assumption))).mono ?_; rw [HN.out]; rintro e w3 ⟨rfl, b3⟩)
        | (go_at_call 25; refine (buckets_calls l A _ c _ _ rfl hl (hlr _ (by assumption))).mono ?_; rw [HK.out]; rintro e w4 ⟨⟨v4, rfl, own4⟩, b4⟩; obtain ⟨A4, c4, rfl, _, _, row4, _⟩ := Kd.own_row own4)
        | (go_at_call 24; go_loud (refine (ints_calls K K A4 (some ⟨g12, 0, none⟩) _ c4 8 8 _ _ _ rfl HO.out hKle (by first | exact row4 | exact Kd.row_below (by assumption) row4 | exact Kd.row_below (bl_drew (Below.refl _ _)) row4) (hr12 _ (by assumption))).mono ?_; rw [show decide (K = K) = true from decide_eq_true rfl]; rintro e w5 ⟨rfl, b5⟩))
        | (go_at_call 26; refine (alive41_calls _).mono ?_; rintro e w6 ⟨rfl, b6⟩)))
      all_goals
        go_wp2_with fail
        go_ret
        exact ⟨by simp, bl_trans bel (by assumption)⟩
end Go.Proofs.Ytflfpfaebndefab
