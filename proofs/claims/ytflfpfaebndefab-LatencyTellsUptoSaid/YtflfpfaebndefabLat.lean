/- Package latency: counts, got, add, Of, Within; mootlaw41: plus. No claim of its own; no condition. -/
import Derived.Test.YtflfpfaebndefabFlat
import Derived.Test.YtflfpfaebndefabSmall
import Derived.Test.YtflfpfaebndefabApply
namespace Go.Proofs.Ytflfpfaebndefab
open Go.ChangeShapes Go.WideShapes Go.ChangeAt Go.RowKit
set_option linter.unusedVariables false
set_option linter.unusedSimpArgs false
def cntB (t : Trace) : Bool := decide (0 ≤ t.sent ∧ t.sent ≤ 1099511627776 ∧ t.got ≤ 1099511627776)
def gotB (t : Trace) : Bool := cntB t && decide (t.sent ≤ t.got)
theorem cntB_iff {t : Trace} : cntB t = true ↔ 0 ≤ t.sent ∧ t.sent ≤ 1099511627776 ∧ t.got ≤ 1099511627776 := by unfold cntB; simp
theorem gotB_iff {t : Trace} : gotB t = true ↔ (0 ≤ t.sent ∧ t.sent ≤ 1099511627776 ∧ t.got ≤ 1099511627776) ∧ t.sent ≤ t.got := by unfold gotB; rw [Bool.and_eq_true, cntB_iff]; simp
theorem counts41_calls (t : Trace) (w : World) : Calls Try.prog 41 #[.agg #[.int .i64 t.frm, .int .i64 t.to, .int .i64 t.sent, .int .i64 t.got]] w fun e w' => e = .returned (.bool (cntB t)) ∧ Below w.heap.size w w' := by
  have h0 : cntB t = decide (0 ≤ t.sent ∧ t.sent ≤ 1099511627776 ∧ t.got ≤ 1099511627776) := rfl
  have H0 := Lib.hid h0
  clear h0
  go_enter Try.func41, Try.ntmps41
  go_wp2_with fail
  all_goals go_ret
  all_goals exact ⟨by rw [H0.out]; simp [*]; try omega, bl_alloc (Below.refl _ _) _⟩
theorem counts18_calls (t : Trace) (w : World) : Calls Try.prog 18 #[.agg #[.int .i64 t.frm, .int .i64 t.to, .int .i64 t.sent, .int .i64 t.got]] w fun e w' => e = .returned (.bool (cntB t)) ∧ Below w.heap.size w w' := by
  have h0 : cntB t = decide (0 ≤ t.sent ∧ t.sent ≤ 1099511627776 ∧ t.got ≤ 1099511627776) := rfl
  have H0 := Lib.hid h0
  clear h0
  go_enter Try.func18, Try.ntmps18
  go_wp2_with fail
  all_goals go_ret
  all_goals exact ⟨by rw [H0.out]; simp [*]; try omega, bl_alloc (Below.refl _ _) _⟩
set_option maxHeartbeats 800000 in
theorem got46_calls (t : Trace) (w : World) : Calls Try.prog 46 #[.agg #[.int .i64 t.frm, .int .i64 t.to, .int .i64 t.sent, .int .i64 t.got]] w fun e w' => e = .returned (.bool (gotB t)) ∧ Below w.heap.size w w' := by
  have q0 := bl_alloc (Below.refl w.heap.size w) (.cells #[.int .i64 t.frm, .int .i64 t.to, .int .i64 t.sent, .int .i64 t.got] 47)
  have b0 := alloc_new w (.cells #[.int .i64 t.frm, .int .i64 t.to, .int .i64 t.sent, .int .i64 t.got] 47)
  have hc := counts41_calls t
  by_cases h1 : cntB t = true
  · by_cases h2 : t.sent ≤ t.got
    · have hg : gotB t = true := gotB_iff.2 ⟨cntB_iff.1 h1, h2⟩
      have H1 := Lib.hid h1
      have HG := Lib.hid hg
      clear h1 hg
      go_enter Try.func46, Try.ntmps46
      go_wp2_with (go_at_call 41; refine (hc _).mono ?_; rw [H1.out]; rintro e w1 ⟨rfl, b1⟩; have c2 := cell_below b1 (block_cell b0 (i := 2) rfl); have c3 := cell_below b1 (block_cell b0 (i := 3) rfl))
      go_ret
      exact ⟨by rw [HG.out]; simp; try omega, bl_trans q0 b1⟩
    · have hg : gotB t = false := by rw [Bool.eq_false_iff]; exact fun h => h2 (gotB_iff.1 h).2
      have H1 := Lib.hid h1
      have HG := Lib.hid hg
      clear h1 hg
      go_enter Try.func46, Try.ntmps46
      go_wp2_with (go_at_call 41; refine (hc _).mono ?_; rw [H1.out]; rintro e w1 ⟨rfl, b1⟩; have c2 := cell_below b1 (block_cell b0 (i := 2) rfl); have c3 := cell_below b1 (block_cell b0 (i := 3) rfl))
      go_ret
      exact ⟨by rw [HG.out]; simp; try omega, bl_trans q0 b1⟩
  · have h1' : cntB t = false := by simpa using h1
    have hg : gotB t = false := by unfold gotB; rw [h1']; rfl
    have H1 := Lib.hid h1'
    have HG := Lib.hid hg
    clear h1 h1' hg
    go_enter Try.func46, Try.ntmps46
    go_wp2_with (go_at_call 41; refine (hc _).mono ?_; rw [H1.out]; rintro e w1 ⟨rfl, b1⟩)
    go_ret
    exact ⟨by rw [HG.out]; rfl, bl_trans q0 b1⟩
set_option maxHeartbeats 800000 in
theorem got19_calls (t : Trace) (w : World) : Calls Try.prog 19 #[.agg #[.int .i64 t.frm, .int .i64 t.to, .int .i64 t.sent, .int .i64 t.got]] w fun e w' => e = .returned (.bool (gotB t)) ∧ Below w.heap.size w w' := by
  have q0 := bl_alloc (Below.refl w.heap.size w) (.cells #[.int .i64 t.frm, .int .i64 t.to, .int .i64 t.sent, .int .i64 t.got] 47)
  have b0 := alloc_new w (.cells #[.int .i64 t.frm, .int .i64 t.to, .int .i64 t.sent, .int .i64 t.got] 47)
  have hc := counts18_calls t
  by_cases h1 : cntB t = true
  · by_cases h2 : t.sent ≤ t.got
    · have hg : gotB t = true := gotB_iff.2 ⟨cntB_iff.1 h1, h2⟩
      have H1 := Lib.hid h1
      have HG := Lib.hid hg
      clear h1 hg
      go_enter Try.func19, Try.ntmps19
      go_wp2_with (go_at_call 18; refine (hc _).mono ?_; rw [H1.out]; rintro e w1 ⟨rfl, b1⟩; have c2 := cell_below b1 (block_cell b0 (i := 2) rfl); have c3 := cell_below b1 (block_cell b0 (i := 3) rfl))
      go_ret
      exact ⟨by rw [HG.out]; simp; try omega, bl_trans q0 b1⟩
    · have hg : gotB t = false := by rw [Bool.eq_false_iff]; exact fun h => h2 (gotB_iff.1 h).2
      have H1 := Lib.hid h1
      have HG := Lib.hid hg
      clear h1 hg
      go_enter Try.func19, Try.ntmps19
      go_wp2_with (go_at_call 18; refine (hc _).mono ?_; rw [H1.out]; rintro e w1 ⟨rfl, b1⟩; have c2 := cell_below b1 (block_cell b0 (i := 2) rfl); have c3 := cell_below b1 (block_cell b0 (i := 3) rfl))
      go_ret
      exact ⟨by rw [HG.out]; simp; try omega, bl_trans q0 b1⟩
  · have h1' : cntB t = false := by simpa using h1
    have hg : gotB t = false := by unfold gotB; rw [h1']; rfl
    have H1 := Lib.hid h1'
    have HG := Lib.hid hg
    clear h1 h1' hg
    go_enter Try.func19, Try.ntmps19
    go_wp2_with (go_at_call 18; refine (hc _).mono ?_; rw [H1.out]; rintro e w1 ⟨rfl, b1⟩)
    go_ret
    exact ⟨by rw [HG.out]; rfl, bl_trans q0 b1⟩
/-- What a trace more makes of what was. -/
def addF (s : Stat) (t : Trace) : Stat :=
  if gotB t then ⟨s.sent + 1, s.got + 1, s.lost, max s.most (t.got - t.sent), s.sum + (t.got - t.sent)⟩
  else if t.got = -2 then ⟨s.sent + 1, s.got, s.lost + 1, s.most, s.sum⟩ else ⟨s.sent + 1, s.got, s.lost, s.most, s.sum⟩
def stat0 : Stat := ⟨0, 0, 0, 0, 0⟩
def ofStep (s : Stat) (t : Trace) : Stat := if cntB t then addF s t else s
def ofF (l : List Trace) : Stat := l.foldl ofStep stat0
structure StatOk (n : Nat) (s : Stat) : Prop where
  sent : 0 ≤ s.sent ∧ s.sent ≤ n
  got : 0 ≤ s.got ∧ s.got ≤ n
  lost : 0 ≤ s.lost ∧ s.lost ≤ n
  most : 0 ≤ s.most ∧ s.most ≤ 1099511627776
  sum : 0 ≤ s.sum ∧ s.sum ≤ n * 1099511627776
theorem StatOk.zero : StatOk 0 stat0 := ⟨by decide, by decide, by decide, by decide, by decide⟩
theorem StatOk.mono {n m : Nat} {s : Stat} (h : StatOk n s) (hm : n ≤ m) : StatOk m s := by
  obtain ⟨h1, h2, h3, h4, h5⟩ := h
  exact ⟨by omega, by omega, by omega, h4, ⟨h5.1, by omega⟩⟩
theorem StatOk.add {n : Nat} {s : Stat} (h : StatOk n s) (t : Trace) : StatOk (n + 1) (addF s t) := by
  obtain ⟨h1, h2, h3, h4, h5⟩ := h
  unfold addF
  split
  · next hg =>
    obtain ⟨hg1, hg2⟩ := gotB_iff.1 hg
    exact ⟨by simp only; omega, by simp only; omega, by simp only; omega, by simp only; omega, by simp only; omega⟩
  · split
    · exact ⟨by simp only; omega, by simp only; omega, by simp only; omega, by simp only; omega, by simp only; omega⟩
    · exact ⟨by simp only; omega, by simp only; omega, by simp only; omega, by simp only; omega, by simp only; omega⟩
theorem StatOk.step {n : Nat} {s : Stat} (h : StatOk n s) (t : Trace) : StatOk (n + 1) (ofStep s t) := by
  unfold ofStep
  split
  · exact h.add t
  · exact h.mono (by omega)
theorem ofF_step {l : List Trace} {k : Nat} {t : Trace} (h : l[k]? = some t) : ofF (l.take (k + 1)) = ofStep (ofF (l.take k)) t := by
  rw [List.take_add_one, h]
  simp [ofF]
theorem ofF_ok (l : List Trace) : StatOk l.length (ofF l) := by
  have : ∀ (l : List Trace) (n : Nat) (s : Stat), StatOk n s → StatOk (n + l.length) (l.foldl ofStep s) := by
    intro l
    induction l with
    | nil => intro n s h; exact h
    | cons t l ih =>
      intro n s h
      have := ih (n + 1) (ofStep s t) (h.step t)
      rw [List.length_cons, show n + (l.length + 1) = n + 1 + l.length by omega]
      exact this
  have h := this l 0 stat0 StatOk.zero
  rwa [Nat.zero_add] at h
def statC (s : Stat) : Array Value := #[.int .i64 s.sent, .int .i64 s.got, .int .i64 s.lost, .int .i64 s.most, .int .i64 s.sum]
theorem gr_below {a w w1 : World} {row : Option Nat} (h : a.grownBy w row) (k : Below w.heap.size w w1) : a.grownBy w1 row :=
  ⟨k.os.trans h.os, k.tape.trans h.tape, k.output.trans h.output, Nat.le_trans h.size k.size, fun i hi hne => (k.block i (Nat.lt_of_lt_of_le hi h.size)).trans (h.block i hi hne)⟩
theorem gr_set {a w : World} {G : Nat} (h : a.grownBy w (some G)) (j : Nat) (u : Value) : a.grownBy (w.setCell ⟨G, j, none⟩ u) (some G) :=
  ⟨h.os, h.tape, h.output, by rw [show (w.setCell ⟨G, j, none⟩ u).heap.size = w.heap.size by simp [World.setCell]]; exact h.size, fun i hi hne => (Below.heap_setCell w ⟨G, j, none⟩ u i (fun e => hne (by rw [e]))).trans (h.block i hi hne)⟩
set_option maxHeartbeats 1600000 in
set_option maxRecDepth 100000 in
theorem add_calls (s : Stat) (t : Trace) (G : Nat) (w : World) (n : Nat) (hs : StatOk n s) (hn : n ≤ 1048576) (hG : w.heap[G]? = some (.cells (statC s) 45)) :
    Calls Try.prog 42 #[.pointer (some ⟨G, 0, none⟩), .agg #[.int .i64 t.frm, .int .i64 t.to, .int .i64 t.sent, .int .i64 t.got]] w
      fun e w' => e = .returned (.tuple #[]) ∧ w'.heap[G]? = some (.cells (statC (addF s t)) 45) ∧ w.grownBy w' (some G) := by
  obtain ⟨h1, h2, h3, h4, h5⟩ := hs
  have q0 := bl_alloc (Below.refl w.heap.size w) (.cells #[.int .i64 t.frm, .int .i64 t.to, .int .i64 t.sent, .int .i64 t.got] 47)
  have b0 := alloc_new w (.cells #[.int .i64 t.frm, .int .i64 t.to, .int .i64 t.sent, .int .i64 t.got] 47)
  have hGV := block_below q0 hG
  have hlt := blk_lt hG
  have hne : w.heap.size ≠ G := by omega
  unfold statC at *
  have g1 : w.grownBy (w.alloc (.cells #[.int .i64 t.frm, .int .i64 t.to, .int .i64 t.sent, .int .i64 t.got] 47)) (some G) := gr_below (World.grownBy.refl w _) q0
  by_cases hg : gotB t = true
  · obtain ⟨hg1, hg2⟩ := gotB_iff.1 hg
    have ha : addF s t = ⟨s.sent + 1, s.got + 1, s.lost, max s.most (t.got - t.sent), s.sum + (t.got - t.sent)⟩ := if_pos hg
    have HG := Lib.hid hg
    have HA := Lib.hid ha
    clear hg ha
    have z0 := block_cell hGV (i := 0) rfl
    have fr0 := frozen_of_row _ G 0 _ 45 hGV
    go_enter Try.func42, Try.ntmps42
    go_upto_region 1 with fail
    generalize w.alloc (.cells #[.int .i64 t.frm, .int .i64 t.to, .int .i64 t.sent, .int .i64 t.got] 47) = V at *
    go_upto_region 2 with fail
    have x0 := cell_set (q := ⟨G, 0, none⟩) (block_cell b0 (i := 0) rfl) hne (.int .i64 (s.sent + 1))
    have x1 := cell_set (q := ⟨G, 0, none⟩) (block_cell b0 (i := 1) rfl) hne (.int .i64 (s.sent + 1))
    have x2 := cell_set (q := ⟨G, 0, none⟩) (block_cell b0 (i := 2) rfl) hne (.int .i64 (s.sent + 1))
    have x3 := cell_set (q := ⟨G, 0, none⟩) (block_cell b0 (i := 3) rfl) hne (.int .i64 (s.sent + 1))
    have hG1 := heap_setCell_same V G 0 _ 45 (.int .i64 (s.sent + 1)) hGV
    have g2 := gr_set g1 0 (.int .i64 (s.sent + 1))
    generalize V.setCell ⟨G, 0, none⟩ (.int .i64 (s.sent + 1)) = V1 at *
    clear z0 fr0 b0 hGV q0 g1
    go_wp2_with (go_at_call 46; refine (got46_calls t _).mono ?_; rw [HG.out]; rintro e w2 ⟨rfl, b2⟩; have hG2 := block_below b2 hG1; have g3 := gr_below g2 b2; have y2 := cell_below b2 x2; have y3 := cell_below b2 x3; have z1 := block_cell hG2 (i := 1) rfl; have z3 := block_cell hG2 (i := 3) rfl; have z4 := block_cell hG2 (i := 4) rfl; have fr1 := frozen_of_row _ G 1 _ 45 hG2; have fr3 := frozen_of_row _ G 3 _ 45 hG2; have fr4 := frozen_of_row _ G 4 _ 45 hG2)
    go_end0
    rw [HA.out]
    refine ⟨rfl, ?_, gr_set (gr_set (gr_set g3 _ _) _ _) _ _⟩
    exact heap_setCell_same _ G 4 _ 45 _ (heap_setCell_same _ G 3 _ 45 _ (heap_setCell_same _ G 1 _ 45 _ hG2))
  · have hg' : gotB t = false := by simpa using hg
    have z0 := block_cell hGV (i := 0) rfl
    have fr0 := frozen_of_row _ G 0 _ 45 hGV
    by_cases hl : t.got = -2
    · have ha : addF s t = ⟨s.sent + 1, s.got, s.lost + 1, s.most, s.sum⟩ := by unfold addF; rw [if_neg hg, if_pos hl]
      have hd : (t.got == -2) = true := by simp [hl]
      have HG := Lib.hid hg'
      have HA := Lib.hid ha
      clear hg hg' ha hl
      go_enter Try.func42, Try.ntmps42
      go_upto_region 1 with fail
      generalize w.alloc (.cells #[.int .i64 t.frm, .int .i64 t.to, .int .i64 t.sent, .int .i64 t.got] 47) = V at *
      go_upto_region 2 with fail
      have x0 := cell_set (q := ⟨G, 0, none⟩) (block_cell b0 (i := 0) rfl) hne (.int .i64 (s.sent + 1))
      have x1 := cell_set (q := ⟨G, 0, none⟩) (block_cell b0 (i := 1) rfl) hne (.int .i64 (s.sent + 1))
      have x2 := cell_set (q := ⟨G, 0, none⟩) (block_cell b0 (i := 2) rfl) hne (.int .i64 (s.sent + 1))
      have x3 := cell_set (q := ⟨G, 0, none⟩) (block_cell b0 (i := 3) rfl) hne (.int .i64 (s.sent + 1))
      have hG1 := heap_setCell_same V G 0 _ 45 (.int .i64 (s.sent + 1)) hGV
      have g2 := gr_set g1 0 (.int .i64 (s.sent + 1))
      generalize V.setCell ⟨G, 0, none⟩ (.int .i64 (s.sent + 1)) = V1 at *
      clear z0 fr0 b0 hGV q0 g1
      go_wp2_with (go_at_call 46; refine (got46_calls t _).mono ?_; rw [HG.out]; rintro e w2 ⟨rfl, b2⟩; have hG2 := block_below b2 hG1; have g3 := gr_below g2 b2; have y3 := cell_below b2 x3; have z2 := block_cell hG2 (i := 2) rfl; have fr2 := frozen_of_row _ G 2 _ 45 hG2)
      go_end0
      rw [HA.out]
      refine ⟨rfl, ?_, gr_set g3 _ _⟩
      exact heap_setCell_same _ G 2 _ 45 _ hG2
    · have ha : addF s t = ⟨s.sent + 1, s.got, s.lost, s.most, s.sum⟩ := by unfold addF; rw [if_neg hg, if_neg hl]
      have hd : (t.got == -2) = false := by simp [hl]
      have HG := Lib.hid hg'
      have HA := Lib.hid ha
      clear hg hg' ha hl
      go_enter Try.func42, Try.ntmps42
      go_upto_region 1 with fail
      generalize w.alloc (.cells #[.int .i64 t.frm, .int .i64 t.to, .int .i64 t.sent, .int .i64 t.got] 47) = V at *
      go_upto_region 2 with fail
      have x0 := cell_set (q := ⟨G, 0, none⟩) (block_cell b0 (i := 0) rfl) hne (.int .i64 (s.sent + 1))
      have x1 := cell_set (q := ⟨G, 0, none⟩) (block_cell b0 (i := 1) rfl) hne (.int .i64 (s.sent + 1))
      have x2 := cell_set (q := ⟨G, 0, none⟩) (block_cell b0 (i := 2) rfl) hne (.int .i64 (s.sent + 1))
      have x3 := cell_set (q := ⟨G, 0, none⟩) (block_cell b0 (i := 3) rfl) hne (.int .i64 (s.sent + 1))
      have hG1 := heap_setCell_same V G 0 _ 45 (.int .i64 (s.sent + 1)) hGV
      have g2 := gr_set g1 0 (.int .i64 (s.sent + 1))
      generalize V.setCell ⟨G, 0, none⟩ (.int .i64 (s.sent + 1)) = V1 at *
      clear z0 fr0 b0 hGV q0 g1
      go_wp2_with (go_at_call 46; refine (got46_calls t _).mono ?_; rw [HG.out]; rintro e w2 ⟨rfl, b2⟩; have hG2 := block_below b2 hG1; have g3 := gr_below g2 b2; have y3 := cell_below b2 x3)
      go_end0
      rw [HA.out]
      exact ⟨rfl, hG2, g3⟩
set_option maxHeartbeats 1600000 in
set_option maxRecDepth 100000 in
theorem of_calls (l : List Trace) (A : Option Addr) (n c : Nat) (w : World) (B : Nat) (hn : n = l.length) (hl : l.length ≤ 1048576) (hr : kTrace.Row 47 B w A l) :
    Calls Try.prog 21 #[.slice A n c] w fun e w' => e = .returned (.agg (statC (ofF l))) ∧ Below w.heap.size w w' := by
  subst hn
  have q0 := bl_alloc (Below.refl w.heap.size w) (.cells #[.int .i64 0, .int .i64 0, .int .i64 0, .int .i64 0, .int .i64 0] 45)
  have b0 := alloc_new w (.cells #[.int .i64 0, .int .i64 0, .int .i64 0, .int .i64 0, .int .i64 0] 45)
  have hszW : (w.alloc (.cells #[.int .i64 0, .int .i64 0, .int .i64 0, .int .i64 0, .int .i64 0] 45)).heap.size = w.heap.size + 1 := by simp
  go_enter Try.func21, Try.ntmps21
  go_upto_region 1 with fail
  generalize w.alloc (.cells #[.int .i64 0, .int .i64 0, .int .i64 0, .int .i64 0, .int .i64 0] 45) = W at *
  have q1 := bl_alloc (Below.refl W.heap.size W) (.cells #[.int .i64 0, .int .i64 0, .int .i64 0, .int .i64 0, .int .i64 0] 45)
  have b1 := alloc_new W (.cells #[.int .i64 0, .int .i64 0, .int .i64 0, .int .i64 0, .int .i64 0] 45)
  have HSZ := Lib.hid hszW
  have hltW : w.heap.size < W.heap.size := by omega
  clear hszW
  go_wp2_with fail
  go_loopw [8] (fun kv w' => ∃ k : Nat, k ≤ l.length ∧ kv = .int .i64 k ∧ w'.heap[W.heap.size]? = some (.cells (statC (ofF (l.take k))) 45) ∧ Below W.heap.size W w') (fun kv _ => l.length - (intOf kv).toNat)
  case atStart => exact ⟨0, by omega, rfl, b1, q1⟩
  case round =>
    clear b1 q1
    obtain ⟨k, h1, rfl, hG, bel⟩ := hrel
    by_cases h : k < l.length
    · obtain ⟨x, hx⟩ : ∃ x, l[k]? = some x := ⟨_, List.getElem?_eq_getElem h⟩
      obtain ⟨ad, rfl, e0, e1, e2, e3, _⟩ := kTrace_at (Kd.row_below (bl_trans q0 bel) hr) hx
      have hst := ofF_step hx
      have hok := ofF_ok (l.take k)
      generalize ofF (l.take k) = S at *
      have hok2 : StatOk k S := hok.mono (by simp; omega)
      have bt := bl_alloc (Below.refl wr.heap.size wr) (.cells #[.int .i64 x.frm, .int .i64 x.to, .int .i64 x.sent, .int .i64 x.got] 47)
      have bb := alloc_new wr (.cells #[.int .i64 x.frm, .int .i64 x.to, .int .i64 x.sent, .int .i64 x.got] 47)
      have hG' := block_below bt hG
      have belt := bl_trans bel bt
      by_cases hc : cntB x = true
      · have hs2 : ofF (l.take (k + 1)) = addF S x := by rw [hst]; exact if_pos hc
        have HS := Lib.hid hs2
        have HC := Lib.hid hc
        clear hst hok hs2 hc hx
        go_wp2_with (first
          | (go_at_call 41; refine (counts41_calls x _).mono ?_; rw [HC.out]; rintro e w1 ⟨rfl, b1⟩; have hG1 := block_below b1 hG'; have belt1 := bl_trans belt b1; have y0 := cell_below b1 (block_cell bb (i := 0) rfl); have y1 := cell_below b1 (block_cell bb (i := 1) rfl); have y2 := cell_below b1 (block_cell bb (i := 2) rfl); have y3 := cell_below b1 (block_cell bb (i := 3) rfl))
          | (go_at_call 42; refine (add_calls S x W.heap.size _ k hok2 (by omega) hG1).mono ?_; rintro e w3 ⟨rfl, hG3, gr3⟩; have bel3 := bl_grown belt1 gr3 (fun k h => by cases h; exact Nat.le_refl _)))
        go_roundw
        case rel => exact ⟨k + 1, by omega, by go_num, by rw [HS.out]; exact hG3, bel3⟩
        case measure => simp [intOf]; omega
      · have hc' : cntB x = false := by simpa using hc
        have hs2 : ofF (l.take (k + 1)) = S := by rw [hst]; exact if_neg hc
        have HS := Lib.hid hs2
        have HC := Lib.hid hc'
        clear hst hok hs2 hc hc' hx
        go_wp2_with (go_at_call 41; refine (counts41_calls x _).mono ?_; rw [HC.out]; rintro e w1 ⟨rfl, b1⟩; have hG1 := block_below b1 hG'; have belt1 := bl_trans belt b1)
        go_roundw
        case rel => exact ⟨k + 1, by omega, by go_num, by rw [HS.out]; exact hG1, belt1⟩
        case measure => simp [intOf]; omega
    · have hk : k = l.length := by omega
      subst hk
      rw [List.take_of_length_le (Nat.le_refl _)] at hG
      have hfin : Ending.returned (.agg (statC (ofF l))) = Ending.returned (.agg (statC (ofF l))) := rfl
      generalize hS : ofF l = S at *
      have HS := Lib.hid hS
      clear hS hfin
      unfold statC at hG
      have z0 := block_cell hG (i := 0) rfl
      have z1 := block_cell hG (i := 1) rfl
      have z2 := block_cell hG (i := 2) rfl
      have z3 := block_cell hG (i := 3) rfl
      have z4 := block_cell hG (i := 4) rfl
      have hR := block_below bel b0
      have r0 := block_cell hR (i := 0) rfl
      have r1 := block_cell hR (i := 1) rfl
      have r2 := block_cell hR (i := 2) rfl
      have r3 := block_cell hR (i := 3) rfl
      have r4 := block_cell hR (i := 4) rfl
      have s0 := frozen_of_row wr w.heap.size 0 _ 45 hR
      have s1 := frozen_of_row wr w.heap.size 1 _ 45 hR
      have s2 := frozen_of_row wr w.heap.size 2 _ 45 hR
      have s3 := frozen_of_row wr w.heap.size 3 _ 45 hR
      have s4 := frozen_of_row wr w.heap.size 4 _ 45 hR
      go_wp2_with fail
      refine bodyPost_ret (v := .agg #[.int .i64 S.sent, .int .i64 S.got, .int .i64 S.lost, .int .i64 S.most, .int .i64 S.sum]) (by simp [results, Try.results21, go_sem, r0, r1, r2, r3, r4]) rfl ⟨by first | rfl | rw [HS.out]; rfl, ?_⟩
      have hq := bl_trans q0 bel
      repeat (first | exact hq | (refine bl_set ?_ (Nat.le_refl _) _))
end Go.Proofs.Ytflfpfaebndefab
