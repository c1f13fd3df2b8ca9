/- Package tolerance: Best. No claim of its own; no condition. -/
import Derived.Test.YtflfpfaebndefaaTol
namespace Go.Proofs.Ytflfpfaebndefaa
open Go.RowKit Go.Shelf
set_option linter.unusedVariables false
set_option linter.unusedSimpArgs false
attribute [local go_sem] Oper.semAt_some

def goodP (r f : Int) (x : Nat × Nat) : Bool := decide (f ≤ (x.2 : Int) + x.1 - r - 1)
def bestF (r f : Int) : Int × Int × Bool :=
  if 1 ≤ r ∧ r ≤ 7 ∧ 0 ≤ f ∧ f ≤ r then
    match (pairsL (r - f).toNat (r - f).toNat).find? (goodP r f) with
    | some x => ((x.1 : Int), (x.2 : Int), true)
    | none => (0, 0, false)
  else (0, 0, false)

theorem find_none {α : Type} {p : α → Bool} {l : List α} (h : ∀ x ∈ l, p x = false) : l.find? p = none := by
  rw [List.find?_eq_none]
  intro x hx
  rw [h x hx]
  simp
theorem find_first {α : Type} {p : α → Bool} {l ini : List α} {x : α} (hp : ini ++ [x] <+: l) (h : ∀ y ∈ ini, p y = false) (hx : p x = true) : l.find? p = some x := by
  obtain ⟨t, rfl⟩ := hp
  rw [List.append_assoc, List.find?_append, find_none h]
  simp [hx]
theorem pairsL_bd (m : Nat) : ∀ i, i ≤ m → ∀ x ∈ pairsL m i, 1 ≤ x.1 ∧ x.1 ≤ x.2 ∧ x.2 ≤ m
  | 0, _, x, hx => by cases hx
  | i + 1, hi, x, hx => by
    rw [pairsL, List.mem_append] at hx
    rcases hx with hx | hx
    · exact pairsL_bd m i (by omega) x hx
    · obtain ⟨t, ht, rfl⟩ := List.mem_map.1 hx
      rw [List.mem_range] at ht
      simp only
      omega

def goodW (r f : Int) (x : Nat × Nat) : Bool := decide (f ≤ wrap64 (wrap64 (wrap64 ((x.2 : Int) + x.1) - r) - 1))
theorem find_congr {α : Type} {p q : α → Bool} : ∀ {l : List α}, (∀ x ∈ l, p x = q x) → l.find? p = l.find? q
  | [], _ => rfl
  | x :: l, h => by
    have h1 := h x (by simp)
    have h2 := find_congr (l := l) (fun y hy => h y (by simp [hy]))
    simp only [List.find?_cons, h1, h2]
theorem good_eq (r f : Int) (m : Nat) (hm : m ≤ 7) (h1 : 1 ≤ r) (h7 : r ≤ 7) : (pairsL m m).find? (goodP r f) = (pairsL m m).find? (goodW r f) :=
  find_congr fun x hx => by
    have h := pairsL_bd m m (Nat.le_refl _) x hx
    unfold goodP goodW
    have e1 : wrap64 ((x.2 : Int) + x.1) = (x.2 : Int) + x.1 := by unfold wrap64; omega
    rw [e1]
    have e2 : wrap64 ((x.2 : Int) + x.1 - r) = (x.2 : Int) + x.1 - r := by unfold wrap64; omega
    rw [e2]
    have e3 : wrap64 ((x.2 : Int) + x.1 - r - 1) = (x.2 : Int) + x.1 - r - 1 := by unfold wrap64; omega
    rw [e3]
theorem goodW_yes {r f : Int} {x : Nat × Nat} (h : f ≤ wrap64 (wrap64 (wrap64 ((x.2 : Int) + x.1) - r) - 1)) : goodW r f x = true := by simp [goodW, h]
theorem goodW_no {r f : Int} {x : Nat × Nat} (h : wrap64 (wrap64 (wrap64 ((x.2 : Int) + x.1) - r) - 1) < f) : goodW r f x = false := by simp [goodW]; omega

set_option maxRecDepth 100000 in
set_option maxHeartbeats 2000000 in
theorem best_in (F : Fence) (n : Nat) (h22 : F.fn 22) (h41 : F.fn 41) (h48 : F.fn 48) (hro : F.round = none) (hn : 3 ≤ n) (r f : Int) (h1r : 1 ≤ r) (h7r : r ≤ 7) (h0f : 0 ≤ f) (hfr : f ≤ r) (w : World) :
    CallsIn F n Try.prog 22 #[.int .i64 r, .int .i64 f] w fun e W' => (∃ a b c, bestF r f = (a, b, c) ∧ e = .returned (.tuple #[.int .i64 a, .int .i64 b, .bool c])) ∧ Below w.heap.size w W' := by
  have h1 : 1 ≤ n := by omega
  obtain ⟨m, hm⟩ : ∃ m : Nat, r - f = m := ⟨(r - f).toNat, by omega⟩
  have hm7 : m ≤ 7 := by omega
  have hbest : bestF r f = match (pairsL m m).find? (goodW r f) with | some x => ((x.1 : Int), (x.2 : Int), true) | none => (0, 0, false) := by
    unfold bestF
    rw [if_pos ⟨h1r, h7r, h0f, hfr⟩, show (r - f).toNat = m by omega, good_eq r f m hm7 h1r h7r]
  have HB := Lib.hid hbest
  clear hbest
  have d1 : decide (r < 1) = false := by simp; omega
  have d2 : decide (7 < r) = false := by simp; omega
  have d3 : decide (f < 0) = false := by simp; omega
  have d4 : decide (r < f) = false := by simp; omega
  refine callsIn_of_wp_marks Try.func22 rfl h22 ?_ hro
  simp only [Try.ntmps22, List.size_toArray, List.length_cons, List.length_nil, Nat.reduceAdd, Nat.reduceSub, Array.replicate_succ, Array.replicate_zero, List.push_toArray, List.append_toArray, List.nil_append, List.cons_append]
  gi_wp2_with (gi_at_call 41; refine (pairs_in F (n - 1) h41 hro _ _).mono ?_; rintro e w' ⟨rfl, rfl⟩)
  have b0 := Boxed.new w 3 (.int .i64 r)
  have b1 := Boxed.new (w.alloc (.cells #[.int .i64 r] 3)) 3 (.int .i64 f)
  have b2 := Boxed.new ((w.alloc (.cells #[.int .i64 r] 3)).alloc (.cells #[.int .i64 f] 3)) 3 (.int .i64 0)
  have b3 := Boxed.new (((w.alloc (.cells #[.int .i64 r] 3)).alloc (.cells #[.int .i64 f] 3)).alloc (.cells #[.int .i64 0] 3)) 3 (.int .i64 0)
  have b4 := Boxed.new ((((w.alloc (.cells #[.int .i64 r] 3)).alloc (.cells #[.int .i64 f] 3)).alloc (.cells #[.int .i64 0] 3)).alloc (.cells #[.int .i64 0] 3)) 4 (.bool false)
  have b5 := Boxed.new (((((w.alloc (.cells #[.int .i64 r] 3)).alloc (.cells #[.int .i64 f] 3)).alloc (.cells #[.int .i64 0] 3)).alloc (.cells #[.int .i64 0] 3)).alloc (.cells #[.bool false] 4)) 3 (.int .i64 (m : Int))
  simp only [World.size_alloc] at b1 b2 b3 b4 b5
  have B0 : Below w.heap.size w ((((((w.alloc (.cells #[.int .i64 r] 3)).alloc (.cells #[.int .i64 f] 3)).alloc (.cells #[.int .i64 0] 3)).alloc (.cells #[.int .i64 0] 3)).alloc (.cells #[.bool false] 4)).alloc (.cells #[.int .i64 (m : Int)] 3)) := bl_alloc (bl_alloc (bl_alloc (bl_alloc (bl_alloc (bl_alloc (Below.refl _ _) _) _) _) _) _) _
  refine wpIn_rangeFunc_ownG hro h1 (gf := 48) (lb := #[.pointer (some ⟨w.heap.size + 1 + 1 + 1 + 1 + 1, 0, none⟩)]) rfl h48 (enters_of Try.func48 (by kernel_rfl) rfl)
    (pairs_stops F (n - 1) h48 hro (by omega) (w.heap.size + 1 + 1 + 1 + 1 + 1) (w.heap.size + 1 + 1 + 1 + 1 + 1 + 1) m hm7 _ (by omega) (by simp) b5.cell) belowK_t (belowK_b (by simp)) (Below.refl _ _) (fun _ => rfl)
    (fun pre W => ((∀ p ∈ pre, goodW r f p = false) ∧ (W.cell? ⟨w.heap.size, 0, none⟩ = some (.int .i64 r) ∧ W.cell? ⟨w.heap.size + 1, 0, none⟩ = some (.int .i64 f)) ∧ (W.cell? ⟨w.heap.size + 1 + 1, 0, none⟩ = some (.int .i64 0) ∧ W.frozen? ⟨w.heap.size + 1 + 1, 0, none⟩ = false) ∧ (W.cell? ⟨w.heap.size + 1 + 1 + 1, 0, none⟩ = some (.int .i64 0) ∧ W.frozen? ⟨w.heap.size + 1 + 1 + 1, 0, none⟩ = false) ∧ (W.cell? ⟨w.heap.size + 1 + 1 + 1 + 1, 0, none⟩ = some (.bool false) ∧ W.frozen? ⟨w.heap.size + 1 + 1 + 1 + 1, 0, none⟩ = false)) ∧ Below w.heap.size w W)
    (fun c pre W => (c = .ret ∧ ∃ ini last, pre = ini ++ [last] ∧ (∀ p ∈ ini, goodW r f p = false) ∧ goodW r f last = true ∧ W.cell? ⟨w.heap.size + 1 + 1, 0, none⟩ = some (.int .i64 (last.1 : Int)) ∧ W.cell? ⟨w.heap.size + 1 + 1 + 1, 0, none⟩ = some (.int .i64 (last.2 : Int)) ∧ W.cell? ⟨w.heap.size + 1 + 1 + 1 + 1, 0, none⟩ = some (.bool true)) ∧ Below w.heap.size w W)
    (OwnFrom.and (Own.from (fun s A B row hs hg hr => ⟨hs.1, ⟨cell_kept hs.2.1.1 hg hr, cell_kept hs.2.1.2 hg hr⟩, ⟨cell_kept hs.2.2.1.1 hg hr, (frozen_kept hs.2.2.1.1 hg hr).trans hs.2.2.1.2⟩, ⟨cell_kept hs.2.2.2.1.1 hg hr, (frozen_kept hs.2.2.2.1.1 hg hr).trans hs.2.2.2.1.2⟩, ⟨cell_kept hs.2.2.2.2.1 hg hr, (frozen_kept hs.2.2.2.2.1 hg hr).trans hs.2.2.2.2.2⟩⟩) _) (ownFrom_below (Nat.le_refl _) (by simp; omega)))
    (fun c => OwnFrom.and (Own.from (fun s A B row hs hg hr => by obtain ⟨hc, ini, last, e1, e2, e3, e4, e5, e6⟩ := hs; exact ⟨hc, ini, last, e1, e2, e3, cell_kept e4 hg hr, cell_kept e5 hg hr, cell_kept e6 hg hr⟩) _) (ownFrom_below (Nat.le_refl _) (by simp; omega)))
    ⟨⟨by simp, ⟨(((((b0.alloc _).alloc _).alloc _).alloc _).alloc _).cell, ((((b1.alloc _).alloc _).alloc _).alloc _).cell⟩, ⟨(((b2.alloc _).alloc _).alloc _).cell, (((b2.alloc _).alloc _).alloc _).frozen⟩, ⟨((b3.alloc _).alloc _).cell, ((b3.alloc _).alloc _).frozen⟩, ⟨(b4.alloc _).cell, (b4.alloc _).frozen⟩⟩, B0⟩
    (fun x => { tmps := #[.int .i64 r, .int .i64 f, .pointer (some ⟨w.heap.size, 0, none⟩), .pointer (some ⟨w.heap.size + 1, 0, none⟩), .pointer (some ⟨w.heap.size + 1 + 1, 0, none⟩), .pointer (some ⟨w.heap.size + 1 + 1 + 1, 0, none⟩), .pointer (some ⟨w.heap.size + 1 + 1 + 1 + 1, 0, none⟩), .int .i64 (x.1 : Int), .int .i64 (x.2 : Int),
          .int .i64 r, .bool false, .bool false, .int .i64 r, .bool false, .bool false, .bool false, .int .i64 f, .bool false, .bool false, .bool false, .int .i64 f, .int .i64 r, .bool false, .bool false, .int .i64 r, .int .i64 f, .int .i64 (m : Int),
          .func (.func 48) #[] #[.pointer (some ⟨w.heap.size + 1 + 1 + 1 + 1 + 1, 0, none⟩)], .int .i64 (x.1 : Int), .int .i64 (x.2 : Int), undef, undef, undef, undef, undef, undef, undef, undef, undef, undef], defers := [] }) ?assign ?body ?done ?stop
  case assign =>
    intro l x W K hK
    gi_wp2
    exact hK
  case body =>
    rintro l pre x W ⟨⟨hp, ⟨c0, c1⟩, ⟨c2, z2⟩, ⟨c3, z3⟩, ⟨c4, z4⟩⟩, hB⟩ _
    gi_wp2
    · have hx := goodW_yes (r := r) (f := f) (x := x) (by assumption)
      refine ⟨(((KeepsOthers.setCell _ _ _).trans (KeepsOthers.setCell _ _ _)).trans (KeepsOthers.setCell _ _ _)).from _, ⟨rfl, pre, x, rfl, hp, hx, ?_, ?_, ?_⟩, ?_⟩
      · go_simp
      · go_simp
      · go_simp
      · exact bl_set (bl_set (bl_set hB (by simp; omega) _) (by simp; omega) _) (by simp; omega) _
    · have hx := goodW_no (r := r) (f := f) (x := x) (by assumption)
      exact ⟨KeepsFrom.refl _ _, Below.refl _ _, ⟨fun p hp' => (List.mem_append.1 hp').elim (hp p) (fun e => by simp at e; subst e; exact hx), ⟨c0, c1⟩, ⟨c2, z2⟩, ⟨c3, z3⟩, ⟨c4, z4⟩⟩, hB⟩
  case done =>
    rintro D ys W hD rfl ⟨⟨hp, ⟨c0, c1⟩, ⟨c2, z2⟩, ⟨c3, z3⟩, ⟨c4, z4⟩⟩, hB⟩ hK
    gi_wp2
    have hK' := (((KeepsOthers.setCell W ⟨w.heap.size + 1 + 1, 0, none⟩ (.int .i64 0)).trans (KeepsOthers.setCell _ ⟨w.heap.size + 1 + 1 + 1, 0, none⟩ (.int .i64 0))).trans (KeepsOthers.setCell _ ⟨w.heap.size + 1 + 1 + 1 + 1, 0, none⟩ (.bool false))).same D _ hK rfl
    have k2 : (((W.setCell ⟨w.heap.size + 1 + 1, 0, none⟩ (.int .i64 0)).setCell ⟨w.heap.size + 1 + 1 + 1, 0, none⟩ (.int .i64 0)).setCell ⟨w.heap.size + 1 + 1 + 1 + 1, 0, none⟩ (.bool false)).cell? ⟨w.heap.size + 1 + 1, 0, none⟩ = some (.int .i64 0) := by go_simp
    have k3 : (((W.setCell ⟨w.heap.size + 1 + 1, 0, none⟩ (.int .i64 0)).setCell ⟨w.heap.size + 1 + 1 + 1, 0, none⟩ (.int .i64 0)).setCell ⟨w.heap.size + 1 + 1 + 1 + 1, 0, none⟩ (.bool false)).cell? ⟨w.heap.size + 1 + 1 + 1, 0, none⟩ = some (.int .i64 0) := by go_simp
    have k4 : (((W.setCell ⟨w.heap.size + 1 + 1, 0, none⟩ (.int .i64 0)).setCell ⟨w.heap.size + 1 + 1 + 1, 0, none⟩ (.int .i64 0)).setCell ⟨w.heap.size + 1 + 1 + 1 + 1, 0, none⟩ (.bool false)).cell? ⟨w.heap.size + 1 + 1 + 1 + 1, 0, none⟩ = some (.bool false) := by go_simp
    have kB := bl_set (bl_set (bl_set hB (p := ⟨w.heap.size + 1 + 1, 0, none⟩) (by simp; omega) (.int .i64 0)) (p := ⟨w.heap.size + 1 + 1 + 1, 0, none⟩) (by simp; omega) (.int .i64 0)) (p := ⟨w.heap.size + 1 + 1 + 1 + 1, 0, none⟩) (by simp; omega) (.bool false)
    generalize ((W.setCell ⟨w.heap.size + 1 + 1, 0, none⟩ (.int .i64 0)).setCell ⟨w.heap.size + 1 + 1 + 1, 0, none⟩ (.int .i64 0)).setCell ⟨w.heap.size + 1 + 1 + 1 + 1, 0, none⟩ (.bool false) = V at *
    refine ⟨by simp, .inl ⟨_, _, rfl, run_takeDeferred hK', ?_⟩⟩
    have g2 := cell_kept k2 (grownBy_putObj' _ D (.deferred none)) (fun r e => by cases e; exact ⟨_, hK', rfl⟩)
    have g3 := cell_kept k3 (grownBy_putObj' _ D (.deferred none)) (fun r e => by cases e; exact ⟨_, hK', rfl⟩)
    have g4 := cell_kept k4 (grownBy_putObj' _ D (.deferred none)) (fun r e => by cases e; exact ⟨_, hK', rfl⟩)
    refine ⟨.tuple #[.int .i64 0, .int .i64 0, .bool false], by simp [results, Try.f22, go_sem, g2, g3, g4], ⟨0, 0, false, ?_, rfl⟩, kB.trans (belowK_b (w := w) (Nat.le_refl _) _ D _ _ (by simp at hD; omega) hK' rfl rfl)⟩
    rw [HB.out, find_none hp]
  case stop =>
    rintro D c pre W hD hpre ⟨⟨rfl, ini, last, rfl, e2, e3, k2, k3, k4⟩, hB⟩ hK
    gi_wp2
    refine ⟨by simp, .inl ⟨_, _, rfl, run_takeDeferred hK, ?_⟩⟩
    have g2 := cell_kept k2 (grownBy_putObj' _ D (.deferred none)) (fun r e => by cases e; exact ⟨_, hK, rfl⟩)
    have g3 := cell_kept k3 (grownBy_putObj' _ D (.deferred none)) (fun r e => by cases e; exact ⟨_, hK, rfl⟩)
    have g4 := cell_kept k4 (grownBy_putObj' _ D (.deferred none)) (fun r e => by cases e; exact ⟨_, hK, rfl⟩)
    refine ⟨.tuple #[.int .i64 (last.1 : Int), .int .i64 (last.2 : Int), .bool true], by simp [results, Try.f22, go_sem, g2, g3, g4], ⟨_, _, true, ?_, rfl⟩, hB.trans (belowK_b (w := w) (Nat.le_refl _) _ D _ _ (by simp at hD; omega) hK rfl rfl)⟩
    rw [HB.out, find_first hpre e2 e3]
end Go.Proofs.Ytflfpfaebndefaa
