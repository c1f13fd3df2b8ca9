/- Package octets: Put at two octets. No claim of its own; no condition. -/
import Derived.Test.YtflfpfaebndefabBkw
import Derived.RangeFuncFrom
import Derived.RangeFuncBox
import Derived.Deep.OwnRows
namespace Go.Proofs.Ytflfpfaebndefab
open Go.RowKit Go.Shelf
set_option linter.unusedVariables false
set_option linter.unusedSimpArgs false
attribute [local go_sem] Oper.semAt_some
def putS (s : Nat × Nat × Nat) (x : BkA 2) : Nat × Nat × Nat := if x.1.1 = 0 then (s.2.2 % 256, s.2.1, s.2.2 / 256) else (s.1, s.2.2 % 256, s.2.2 / 256)
def putF (v : Nat) (pre : List (BkA 2)) : Nat × Nat × Nat := pre.foldl putS (0, 0, v)
theorem putF_snoc (v : Nat) (pre : List (BkA 2)) (x : BkA 2) : putF v (pre ++ [x]) = putS (putF v pre) x := by simp [putF]
theorem putF_ok (v : Nat) (hv : v < 18446744073709551616) (pre : List (BkA 2)) : (putF v pre).1 < 256 ∧ (putF v pre).2.1 < 256 ∧ (putF v pre).2.2 < 18446744073709551616 := by
  have key : ∀ (pre : List (BkA 2)) (s : Nat × Nat × Nat), s.1 < 256 ∧ s.2.1 < 256 ∧ s.2.2 < 18446744073709551616 → (pre.foldl putS s).1 < 256 ∧ (pre.foldl putS s).2.1 < 256 ∧ (pre.foldl putS s).2.2 < 18446744073709551616 := by
    intro pre
    induction pre with
    | nil => intro s h; exact h
    | cons x pre ih =>
      intro s ⟨h1, h2, h3⟩
      refine ih _ ?_
      unfold putS
      split
      · exact ⟨Nat.mod_lt _ (by omega), h2, by show s.2.2 / 256 < _; omega⟩
      · exact ⟨h1, Nat.mod_lt _ (by omega), by show s.2.2 / 256 < _; omega⟩
  exact key pre _ ⟨by show 0 < 256; omega, by show 0 < 256; omega, hv⟩
theorem putF_end (v : Nat) (xs : List (BkA 2)) (h : xs.map (fun x => x.1.1) = (List.range 2).reverse) : putF v xs = (v / 256 % 256, v % 256, v / 256 / 256) := by
  have hl : xs.length = 2 := by simpa using congrArg List.length h
  match xs, hl, h with
  | [x, y], _, h =>
    simp [List.range, List.range.loop] at h
    obtain ⟨h1, h2⟩ := h
    simp [putF, putS, h1, h2]
theorem block_kept {W W' : World} {row : Option Nat} {b : Nat} {c : Array Value} {t : TypeId} {f : Nat × Nat} (h : W.heap[b]? = some (.cells c t f)) (hg : W.grownBy W' row) (hr : ∀ r, row = some r → ∃ o : Obj, W.heap[r]? = some o ∧ o.isCells = false) : W'.heap[b]? = some (.cells c t f) := by
  refine (hg.block b (blk_lt h) ?_).trans h
  intro e
  obtain ⟨o, h1, h2⟩ := hr b e.symm
  rw [h] at h1
  cases h1
  cases h2
theorem block_set {w : World} {b i : Nat} {cs : Array Value} {u : Value} {t : TypeId} {f : Nat × Nat} (h : w.heap[b]? = some (.cells cs t f)) : (w.setCell ⟨b, i, none⟩ u).heap[b]? = some (.cells (cs.setIfInBounds i u) t f) := by
  obtain ⟨hlt, hk⟩ := Array.getElem?_eq_some_iff.1 h
  show (w.heap.modify b _)[b]? = _
  rw [Array.getElem?_eq_getElem (by rw [Array.size_modify]; exact hlt), Array.getElem_modify_self, hk]
  rfl
theorem block_far {w : World} {b i k : Nat} {o : Obj} {u : Value} (h : w.heap[k]? = some o) (hne : k ≠ b) : (w.setCell ⟨b, i, none⟩ u).heap[k]? = some o := (Below.heap_setCell w ⟨b, i, none⟩ u k hne).trans h
theorem block_free {w : World} {b i : Nat} {cs : Array Value} {t : TypeId} (h : w.heap[b]? = some (.cells cs t (0, 0))) : w.frozen? ⟨b, i, none⟩ = false := by simp [World.frozen?, h]
/-- Between two rounds. -/
def PutI (w : World) (v G : Nat) (pre : List (BkA 2)) (W : World) : Prop :=
  (W.heap[G]? = some (.cells #[.int .u8 ((putF v pre).1 : Int), .int .u8 ((putF v pre).2.1 : Int)] 5) ∧ W.heap[G + 1]? = some (.cells #[.slice (some ⟨G, 0, none⟩) 2 2] 58) ∧ W.heap[G + 1 + 1]? = some (.cells #[.int .u64 ((putF v pre).2.2 : Int)] 110)) ∧ Below w.heap.size w W
set_option maxRecDepth 100000 in
set_option maxHeartbeats 2000000 in
theorem put2_in (F : Fence) (n : Nat) (h63 : F.fn 63) (h71 : F.fn 71) (h74 : F.fn 74) (hro : F.round = none) (hn : 3 ≤ n) (v : Nat) (hv : v < 9223372036854775808) (w : World) :
    CallsIn F n Try.prog 63 #[.int .i64 (v : Int), .int .i64 2] w fun e W' => (e = .returned (.slice (some ⟨w.heap.size, 0, none⟩) 2 2) ∧ W'.heap[w.heap.size]? = some (.cells #[.int .u8 ((v / 256 % 256 : Nat) : Int), .int .u8 ((v % 256 : Nat) : Int)] 5)) ∧ Below w.heap.size w W' := by
  have h1 : 1 ≤ n := by omega
  have hv64 : v < 18446744073709551616 := by omega
  refine callsIn_of_wp_marks Try.func63 rfl h63 ?_ hro
  simp only [Try.ntmps63, List.size_toArray, List.length_cons, List.length_nil, Nat.reduceAdd, Nat.reduceSub, Array.replicate_succ, Array.replicate_zero, List.push_toArray, List.append_toArray, List.nil_append, List.cons_append]
  have hmk : ∀ w : World, (Instr.makeSlice 58 (.int .i64 2) (.int .i64 2)).run Try.prog w = .ok (.slice (some ⟨w.heap.size, 0, none⟩) 2 2) (w.alloc (.cells #[.int .u8 0, .int .u8 0] 5)) := fun w =>
    (run_make_row' (P := Try.prog) 58 5 (.int .u8 0) 1 (by kernel_rfl) (by kernel_rfl) rfl .i64 .i64 2 (by omega) (by omega) w).trans (by rw [show madeCells #[Value.int .u8 0] 2 = #[Value.int .u8 0, Value.int .u8 0] from Array.ext' (by simp [madeCells, List.range, List.range.loop])])
  gi_wp2_with (gi_at_call 71; refine (bk_in F (n - 1) h71 hro _ _ _ _).mono ?_; rintro e w' ⟨rfl, rfl⟩)
  have B0 : Below w.heap.size w ((((w.alloc (.cells #[.int .u8 0, .int .u8 0] 5)).alloc (.cells #[.slice (some ⟨w.heap.size, 0, none⟩) 2 2] 58)).alloc (.cells #[.int .u64 (v : Int)] 110)).alloc (.cells #[.slice (some ⟨w.heap.size, 0, none⟩) 2 2] 58)) := bl_alloc (bl_alloc (bl_alloc (bl_alloc (Below.refl _ _) _) _) _) _
  obtain ⟨W0, hW0⟩ : ∃ W0, ((((w.alloc (.cells #[.int .u8 0, .int .u8 0] 5)).alloc (.cells #[.slice (some ⟨w.heap.size, 0, none⟩) 2 2] 58)).alloc (.cells #[.int .u64 (v : Int)] 110)).alloc (.cells #[.slice (some ⟨w.heap.size, 0, none⟩) 2 2] 58)) = W0 := ⟨_, rfl⟩
  have hs0 : W0.heap.size = w.heap.size + 4 := by rw [← hW0]; simp
  have hA : W0.heap[w.heap.size]? = some (.cells #[.int .u8 0, .int .u8 0] 5 (0, 0)) := by
    rw [← hW0]; exact ((Below.heap_alloc _ _ _ (by simp; omega)).trans ((Below.heap_alloc _ _ _ (by simp; omega)).trans (Below.heap_alloc _ _ _ (by simp)))).trans (World.alloc_heap_new w _)
  have hB : Boxed W0 (w.heap.size + 1) 58 (.slice (some ⟨w.heap.size, 0, none⟩) 2 2) := by
    rw [← hW0]
    have b1 := Boxed.new (w.alloc (.cells #[.int .u8 0, .int .u8 0] 5)) 58 (.slice (some ⟨w.heap.size, 0, none⟩) 2 2)
    simp only [World.size_alloc] at b1
    exact (b1.alloc _).alloc _
  have hU : Boxed W0 (w.heap.size + 1 + 1) 110 (.int .u64 (v : Int)) := by
    rw [← hW0]
    have b1 := Boxed.new ((w.alloc (.cells #[.int .u8 0, .int .u8 0] 5)).alloc (.cells #[.slice (some ⟨w.heap.size, 0, none⟩) 2 2] 58)) 110 (.int .u64 (v : Int))
    simp only [World.size_alloc] at b1
    exact b1.alloc _
  have hC : Boxed W0 (w.heap.size + 1 + 1 + 1) 58 (.slice (some ⟨w.heap.size, 0, none⟩) 2 2) := by
    rw [← hW0]
    have b1 := Boxed.new (((w.alloc (.cells #[.int .u8 0, .int .u8 0] 5)).alloc (.cells #[.slice (some ⟨w.heap.size, 0, none⟩) 2 2] 58)).alloc (.cells #[.int .u64 (v : Int)] 110)) 58 (.slice (some ⟨w.heap.size, 0, none⟩) 2 2)
    simp only [World.size_alloc] at b1
    exact b1
  rw [hW0] at B0 ⊢
  clear hW0
  refine wpIn_rangeFunc_ownG hro h1 (gf := 74) (lb := #[.pointer (some ⟨w.heap.size + 1 + 1 + 1, 0, none⟩)]) rfl h74 (enters_of Try.func74 (by kernel_rfl) rfl)
    (bk_stops F (n - 1) h74 hro (by omega) (w.heap.size + 1 + 1 + 1) w.heap.size 2 2 (by omega) W0 (by omega) (by omega) hC.cell ⟨[0, 0], rfl, hA⟩) bkK_t ?kb (Below.refl _ _) (fun _ => rfl)
    (PutI w v w.heap.size) (fun c pre W => False ∧ Below w.heap.size w W)
    (OwnFrom.and (Own.from (fun s A B row hs hg hr => ⟨block_kept hs.1 hg hr, block_kept hs.2.1 hg hr, block_kept hs.2.2 hg hr⟩) _) (ownFrom_below (Nat.le_refl _) (by omega)))
    (fun c => OwnFrom.and (Own.from (fun s A B row hs hg hr => hs) _) (ownFrom_below (Nat.le_refl _) (by omega)))
    ⟨⟨hA, hB, hU⟩, B0⟩
    (fun x => { tmps := #[.int .i64 (v : Int), .int .i64 2, undef, undef, .slice none 0 0, .pointer (some ⟨w.heap.size + 1, 0, none⟩), .pointer (some ⟨w.heap.size + 1 + 1, 0, none⟩), .int .i64 (x.1.1 : Int), .int .i64 2, .int .i64 2, .int .i64 2, .slice (some ⟨w.heap.size, 0, none⟩) 2 2, .int .i64 (v : Int), .int .u64 (v : Int), .slice (some ⟨w.heap.size, 0, none⟩) 2 2, .func (.func 74) #[] #[.pointer (some ⟨w.heap.size + 1 + 1 + 1, 0, none⟩)], .int .i64 (x.1.1 : Int), .int .u8 (x.1.2.toNat : Int), undef, undef, undef, undef, undef, undef, undef, undef], defers := [] }) ?assign ?body ?done ?stop
  case kb =>
    intro W l o o' hl ho hc hwk
    refine ⟨World.cell?_of_block ((grownBy_putObj' W l o').block (w.heap.size + 1 + 1 + 1) (by have := blk_lt ho; omega) (fun e => by cases e; omega)), fun ⟨l2, e1, e2⟩ => ⟨l2, e1, ((grownBy_putObj' W l o').block _ (blk_lt e2) (fun e => by cases e; omega)).trans e2⟩⟩
  case assign =>
    intro l x W K hK
    gi_wp2
    exact hK
  case body =>
    rintro l pre ⟨⟨i, b⟩, hi⟩ W ⟨⟨kA, kB, kU⟩, hBW⟩ _
    have hok := putF_ok v hv64 pre
    have hsn := putF_snoc v pre ⟨(i, b), hi⟩
    obtain ⟨s, hs⟩ : ∃ s, putF v pre = s := ⟨_, rfl⟩
    rw [hs] at hok hsn kA kU
    clear hs
    have HS := Lib.hid hsn
    clear hsn
    obtain ⟨s0, s1, u⟩ := s
    obtain ⟨k0, k1, ku⟩ := hok
    dsimp only at kA kB kU k0 k1 ku ⊢
    have cB := Boxed.cell kB
    have cU := Boxed.cell kU
    have zU := Boxed.frozen kU
    have z0 := block_free (i := 0) kA
    have z1 := block_free (i := 1) kA
    have hb8 : IntKind.u8.wrap (u : Int) = ((u % 256 : Nat) : Int) := by
      simp [IntKind.wrap, IntKind.bits, IntKind.signed]
    have c0 : W.cell? ⟨w.heap.size, 0, none⟩ = some (.int .u8 (s0 : Int)) := block_cell kA rfl
    have c1 : W.cell? ⟨w.heap.size, 1, none⟩ = some (.int .u8 (s1 : Int)) := block_cell kA rfl
    have em : (u : Int) % 256 = ((u % 256 : Nat) : Int) := by omega
    have ed : (u : Int) / 256 = ((u / 256 : Nat) : Int) := by omega
    have EM := Lib.hid em
    have ED := Lib.hid ed
    clear em ed
    rcases (show i = 0 ∨ i = 1 by omega) with rfl | rfl
    · gi_wp2
      rw [EM.out, ED.out]
      refine ⟨((KeepsOthers.setCell _ _ _).trans (KeepsOthers.setCell _ _ _)).from _, ⟨?_, ?_⟩, ?_⟩
      · rw [World.cell?_setCell_far _ _ _ _ (by show w.heap.size + 1 + 1 ≠ w.heap.size + 1 + 1 + 1; omega), World.cell?_setCell_far _ _ _ _ (by show w.heap.size ≠ w.heap.size + 1 + 1 + 1; omega)]
      · rintro ⟨l, e1, e2⟩
        rw [kA] at e2
        exact ⟨[UInt8.ofNat (u % 256), UInt8.ofNat s1], rfl, (block_far (block_set kA) (by omega)).trans (by simp [octCells]; omega)⟩
      · unfold PutI
        rw [HS.out]
        exact ⟨⟨block_far (block_set kA) (by omega), block_far (block_far kB (by omega)) (by omega), block_set (block_far kU (by omega))⟩, bl_set (bl_set hBW (p := ⟨w.heap.size, 0, none⟩) (by simp) _) (p := ⟨w.heap.size + 1 + 1, 0, none⟩) (by simp; omega) _⟩
    · gi_wp2
      rw [EM.out, ED.out]
      refine ⟨((KeepsOthers.setCell _ _ _).trans (KeepsOthers.setCell _ _ _)).from _, ⟨?_, ?_⟩, ?_⟩
      · rw [World.cell?_setCell_far _ _ _ _ (by show w.heap.size + 1 + 1 ≠ w.heap.size + 1 + 1 + 1; omega), World.cell?_setCell_far _ _ _ _ (by show w.heap.size ≠ w.heap.size + 1 + 1 + 1; omega)]
      · rintro ⟨l, e1, e2⟩
        rw [kA] at e2
        exact ⟨[UInt8.ofNat s0, UInt8.ofNat (u % 256)], rfl, (block_far (block_set kA) (by omega)).trans (by simp [octCells]; omega)⟩
      · unfold PutI
        rw [HS.out]
        exact ⟨⟨block_far (block_set kA) (by omega), block_far (block_far kB (by omega)) (by omega), block_set (block_far kU (by omega))⟩, bl_set (bl_set hBW (p := ⟨w.heap.size, 1, none⟩) (by simp) _) (p := ⟨w.heap.size + 1 + 1, 0, none⟩) (by simp; omega) _⟩
  case done =>
    rintro D xs W hD hxs ⟨⟨kA, kB, kU⟩, hBW⟩ hK
    rw [putF_end v xs hxs] at kA
    clear hxs kU
    have cB := Boxed.cell kB
    gi_wp2
    refine ⟨by simp, .inl ⟨_, _, rfl, run_takeDeferred hK, ?_⟩⟩
    refine ⟨.slice (some ⟨w.heap.size, 0, none⟩) 2 2, by simp [results, Try.f63, go_sem], ⟨rfl, ((grownBy_putObj' _ D _).block _ (blk_lt kA) (fun e => by cases e; omega)).trans kA⟩, hBW.trans (belowK_b (w := w) (Nat.le_refl _) _ D _ _ (by omega) hK rfl rfl)⟩
  case stop =>
    rintro D c pre W hD _ ⟨h, _⟩ hK
    exact h.elim
end Go.Proofs.Ytflfpfaebndefab
