/- Package octets: Put at any size from 1 to 8. No claim of its own; no condition. (The numbers are those of seat YtcbfpdenjdgnlaaGreat.) -/
import Derived.Test.YtcbfpdenjdgnlaaGreatQt05
import Derived.RangeFuncFrom
import Derived.RangeFuncBox
import Derived.RangeFuncWrites
import Derived.Deep.OwnRows
namespace Go.Proofs.YtcbfpdenjdgnlaaGreat
open Go.RowKit Go.Shelf
set_option linter.unusedVariables false
set_option linter.unusedSimpArgs false
attribute [local go_sem] Oper.semAt_some
def ptS {n : Nat} (s : List UInt8 × Nat) (x : BkA n) : List UInt8 × Nat := (s.1.set x.1.1 (UInt8.ofNat s.2), s.2 / 256)
def ptF (n v : Nat) (pre : List (BkA n)) : List UInt8 × Nat := pre.foldl ptS (List.replicate n 0, v)
theorem ptF_snoc (n v : Nat) (pre : List (BkA n)) (x : BkA n) : ptF n v (pre ++ [x]) = ptS (ptF n v pre) x := by simp [ptF]
theorem ptF_ok (n v : Nat) (hv : v < 18446744073709551616) (pre : List (BkA n)) : (ptF n v pre).1.length = n ∧ (ptF n v pre).2 < 18446744073709551616 := by
  have key : ∀ (pre : List (BkA n)) (s : List UInt8 × Nat), s.1.length = n ∧ s.2 < 18446744073709551616 → (pre.foldl ptS s).1.length = n ∧ (pre.foldl ptS s).2 < 18446744073709551616 := by
    intro pre
    induction pre with
    | nil => intro s h; exact h
    | cons x pre ih =>
      intro s ⟨h1, h2⟩
      exact ih _ ⟨by show (s.1.set _ _).length = n; rw [List.length_set]; exact h1, by show s.2 / 256 < _; omega⟩
  exact key pre _ ⟨by simp, hv⟩
/-- A number's octets. -/
def putB (n v : Nat) : List UInt8 := (List.range n).map fun i => UInt8.ofNat (v / 256 ^ (n - 1 - i))
/-- The last j octets are laid. -/
def ptL (n v j : Nat) : List UInt8 := (List.range n).map fun i => if n - j ≤ i then UInt8.ofNat (v / 256 ^ (n - 1 - i)) else 0
theorem ptF_pre (n v : Nat) : ∀ (j : Nat) (pre : List (BkA n)), j ≤ n → pre.map (fun x => x.1.1) = ((List.range n).reverse).take j → ptF n v pre = (ptL n v j, v / 256 ^ j)
  | 0, pre, _, h => by
    have : pre = [] := by simpa using h
    subst this
    unfold ptF ptL
    simp only [List.foldl_nil, Nat.sub_zero, Nat.pow_zero, Nat.div_one, Prod.mk.injEq, and_true]
    apply List.ext_getElem
    · simp
    · intro i h1 h2
      simp at h1 ⊢
      intro h3
      omega
  | j + 1, pre, hj, h => by
    have hl : pre.length = j + 1 := by
      have := congrArg List.length h
      simp at this
      omega
    obtain ⟨p, x, rfl⟩ : ∃ p x, pre = p ++ [x] := by
      refine ⟨pre.dropLast, pre.getLast (by intro e; subst e; simp at hl), (List.dropLast_concat_getLast _).symm⟩
    rw [List.take_add_one, List.map_append] at h
    have hpl : p.length = j := by simpa using hl
    obtain ⟨h1, h2⟩ := List.append_inj h (by rw [List.length_map, hpl, List.length_take, List.length_reverse, List.length_range]; omega)
    have hx : x.1.1 = n - 1 - j := by
      rw [List.getElem?_reverse (by simpa using (by omega : j < n))] at h2
      simp only [List.map_cons, List.map_nil, List.length_range] at h2
      rw [List.getElem?_range (by omega)] at h2
      simpa using h2
    rw [ptF_snoc, ptF_pre n v j p (by omega) h1]
    unfold ptS
    rw [hx]
    dsimp only
    refine Prod.ext ?_ ?_
    · show (ptL n v j).set (n - 1 - j) _ = ptL n v (j + 1)
      unfold ptL
      apply List.ext_getElem
      · simp
      · intro i h3 h4
        simp only [List.length_set, List.length_map, List.length_range] at h3
        rw [List.getElem_set]
        simp only [List.getElem_map, List.getElem_range]
        by_cases e : n - 1 - j = i
        · rw [if_pos e, if_pos (by omega), show n - 1 - i = j by omega]
        · rw [if_neg e]
          by_cases e2 : n - j ≤ i
          · rw [if_pos e2, if_pos (by omega)]
          · rw [if_neg e2, if_neg (by omega)]
    · show v / 256 ^ j / 256 = v / 256 ^ (j + 1)
      rw [Nat.div_div_eq_div_mul, Nat.pow_succ]
theorem ptF_end (n v : Nat) (xs : List (BkA n)) (h : xs.map (fun x => x.1.1) = (List.range n).reverse) : (ptF n v xs).1 = putB n v := by
  rw [ptF_pre n v n xs (Nat.le_refl _) (by rw [h, List.take_of_length_le (by simp)])]
  unfold ptL putB
  simp
theorem oct_set (l : List UInt8) (i u : Nat) : ((octCells l).toArray).setIfInBounds i (.int .u8 ((u % 256 : Nat) : Int)) = (octCells (l.set i (UInt8.ofNat u))).toArray := by
  unfold octCells
  rw [List.setIfInBounds_toArray, List.map_set]
  congr 2
theorem octs_made (n : Nat) : madeCells #[Value.int .u8 0] n = (octCells (List.replicate n 0)).toArray := by
  apply Array.ext'
  apply List.ext_getElem
  · simp [madeCells, octCells]
  · intro i h1 h2
    simp [madeCells, octCells, Nat.mod_one]
theorem boxed_set' {W : World} {b t : Nat} {u v : Value} (h : Boxed W b t u) : Boxed (W.setCell ⟨b, 0, none⟩ v) b t v := Boxed.set v h
theorem block_free {w : World} {b i : Nat} {cs : Array Value} {t : TypeId} (h : w.heap[b]? = some (.cells cs t (0, 0))) : w.frozen? ⟨b, i, none⟩ = false := by simp [World.frozen?, h]
theorem block_kept {W W' : World} {row : Option Nat} {b : Nat} {c : Array Value} {t : TypeId} {f : Nat × Nat} (h : W.heap[b]? = some (.cells c t f)) (hg : W.grownBy W' row) (hr : ∀ r, row = some r → ∃ o : Obj, W.heap[r]? = some o ∧ o.isCells = false) : W'.heap[b]? = some (.cells c t f) := by
  refine (hg.block b (blk_lt h) ?_).trans h
  intro e
  obtain ⟨o, h1, h2⟩ := hr b e.symm
  rw [h] at h1
  cases h1
  cases h2
/-- Between two rounds. -/
def PtI (n : Nat) (w : World) (v G : Nat) (pre : List (BkA n)) (W : World) : Prop :=
  (W.heap[G]? = some (.cells (octCells (ptF n v pre).1).toArray 5) ∧ Boxed W (G + 1) 60 (.slice (some ⟨G, 0, none⟩) n n) ∧ Boxed W (G + 1 + 1) 261 (.int .u64 ((ptF n v pre).2 : Int))) ∧ Below w.heap.size w W
set_option maxRecDepth 100000 in
set_option maxHeartbeats 4000000 in
theorem putn_in (F : Fence) (m : Nat) (h80 : F.fn 153) (h113 : F.fn 220) (h150 : F.fn 261) (hro : F.round = none) (hm : 3 ≤ m) (n v : Nat) (hn1 : 1 ≤ n) (hn8 : n ≤ 8) (hv : v < 9223372036854775808) (w : World) :
    CallsIn F m Tryz.prog 153 #[.int .i64 (v : Int), .int .i64 (n : Int)] w fun e W' => (e = .returned (.slice (some ⟨w.heap.size, 0, none⟩) n n) ∧ W'.heap[w.heap.size]? = some (.cells (octCells (putB n v)).toArray 5)) ∧ Below w.heap.size w W' := by
  have h1 : 1 ≤ m := by omega
  have hv64 : v < 18446744073709551616 := by omega
  refine callsIn_of_wp_marks Tryz.func153 rfl h80 ?_ hro
  simp only [Tryz.ntmps153, List.size_toArray, List.length_cons, List.length_nil, Nat.reduceAdd, Nat.reduceSub, Array.replicate_succ, Array.replicate_zero, List.push_toArray, List.append_toArray, List.nil_append, List.cons_append]
  have hmk : ∀ w : World, (Instr.makeSlice 60 (.int .i64 (n : Int)) (.int .i64 (n : Int))).run Tryz.prog w = .ok (.slice (some ⟨w.heap.size, 0, none⟩) n n) (w.alloc (.cells (octCells (List.replicate n 0)).toArray 5)) := fun w =>
    (run_make_row' (P := Tryz.prog) 60 5 (.int .u8 0) 1 (by kernel_rfl) (by kernel_rfl) rfl .i64 .i64 n (by omega) (by omega) w).trans (by rw [octs_made])
  have hmx : ∀ w : World, (Builtin.max_ #[3, 3] 3 #[.int .i64 (n : Int), .int .i64 0]).run Tryz.prog w = .ok (.int .i64 (n : Int)) w := fun w => by rw [run_max2, Int.max_eq_left (by omega)]
  have hmn : ∀ w : World, (Builtin.min_ #[3, 3] 3 #[.int .i64 (n : Int), .int .i64 8]).run Tryz.prog w = .ok (.int .i64 (n : Int)) w := fun w => by rw [run_min2, Int.min_eq_left (by omega)]
  gi_wp2_with (gi_at_call 220; refine (bk_in F (m - 1) h113 hro _ _ _ _).mono ?_; rintro e w' ⟨rfl, rfl⟩)
  have B0 : Below w.heap.size w ((((w.alloc (.cells (octCells (List.replicate n 0)).toArray 5)).alloc (.cells #[.slice (some ⟨w.heap.size, 0, none⟩) n n] 60)).alloc (.cells #[.int .u64 (v : Int)] 261)).alloc (.cells #[.slice (some ⟨w.heap.size, 0, none⟩) n n] 60)) := bl_alloc (bl_alloc (bl_alloc (bl_alloc (Below.refl _ _) _) _) _) _
  obtain ⟨W0, hW0⟩ : ∃ W0, ((((w.alloc (.cells (octCells (List.replicate n 0)).toArray 5)).alloc (.cells #[.slice (some ⟨w.heap.size, 0, none⟩) n n] 60)).alloc (.cells #[.int .u64 (v : Int)] 261)).alloc (.cells #[.slice (some ⟨w.heap.size, 0, none⟩) n n] 60)) = W0 := ⟨_, rfl⟩
  have hs0 : w.heap.size + 4 ≤ W0.heap.size := by rw [← hW0]; simp
  have hA : W0.heap[w.heap.size]? = some (.cells (octCells (List.replicate n 0)).toArray 5 (0, 0)) := by
    rw [← hW0]; exact alloc_old (alloc_old (alloc_old (alloc_new w _) _) _) _
  have hB : Boxed W0 (w.heap.size + 1) 60 (.slice (some ⟨w.heap.size, 0, none⟩) n n) := by
    rw [← hW0]
    have b1 := Boxed.new (w.alloc (.cells (octCells (List.replicate n 0)).toArray 5)) 60 (.slice (some ⟨w.heap.size, 0, none⟩) n n)
    simp only [World.size_alloc] at b1
    exact (b1.alloc _).alloc _
  have hU : Boxed W0 (w.heap.size + 1 + 1) 261 (.int .u64 (v : Int)) := by
    rw [← hW0]
    have b1 := Boxed.new ((w.alloc (.cells (octCells (List.replicate n 0)).toArray 5)).alloc (.cells #[.slice (some ⟨w.heap.size, 0, none⟩) n n] 60)) 261 (.int .u64 (v : Int))
    simp only [World.size_alloc] at b1
    exact b1.alloc _
  have hC : Boxed W0 (w.heap.size + 1 + 1 + 1) 60 (.slice (some ⟨w.heap.size, 0, none⟩) n n) := by
    rw [← hW0]
    have b1 := Boxed.new (((w.alloc (.cells (octCells (List.replicate n 0)).toArray 5)).alloc (.cells #[.slice (some ⟨w.heap.size, 0, none⟩) n n] 60)).alloc (.cells #[.int .u64 (v : Int)] 261)) 60 (.slice (some ⟨w.heap.size, 0, none⟩) n n)
    simp only [World.size_alloc] at b1
    exact b1
  rw [hW0] at B0 ⊢
  clear hW0
  refine wpIn_rangeFunc_ownG hro h1 (gf := 261) (lb := #[.pointer (some ⟨w.heap.size + 1 + 1 + 1, 0, none⟩)]) rfl h150 (enters_of Tryz.func261 (by kernel_rfl) rfl)
    (bk_stops F (m - 1) h150 hro (by omega) (w.heap.size + 1 + 1 + 1) w.heap.size n n hn8 W0 (by omega) (by omega) hC.cell ⟨List.replicate n 0, by simp, hA⟩) bkK_t ?kb (Below.refl _ _) (fun _ => rfl)
    (PtI n w v w.heap.size) (fun c pre W => False ∧ Below w.heap.size w W)
    (OwnFrom.and (Own.from (fun s A B row hs hg hr => ⟨block_kept hs.1 hg hr, block_kept hs.2.1 hg hr, block_kept hs.2.2 hg hr⟩) _) (ownFrom_below (Nat.le_refl _) (by omega)))
    (fun c => OwnFrom.and (Own.from (fun s A B row hs hg hr => hs) _) (ownFrom_below (Nat.le_refl _) (by omega)))
    ⟨⟨hA, hB, hU⟩, B0⟩
    (fun x => { tmps := #[.int .i64 (v : Int), .int .i64 (n : Int), undef, undef, .slice none 0 0, .pointer (some ⟨w.heap.size + 1, 0, none⟩), .pointer (some ⟨w.heap.size + 1 + 1, 0, none⟩), .int .i64 (x.1.1 : Int), .int .i64 (n : Int), .int .i64 (n : Int), .int .i64 (n : Int), .slice (some ⟨w.heap.size, 0, none⟩) n n, .int .i64 (v : Int), .int .u64 (v : Int), .slice (some ⟨w.heap.size, 0, none⟩) n n, .func (.func 261) #[] #[.pointer (some ⟨w.heap.size + 1 + 1 + 1, 0, none⟩)], .int .i64 (x.1.1 : Int), .int .u8 (x.1.2.toNat : Int), undef, undef, undef, undef, undef, undef, undef, undef], defers := [] }) ?assign ?body ?done ?stop
  case kb =>
    intro W l o o' hl ho hc hwk
    refine ⟨World.cell?_of_block ((grownBy_putObj' W l o').block (w.heap.size + 1 + 1 + 1) (by have := blk_lt ho; omega) (fun e => by cases e; omega)), fun ⟨l2, e1, e2⟩ => ⟨l2, e1, ((grownBy_putObj' W l o').block _ (blk_lt e2) (fun e => by cases e; omega)).trans e2⟩⟩
  case assign =>
    intro l x W K hK
    gi_wp2
    exact hK
  case body =>
    rintro l pre ⟨⟨i, b⟩, hi⟩ W ⟨⟨kA, kB, kU⟩, hBW⟩ _
    have hok := ptF_ok n v hv64 pre
    have hsn := ptF_snoc n v pre ⟨(i, b), hi⟩
    obtain ⟨s, hs⟩ : ∃ s, ptF n v pre = s := ⟨_, rfl⟩
    rw [hs] at hok hsn kA kU
    clear hs
    have HS := Lib.hid hsn
    clear hsn
    obtain ⟨s, u⟩ := s
    obtain ⟨kl, ku⟩ := hok
    dsimp only at kA kU kl ku hi ⊢
    have cB := Boxed.cell kB
    have cU := Boxed.cell kU
    have zU := Boxed.frozen kU
    have z0 := block_free (i := i) kA
    obtain ⟨o, ho⟩ := octCell (W := W) (G := w.heap.size) (n := n) ⟨s, kl, kA⟩ hi
    have hiI : (i : Int) < (n : Int) := by omega
    have hi0 : (0 : Int) ≤ (i : Int) := by omega
    have em : (u : Int) % 256 = ((u % 256 : Nat) : Int) := by omega
    have ed : (u : Int) / 256 = ((u / 256 : Nat) : Int) := by omega
    have EM := Lib.hid em
    have ED := Lib.hid ed
    have KL := Lib.hid kl
    clear em ed kl
    gi_wp2
    rw [EM.out, ED.out]
    have kA2 : (W.setCell ⟨w.heap.size, i, none⟩ (.int .u8 ((u % 256 : Nat) : Int))).heap[w.heap.size]? = some (.cells (octCells (s.set i (UInt8.ofNat u))).toArray 5 (0, 0)) := by
      rw [← oct_set]; exact block_set kA
    have kA3 := block_far (b := w.heap.size + 1 + 1) (i := 0) (u := .int .u64 ((u / 256 : Nat) : Int)) kA2 (by omega)
    refine ⟨((KeepsOthers.setCell _ _ _).trans (KeepsOthers.setCell _ _ _)).from _, ⟨?_, ?_⟩, ?_⟩
    · rw [World.cell?_setCell_far _ _ _ _ (by show w.heap.size + 1 + 1 ≠ w.heap.size + 1 + 1 + 1; omega), World.cell?_setCell_far _ _ _ _ (by show w.heap.size ≠ w.heap.size + 1 + 1 + 1; omega)]
    · intro _
      exact ⟨s.set i (UInt8.ofNat u), by rw [List.length_set]; exact KL.out, kA3⟩
    · unfold PtI
      rw [HS.out]
      exact ⟨⟨kA3, block_far (block_far kB (by omega)) (by omega), Boxed.set (v := .int .u64 (u : Int)) _ (block_far kU (by omega))⟩, bl_set (bl_set hBW (p := ⟨w.heap.size, i, none⟩) (by simp) _) (p := ⟨w.heap.size + 1 + 1, 0, none⟩) (by simp; omega) _⟩
  case done =>
    rintro D xs W hD hxs ⟨⟨kA, kB, kU⟩, hBW⟩ hK
    rw [ptF_end n v xs hxs] at kA
    clear hxs kU
    have cB := Boxed.cell kB
    gi_wp2
    refine ⟨by simp, .inl ⟨_, _, rfl, run_takeDeferred hK, ?_⟩⟩
    refine ⟨.slice (some ⟨w.heap.size, 0, none⟩) n n, by simp [results, Tryz.f153, go_sem], ⟨rfl, ((grownBy_putObj' _ D _).block _ (blk_lt kA) (fun e => by cases e; omega)).trans kA⟩, hBW.trans (belowK_b (w := w) (Nat.le_refl _) _ D _ _ (by omega) hK rfl rfl)⟩
  case stop =>
    rintro D c pre W hD _ ⟨h, _⟩ hK
    exact h.elim
theorem octs_reps (B : Nat) (w : World) : ∀ l : List UInt8, Kd.Reps Kd.u8 B w l (octCells l)
  | [] => .nil
  | b :: l => .cons (show Kd.u8.K _ _ b [.int .u8 (b.toNat : Int)] from rfl) (octs_reps B w l)
theorem putB_len (n v : Nat) : (putB n v).length = n := by simp [putB]
theorem putn_row (n v : Nat) (hn1 : 1 ≤ n) (hn8 : n ≤ 8) (hv : v < 9223372036854775808) (w : World) :
    Calls Tryz.prog 153 #[.int .i64 (v : Int), .int .i64 (n : Int)] w fun e w' => (∃ g, e = .returned (.slice (some g) n n) ∧ ∀ B, Kd.u8.Row 5 B w' (some g) (putB n v)) ∧ Below w.heap.size w w' := by
  refine (callsIn_wide.1 (putn_in Fence.wide 3 trivial trivial trivial rfl (by omega) n v hn1 hn8 hv w)).mono ?_
  rintro e w' ⟨⟨rfl, hb⟩, bel⟩
  refine ⟨⟨_, rfl, fun B => ?_⟩, bel⟩
  have ho := own_of_block (d := Kd.u8) (B := B) (base := w.heap.size) (n := n) (xs := putB n v) hb (octs_reps _ _ _) (Nat.le_refl _) (putB_len n v).symm (by simp only [maxLen]; omega)
  obtain ⟨A, c, h1, _, _, h2, _⟩ := Kd.own_row ho
  rw [putB_len] at h1
  cases h1
  exact h2
end Go.Proofs.YtcbfpdenjdgnlaaGreat
