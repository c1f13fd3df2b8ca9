/- Package slices: Repeat, of one account four times; package bank: Genesis. No claim of its own; no condition. -/
import Derived.Test.YtflfpfaebndefabBankB
namespace Go.Proofs.Ytflfpfaebndefab
open Go.ChangeShapes Go.WideShapes Go.ChangeAt Go.RowKit
set_option linter.unusedVariables false
set_option linter.unusedSimpArgs false

def gen : Account := ⟨250, 0⟩
def half (n : Nat) : List Account := List.replicate n gen ++ List.replicate (4 - n) ⟨0, 0⟩
/-- One copy within the new row. -/
theorem copy_half (w : World) (G n : Nat) (hn : n = 1 ∨ n = 2) (hb : w.heap[G]? = some (.cells (accCells (half n)).toArray 69 (0, 0))) (hi : (Try.prog.info? 69).map (·.size) = some 2) (c1 c2 : Nat) :
    ∃ w', (Builtin.copy_ #[22, 22] 3 #[.slice (some ⟨G, n * 2, none⟩) (4 - n) c1, .slice (some ⟨G, 0, none⟩) n c2]).run Try.prog w = .ok (goInt n) w' ∧ w'.heap[G]? = some (.cells (accCells (half (n + n))).toArray 69 (0, 0)) ∧ w.grownBy w' (some G) := by
  have hcell : ∀ (j : Nat) (v : Value), (accCells (half n))[j]? = some v → w.cell? ((⟨G, 0, none⟩ : Addr).add j) = some v := by
    intro j v hj
    have h4 : (⟨G, 0, none⟩ : Addr).add j = ⟨G, j, none⟩ := by
      unfold Addr.add
      split
      · rename_i h0; rw [h0]
      · simp
    rw [h4]
    exact block_cell hb (by simpa using hj)
  rcases hn with rfl | rfl
  · have h := run_copy_rowN w 22 22 3 69 2 G 2 3 c1 ⟨G, 0, none⟩ 1 c2 (accCells (half 1)).toArray 69 [.int .i64 250, .int .i64 0] Try.underlying22 hi hb (by decide)
      (fun j v hj => hcell j v (by
        match j, hj with
        | 0, hj => exact hj
        | 1, hj => exact hj
        | j + 2, hj => simp at hj)) (by simp [accCells, half, gen]) (by intro v hv; simp at hv; rcases hv with rfl | rfl <;> rfl)
    refine ⟨_, h, ?_, ⟨rfl, rfl, rfl, by simp [World.setRow], fun k hk hne => setRow_other w G k _ (fun e => hne (by rw [e]))⟩⟩
    rw [setRow_heap w G _ _ 69 _ hb]
    rfl
  · have h := run_copy_rowN w 22 22 3 69 2 G 4 2 c1 ⟨G, 0, none⟩ 2 c2 (accCells (half 2)).toArray 69 [.int .i64 250, .int .i64 0, .int .i64 250, .int .i64 0] Try.underlying22 hi hb (by decide)
      (fun j v hj => hcell j v (by
        match j, hj with
        | 0, hj => exact hj
        | 1, hj => exact hj
        | 2, hj => exact hj
        | 3, hj => exact hj
        | j + 4, hj => simp at hj)) (by simp [accCells, half, gen]) (by intro v hv; simp at hv; rcases hv with rfl | rfl | rfl | rfl <;> rfl)
    refine ⟨_, h, ?_, ⟨rfl, rfl, rfl, by simp [World.setRow], fun k hk hne => setRow_other w G k _ (fun e => hne (by rw [e]))⟩⟩
    rw [setRow_heap w G _ _ 69 _ hb]
    rfl
theorem copy_first (w : World) (G G0 c1 c2 : Nat) (cur : Array Value) (hb : w.heap[G]? = some (.cells cur 69 (0, 0))) (hcur : cur = (accCells (half 0)).toArray) (h0 : w.heap[G0]? = some (.cells #[.int .i64 250, .int .i64 0] 69 (0, 0))) (hi : (Try.prog.info? 69).map (·.size) = some 2) :
    ∃ w', (Builtin.copy_ #[22, 22] 3 #[.slice (some ⟨G, 0, none⟩) 4 c1, .slice (some ⟨G0, 0, none⟩) 1 c2]).run Try.prog w = .ok (goInt 1) w' ∧ w'.heap[G]? = some (.cells (accCells (half 1)).toArray 69 (0, 0)) ∧ w.grownBy w' (some G) := by
  subst hcur
  have h := run_copy_rowN w 22 22 3 69 2 G 0 4 c1 ⟨G0, 0, none⟩ 1 c2 (accCells (half 0)).toArray 69 [.int .i64 250, .int .i64 0] Try.underlying22 hi hb (by decide)
    (fun j v hj => by
      match j, hj with
      | 0, hj => exact block_cell h0 hj
      | 1, hj => exact block_cell h0 hj
      | j + 2, hj => simp at hj) (by simp [accCells, half, gen]) (by intro v hv; simp at hv; rcases hv with rfl | rfl <;> rfl)
  refine ⟨_, h, ?_, ⟨rfl, rfl, rfl, by simp [World.setRow], fun k hk hne => setRow_other w G k _ (fun e => hne (by rw [e]))⟩⟩
  rw [setRow_heap w G _ _ 69 _ hb]
  rfl
theorem gen_ok : AccOk (half 4) := by
  intro a ha
  obtain rfl : a = gen := by simpa [half] using ha
  unfold IntOk gen
  decide
theorem gen_small : Small (half 4) := by
  intro a ha
  obtain rfl : a = gen := by simpa [half] using ha
  decide
theorem block_made {w : World} {base n g : Nat} {e : TypeId} {size : Nat} {cs : List Value} (h : w.ownsRow base e size (.slice (some ⟨g, 0, none⟩) n n) n cs) : w.heap[g]? = some (.cells cs.toArray e (0, 0)) := by
  rcases h.2 with ⟨h', _⟩ | ⟨g', cap, cur, h', hb, hh, _, _, hs, ht⟩
  · simp at h'
  · simp only [Value.slice.injEq, Option.some.injEq, Addr.mk.injEq, and_true, true_and] at h'
    obtain ⟨rfl, rfl⟩ := h'
    rw [hh, ← ht, List.take_of_length_le (by simp [hs])]
set_option maxHeartbeats 1600000 in
set_option maxRecDepth 100000 in
theorem repeat_calls (w : World) (G0 : Nat) (h0 : w.heap[G0]? = some (.cells #[.int .i64 250, .int .i64 0] 69 (0, 0))) :
    Calls Try.prog 55 #[.slice (some ⟨G0, 0, none⟩) 1 1, .int .i64 4] w
      fun e w' => (∃ v, e = .returned v ∧ kAccount.Own 69 w.heap.size w' w.heap.size v (half 4)) ∧ Below w.heap.size w w' := by
  obtain ⟨i0, hi, hz0, hz1, hz2⟩ := info_parts info66
  have hin : (Try.prog.info? 69).map (·.size) = some 2 := by rw [hi]; exact congrArg some hz1
  go_enter Try.func55, Try.ntmps55
  go_wp2_with (first
    | (go_at_call 69; refine (mul_14 _).mono ?_; rintro e w' ⟨rfl, rfl⟩)
    | (at_make; refine wpList_make_full _ rfl (.tmp 29) (.tmp 29) 22 rfl w.heap.size 69 i0 _ 2 Try.underlying22 hi hz0 hz1 .i64 .i64 _ _ 4 rfl rfl rfl rfl (by rw [hz2]; omega) (by simp only [maxLen]; omega) (Nat.le_refl _) ?_; intro w1 own1 grw1; obtain ⟨cur, hblk1, hcur, _⟩ := block_of_own own1; have b1 := bl_grown (Below.refl w.heap.size w) grw1 (fun k h => by cases h); have h01 := block_below b1 h0; obtain ⟨w2, hrun, hblk2, grw2⟩ := copy_first w1 w.heap.size G0 4 1 _ (block_made own1) (by kernel_rfl) h01 hin; have b2 := bl_grown b1 grw2 (fun k h => by cases h; exact Nat.le_refl _); clear own1 grw1 hblk1 hcur h01 grw2 b1)
    | (refine wpList_copy_runI _ rfl (.tmp 31) (.tmp 32) 22 22 rfl _ _ rfl rfl hrun ?_))
  go_loopw [8] (fun nv w' => ∃ n : Nat, (n = 1 ∨ n = 2 ∨ n = 4) ∧ nv = .int .i64 n ∧ w'.heap[w.heap.size]? = some (.cells (accCells (half n)).toArray 69 (0, 0)) ∧ Below w.heap.size w w') (fun nv _ => 4 - (intOf nv).toNat)
  case atStart => exact ⟨1, .inl rfl, rfl, hblk2, b2⟩
  case round =>
    clear hrun hblk2 b2
    obtain ⟨n, hn, rfl, hblk, bel⟩ := hrel
    rcases hn with rfl | rfl | rfl
    · go_wp2_with fail
      obtain ⟨w3, hrun, hblk3, grw3⟩ := copy_half wr.drew w.heap.size 1 (.inl rfl) hblk hin 3 4
      have b3 := bl_grown (bl_drew bel) grw3 (fun k h => by cases h; exact Nat.le_refl _)
      go_region_held3 (fun _ => True) (trivial) ((refine step_copy_runI rfl (.tmp 41) (.tmp 44) 22 22 rfl _ _ rfl rfl hrun ?_))
      go_wp2_with fail
      go_roundw
      case rel => exact ⟨2, .inr (.inl rfl), by go_num, hblk3, b3⟩
      case measure =>
        simp [intOf]
        decide
    · go_wp2_with fail
      obtain ⟨w3, hrun, hblk3, grw3⟩ := copy_half wr.drew w.heap.size 2 (.inr rfl) hblk hin 2 4
      have b3 := bl_grown (bl_drew bel) grw3 (fun k h => by cases h; exact Nat.le_refl _)
      go_region_held3 (fun _ => True) (trivial) ((refine step_copy_runI rfl (.tmp 41) (.tmp 44) 22 22 rfl _ _ rfl rfl hrun ?_))
      go_wp2_with fail
      go_roundw
      case rel => exact ⟨4, .inr (.inr rfl), by go_num, hblk3, b3⟩
      case measure =>
        simp [intOf]
        decide
    · go_wp2_with fail
      refine bodyPost_ret (v := .slice (some ⟨w.heap.size, 0, none⟩) 4 4) (by simp [results, Try.results55, go_sem]) rfl ⟨⟨_, rfl, ?_⟩, bel⟩
      exact own_of_block hblk (reps_of gen_ok) (Nat.le_refl _) rfl (by simp [maxLen])
def genesisF : List Account := half 4
theorem genesis_calls (w : World) : Calls Try.prog 38 #[] w fun e w' => (∃ v, e = .returned v ∧ kAccount.Own 69 w.heap.size w' w.heap.size v genesisF) ∧ Below w.heap.size w w' := by
  have q0 := bl_alloc (Below.refl w.heap.size w) (.cells #[.int .i64 250, .int .i64 0] 69)
  have b0 := alloc_new w (.cells #[.int .i64 250, .int .i64 0] 69)
  go_enter Try.func38, Try.ntmps38
  go_wp2_with (go_at_call 55; refine (repeat_calls _ _ b0).mono ?_; rintro e w1 ⟨⟨v, rfl, own⟩, b1⟩)
  obtain ⟨cs, ho, hr⟩ := own
  refine bodyPost_ret (v := v) (by simp [results, Try.results38, go_sem]) rfl ⟨⟨v, rfl, cs, ⟨ho.1, ?_⟩, reps_acc hr⟩, bl_trans q0 b1⟩
  rcases ho.2 with h | ⟨g, cap, cur, h1, h2, h3⟩
  · exact .inl h
  · exact .inr ⟨g, cap, cur, h1, Nat.le_trans q0.size h2, h3⟩
theorem alive16_calls (w : World) : Calls Try.prog 17 #[] w fun e w' => e = .returned (.bool true) ∧ Below w.heap.size w w' := by
  have ht : totalF genesisF = 1000 := by decide
  have HT := Lib.hid ht
  clear ht
  go_enter Try.func17, Try.ntmps17
  go_wp2_with (first
    | (go_at_call 38; refine (genesis_calls _).mono ?_; rintro e w1 ⟨⟨v, rfl, own⟩, b1⟩; obtain ⟨A, c, rfl, h1, h2, row, _⟩ := Kd.own_row own)
    | (go_at_call 40; refine (total_calls genesisF A _ c _ _ rfl (by decide) row gen_small).mono ?_; rw [HT.out]; rintro e w2 ⟨rfl, b2⟩; have b3 := bl_trans b1 b2))
  go_ret
  exact ⟨rfl, b3⟩
end Go.Proofs.Ytflfpfaebndefab
