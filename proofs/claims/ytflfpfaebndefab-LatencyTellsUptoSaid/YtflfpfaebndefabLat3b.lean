/- Package latency: Pair, Within, Buckets; mootlaw41: plus, alive. No claim of its own; no condition. -/
import Derived.Test.YtflfpfaebndefabLat2
import Derived.Test.YtflfpfaebndefabGenesis
import Derived.OwnWalk
namespace Go.Proofs.Ytflfpfaebndefab
open Go.ChangeShapes Go.WideShapes Go.ChangeAt Go.RowKit
set_option linter.unusedVariables false
set_option linter.unusedSimpArgs false
def inTicks (k : Int) (t : Trace) : Bool := gotB t && decide (t.got - t.sent ≤ k)
def withinF (k : Int) (l : List Trace) : Nat := l.countP (inTicks k)
theorem within_step {k : Int} {l : List Trace} {i : Nat} {x : Trace} (h : l[i]? = some x) : withinF k (l.take (i + 1)) = withinF k (l.take i) + (if inTicks k x then 1 else 0) := by
  rw [List.take_add_one, h, withinF, List.countP_append]
  simp [withinF, List.countP_cons]
theorem within_le (k : Int) (l : List Trace) : withinF k l ≤ l.length := List.countP_le_length
set_option maxHeartbeats 1600000 in
set_option maxRecDepth 100000 in
theorem within_calls (l : List Trace) (t : Int) (A : Option Addr) (n c : Nat) (w : World) (B : Nat) (hn : n = l.length) (hl : l.length ≤ 1048576) (hr : kTrace.Row 47 B w A l) :
    Calls Try.prog 23 #[.slice A n c, .int .i64 t] w fun e w' => e = .returned (.int .i64 (withinF t l : Nat)) ∧ Below w.heap.size w w' := by
  subst hn
  go_enter Try.func23, Try.ntmps23
  go_wp2_with fail
  go_loopw [5, 10] (fun nv kv w' => ∃ k : Nat, k ≤ l.length ∧ kv = .int .i64 k ∧ nv = .int .i64 (withinF t (l.take k) : Nat) ∧ Below w.heap.size w w') (fun _ kv _ => l.length - (intOf kv).toNat)
  case atStart => exact ⟨0, by omega, rfl, by simp [withinF], Below.refl _ _⟩
  case round =>
    obtain ⟨k, h1, rfl, rfl, bel⟩ := hrel
    by_cases h : k < l.length
    · obtain ⟨x, hx⟩ : ∃ x, l[k]? = some x := ⟨_, List.getElem?_eq_getElem h⟩
      obtain ⟨ad, rfl, e0, e1, e2, e3, _⟩ := kTrace_at (Kd.row_below bel hr) hx
      have hst := within_step (k := t) hx
      have hle := within_le t (l.take k)
      rw [List.length_take] at hle
      generalize hN : withinF t (l.take k) = N at *
      have bt := bl_alloc (Below.refl wr.heap.size wr) (.cells #[.int .i64 x.frm, .int .i64 x.to, .int .i64 x.sent, .int .i64 x.got] 47)
      have bb := alloc_new wr (.cells #[.int .i64 x.frm, .int .i64 x.to, .int .i64 x.sent, .int .i64 x.got] 47)
      have belt := bl_trans bel bt
      clear hN hx
      by_cases hg : gotB x = true
      · obtain ⟨hg1, hg2⟩ := gotB_iff.1 hg
        by_cases ht : x.got - x.sent ≤ t
        · have hs2 : withinF t (l.take (k + 1)) = N + 1 := by rw [hst]; simp [inTicks, hg, ht]
          have HS := Lib.hid hs2
          have HG := Lib.hid hg
          clear hst hs2 hg
          go_wp2_with (go_at_call 46; refine (got46_calls x _).mono ?_; rw [HG.out]; rintro e w1 ⟨rfl, b1⟩; have y2 := cell_below b1 (block_cell bb (i := 2) rfl); have y3 := cell_below b1 (block_cell bb (i := 3) rfl))
          go_roundw
          case rel => exact ⟨k + 1, by omega, by go_num, by rw [HS.out]; go_num, bl_trans belt b1⟩
          case measure => simp [intOf]; omega
        · have hs2 : withinF t (l.take (k + 1)) = N := by rw [hst]; simp [inTicks, ht]
          have ht' : t < x.got - x.sent := by omega
          have HS := Lib.hid hs2
          have HG := Lib.hid hg
          clear hst hs2 hg ht
          go_wp2_with (go_at_call 46; refine (got46_calls x _).mono ?_; rw [HG.out]; rintro e w1 ⟨rfl, b1⟩; have y2 := cell_below b1 (block_cell bb (i := 2) rfl); have y3 := cell_below b1 (block_cell bb (i := 3) rfl))
          go_roundw
          case rel => exact ⟨k + 1, by omega, by go_num, by rw [HS.out], bl_trans belt b1⟩
          case measure => simp [intOf]; omega
      · have hg' : gotB x = false := by simpa using hg
        have hs2 : withinF t (l.take (k + 1)) = N := by rw [hst]; simp [inTicks, hg']
        have HS := Lib.hid hs2
        have HG := Lib.hid hg'
        clear hst hs2 hg hg'
        go_wp2_with (go_at_call 46; refine (got46_calls x _).mono ?_; rw [HG.out]; rintro e w1 ⟨rfl, b1⟩)
        go_roundw
        case rel => exact ⟨k + 1, by omega, by go_num, by rw [HS.out], bl_trans belt b1⟩
        case measure => simp [intOf]; omega
    · have hk : k = l.length := by omega
      subst hk
      rw [List.take_of_length_le (Nat.le_refl _)]
      go_wp2_with fail
      go_ret
      exact ⟨rfl, bel⟩
/-- How many took how long. -/
def bkStep (b : List Int) (t : Trace) : List Int := if gotB t then b.set (atF (t.got - t.sent).toNat) (b.getD (atF (t.got - t.sent).toNat) 0 + 1) else b
def bkF (l : List Trace) : List Int := l.foldl bkStep [0, 0, 0, 0, 0, 0, 0, 0]
theorem bk_step {l : List Trace} {k : Nat} {t : Trace} (h : l[k]? = some t) : bkF (l.take (k + 1)) = bkStep (bkF (l.take k)) t := by
  rw [List.take_add_one, h]
  simp [bkF]
structure BkOk (n : Nat) (b : List Int) : Prop where
  len : b.length = 8
  bd : ∀ x ∈ b, 0 ≤ x ∧ x ≤ n
theorem BkOk.step {n : Nat} {b : List Int} (h : BkOk n b) (t : Trace) : BkOk (n + 1) (bkStep b t) := by
  unfold bkStep
  split
  · refine ⟨by simp [h.len], fun x hx => ?_⟩
    rcases List.mem_or_eq_of_mem_set hx with hx | rfl
    · have := h.bd x hx; omega
    · have hlt : atF (t.got - t.sent).toNat < b.length := by have := atF_le (t.got - t.sent).toNat; rw [h.len]; omega
      have hm : b.getD (atF (t.got - t.sent).toNat) 0 ∈ b := by
        rw [List.getD_eq_getElem?_getD, List.getElem?_eq_getElem hlt]
        exact List.getElem_mem hlt
      have := h.bd _ hm
      omega
  · exact ⟨h.len, fun x hx => by have := h.bd x hx; omega⟩
theorem bkF_ok (l : List Trace) : BkOk l.length (bkF l) := by
  have : ∀ (l : List Trace) (n : Nat) (b : List Int), BkOk n b → BkOk (n + l.length) (l.foldl bkStep b) := by
    intro l
    induction l with
    | nil => intro n b h; exact h
    | cons t l ih =>
      intro n b h
      have := ih (n + 1) (bkStep b t) (h.step t)
      rw [List.length_cons, show n + (l.length + 1) = n + 1 + l.length by omega]
      exact this
  have h := this l 0 [0, 0, 0, 0, 0, 0, 0, 0] ⟨rfl, by intro x hx; simp at hx; subst hx; simp⟩
  rwa [Nat.zero_add] at h
def intCells (b : List Int) : List Value := b.map (Value.int .i64)
theorem intCells_at {w : World} {G : Nat} {b : List Int} {e : TypeId} (hb : w.heap[G]? = some (.cells (intCells b).toArray e (0, 0))) {i : Nat} {x : Int} (hx : b[i]? = some x) : w.cell? ⟨G, i, none⟩ = some (.int .i64 x) :=
  block_cell hb (by rw [List.getElem?_toArray]; simp [intCells, hx])
theorem intCells_set (b : List Int) (i : Nat) (x : Int) : (intCells b).set i (.int .i64 x) = intCells (b.set i x) := by simp [intCells, List.map_set]
theorem reps_int {B : Nat} {w : World} : ∀ {b : List Int}, (∀ x ∈ b, IntOk x) → Kd.Reps Kd.int B w b (intCells b)
  | [], _ => .nil
  | x :: b, h => by
    have := Kd.Reps.cons (d := Kd.int) (B := B) (w := w) (c := [.int .i64 x]) ⟨rfl, h x (by simp)⟩ (reps_int (b := b) fun y hy => h y (by simp [hy]))
    exact this
theorem infoI : (Try.prog.info? 3).map (fun i => (i.zero, i.size, i.bytes)) = some (some (.int .i64 0), 1, 8) := by kernel_rfl
set_option maxHeartbeats 1600000 in
set_option maxRecDepth 100000 in
theorem buckets_calls (l : List Trace) (A : Option Addr) (n c : Nat) (w : World) (B : Nat) (hn : n = l.length) (hl : l.length ≤ 1048576) (hr : kTrace.Row 47 B w A l) :
    Calls Try.prog 25 #[.slice A n c] w fun e w' => (∃ v, e = .returned v ∧ Kd.int.Own 3 w.heap.size w' w.heap.size v (bkF l)) ∧ Below w.heap.size w w' := by
  subst hn
  have bW := bl_alloc (Below.refl w.heap.size w) (.cells #[.int .i64 0, .int .i64 0, .int .i64 0, .int .i64 0, .int .i64 0, .int .i64 0, .int .i64 0, .int .i64 0] 3)
  have hW := alloc_new w (.cells #[.int .i64 0, .int .i64 0, .int .i64 0, .int .i64 0, .int .i64 0, .int .i64 0, .int .i64 0, .int .i64 0] 3)
  obtain ⟨i0, hi, hz0, hz1, hz2⟩ := info_parts infoI
  clear bW hW
  go_enter Try.func25, Try.ntmps25
  go_wp2_with (at_make; refine wpList_make_full _ rfl _ _ 35 rfl w.heap.size 3 i0 _ 1 Try.underlying35 hi hz0 hz1 .i64 .i64 _ _ 8 rfl rfl rfl rfl (by rw [hz2]; omega) (by simp only [maxLen]; omega) (Nat.le_refl _) ?_; intro w1 own1 grw1; have hblk1 := (block_made own1).trans (show _ = some (Obj.cells (intCells [0, 0, 0, 0, 0, 0, 0, 0]).toArray 3 (0, 0)) by kernel_rfl); have b1 := bl_grown (Below.refl w.heap.size w) grw1 (fun k h => by cases h))
  have hz : (List.replicate 8 (Value.int .i64 0)) = intCells [0, 0, 0, 0, 0, 0, 0, 0] := rfl
  go_loopw [9] (fun kv w' => ∃ k : Nat, k ≤ l.length ∧ kv = .int .i64 k ∧ w'.heap[w.heap.size]? = some (.cells (intCells (bkF (l.take k))).toArray 3 (0, 0)) ∧ Below w.heap.size w w') (fun kv _ => l.length - (intOf kv).toNat)
  case atStart => exact ⟨0, by omega, rfl, hblk1, b1⟩
  case round =>
    clear hblk1 b1 own1 grw1 hz
    obtain ⟨k, h1, rfl, hblk, bel⟩ := hrel
    by_cases h : k < l.length
    · obtain ⟨x, hx⟩ : ∃ x, l[k]? = some x := ⟨_, List.getElem?_eq_getElem h⟩
      obtain ⟨ad, rfl, e0, e1, e2, e3, _⟩ := kTrace_at (Kd.row_below bel hr) hx
      have hst := bk_step hx
      have hok := bkF_ok (l.take k)
      rw [List.length_take] at hok
      generalize bkF (l.take k) = K at *
      have bt := bl_alloc (Below.refl wr.heap.size wr) (.cells #[.int .i64 x.frm, .int .i64 x.to, .int .i64 x.sent, .int .i64 x.got] 47)
      have bb := alloc_new wr (.cells #[.int .i64 x.frm, .int .i64 x.to, .int .i64 x.sent, .int .i64 x.got] 47)
      have hblk' := block_below bt hblk
      have belt := bl_trans bel bt
      clear hx
      by_cases hg : gotB x = true
      · obtain ⟨hg1, hg2⟩ := gotB_iff.1 hg
        obtain ⟨a, ha⟩ : ∃ a, a = atF (x.got - x.sent).toNat := ⟨_, rfl⟩
        have ha7 : a ≤ 7 := by rw [ha]; exact atF_le _
        obtain ⟨v, hv⟩ : ∃ v, K[a]? = some v := ⟨_, List.getElem?_eq_getElem (by rw [hok.len]; omega)⟩
        have hvb := hok.bd v (List.mem_of_getElem? hv)
        have hs2 : bkF (l.take (k + 1)) = K.set a (v + 1) := by
          rw [hst]
          unfold bkStep
          rw [if_pos hg, ← ha]
          simp [List.getD, hv]
        have hmin := bitLen_at (x.got - x.sent).toNat
        rw [← ha] at hmin
        have hminI : min ((Lib.bitLen (x.got - x.sent).toNat : Nat) : Int) 7 = (a : Int) := by omega
        have haI : (a : Int) < 8 := by omega
        have HS := Lib.hid hs2
        have HG := Lib.hid hg
        have HM := Lib.hid hminI
        have HV := Lib.hid hv
        clear hst hs2 hg hok ha hmin hminI hv
        go_wp2_with (first
          | (go_at_call 46; refine (got46_calls x _).mono ?_; rw [HG.out]; rintro e w1 ⟨rfl, b1⟩; have y2 := cell_below b1 (block_cell bb (i := 2) rfl); have y3 := cell_below b1 (block_cell bb (i := 3) rfl); have hblk1 := block_below b1 hblk'; have z1 := intCells_at hblk1 HV.out; have fz := frozen_of_row w1 w.heap.size a _ 3 hblk1)
          | (go_at_call 47; refine (len_calls (x.got - x.sent) _ (by omega) (by omega)).mono ?_; rintro e w' ⟨rfl, rfl⟩; have hmm := HM.out))
        go_roundw
        case rel =>
          refine ⟨k + 1, by omega, by go_num, ?_, bl_set (bl_trans belt b1) (Nat.le_refl _) _⟩
          rw [HS.out, ← intCells_set]
          exact set_blkL hblk1 a _
        case measure => simp [intOf]; omega
      · have hg' : gotB x = false := by simpa using hg
        have hs2 : bkF (l.take (k + 1)) = K := by rw [hst]; unfold bkStep; rw [if_neg hg]
        have HS := Lib.hid hs2
        have HG := Lib.hid hg'
        clear hst hs2 hg hg'
        go_wp2_with (go_at_call 46; refine (got46_calls x _).mono ?_; rw [HG.out]; rintro e w1 ⟨rfl, b1⟩; have hblk1 := block_below b1 hblk')
        go_roundw
        case rel => exact ⟨k + 1, by omega, by go_num, by rw [HS.out]; exact hblk1, bl_trans belt b1⟩
        case measure => simp [intOf]; omega
    · have hk : k = l.length := by omega
      subst hk
      rw [List.take_of_length_le (Nat.le_refl _)] at hblk
      have hok := bkF_ok l
      have hown : Kd.int.Own 3 w.heap.size wr w.heap.size (.slice (some ⟨w.heap.size, 0, none⟩) 8 8) (bkF l) :=
        own_of_block hblk (reps_int fun x hx => by have := hok.bd x hx; unfold IntOk; omega) (Nat.le_refl _) hok.len.symm (by simp [maxLen])
      have HO := Lib.hid hown
      clear hown hok hblk
      go_wp2_with fail
      go_ret
      exact ⟨⟨_, rfl, HO.out⟩, bel⟩
set_option maxHeartbeats 1600000 in
set_option maxRecDepth 100000 in
theorem plus_calls (a b : Stat) (w : World) (n m : Nat) (ha : StatOk n a) (hb : StatOk m b) (hn : n ≤ 1048576) (hm : m ≤ 1048576) :
    Calls Try.prog 20 #[.agg #[.int .i64 a.sent, .int .i64 a.got, .int .i64 a.lost, .int .i64 a.most, .int .i64 a.sum], .agg #[.int .i64 b.sent, .int .i64 b.got, .int .i64 b.lost, .int .i64 b.most, .int .i64 b.sum]] w
      fun e w' => e = .returned (.agg #[.int .i64 (a.sent + b.sent), .int .i64 (a.got + b.got), .int .i64 (a.lost + b.lost), .int .i64 (max a.most b.most), .int .i64 (a.sum + b.sum)]) ∧ Below w.heap.size w w' := by
  obtain ⟨h1, h2, h3, h4, h5⟩ := ha
  obtain ⟨g1, g2, g3, g4, g5⟩ := hb
  go_enter Try.func20, Try.ntmps20
  go_wp2_with fail
  refine bodyPost_ret (v := .agg #[.int .i64 (a.sent + b.sent), .int .i64 (a.got + b.got), .int .i64 (a.lost + b.lost), .int .i64 (max a.most b.most), .int .i64 (a.sum + b.sum)]) (by simp [results, Try.results20, go_sem]) rfl ⟨rfl, ?_⟩
  exact bl_alloc (bl_alloc (bl_alloc (Below.refl _ _) _) _) _
end Go.Proofs.Ytflfpfaebndefab
