/- Package disk: Append, Read, Crash, Cut. No claim of its own; no condition. -/
import Derived.Test.YtcbfpdenjdgnlaaGreatPakC
import Derived.Test.YtcbfpdenjdgnlaaGreatShaE
namespace Go.Proofs.YtcbfpdenjdgnlaaGreat
open Go.ChangeShapes Go.WideShapes Go.ChangeAt Go.RowKit
set_option linter.unusedVariables false
set_option linter.unusedSimpArgs false
/-- What a disk's call keeps: all that was there below M, and all blocks that are neither a disk's nor octets. -/
def Dk (M : Nat) (w w' : World) : Prop := Below M w w' ∧ ∀ E, 220 ∉ E → 5 ∉ E → Keeps M E w w'
theorem dk_refl (M : Nat) (w : World) : Dk M w w := ⟨Below.refl _ _, fun _ _ _ => Keeps.refl _ _ _⟩
theorem dk_trans {M : Nat} {a b c : World} (h : Dk M a b) (k : Dk M b c) : Dk M a c := ⟨h.1.trans k.1, fun E h1 h2 => (h.2 E h1 h2).trans (k.2 E h1 h2)⟩
theorem dk_below {M : Nat} {w w' : World} (h : Below w.heap.size w w') (hM : M ≤ w.heap.size) : Dk M w w' := ⟨h.mono hM, fun _ _ _ => Keeps.of_below h⟩
/-- A disk at N: its octets, how many last, its room. -/
def Dsk (M : Nat) (w : World) (N : Nat) (b : List UInt8) (sure : Nat) (room : Int) : Prop := M ≤ N ∧ sure ≤ b.length ∧ (b.length : Int) ≤ room ∧ room ≤ 262144 ∧ ∃ v, w.heap[N]? = some (.cells #[v, .int .i64 (sure : Int), .int .i64 room, .bool true] 220 (0, 0)) ∧ Kd.u8.Own 5 M w M v b
theorem dsk_below {M N sure : Nat} {w w' : World} {b : List UInt8} {room : Int} (h : Dsk M w N b sure room) (k : Below w.heap.size w w') : Dsk M w' N b sure room := by
  obtain ⟨h1, h2, h3, h4, v, h5, h6⟩ := h
  exact ⟨h1, h2, h3, h4, v, block_below k h5, Kd.own_below h6 k⟩
theorem dsk_keep {M N sure : Nat} {w w' : World} {b : List UInt8} {room : Int} (h : Dsk M w N b sure room) (k : Keeps M [220, 5] w w') : Dsk M w' N b sure room := by
  obtain ⟨h1, h2, h3, h4, v, h5, h6⟩ := h
  exact ⟨h1, h2, h3, h4, v, (k.2 N ⟨blk_lt h5, .inr ⟨_, _, _, h5, by simp⟩⟩).trans h5, Kd.own_keep h6 (k.mono (by simp [Kd.u8]))⟩
theorem dsk_size {M N sure : Nat} {w : World} {b : List UInt8} {room : Int} (h : Dsk M w N b sure room) : M ≤ w.heap.size := by
  obtain ⟨h1, _, _, _, v, h5, _⟩ := h
  have := blk_lt h5
  omega
theorem dis_at (w : World) (N : Nat) (d : Bool) (h : w.cell? ⟨N, 3, none⟩ = some (.bool d)) : Calls Tryz.prog 165 #[.pointer (some ⟨N, 0, none⟩)] w fun x w' => x = .returned (.bool d) ∧ w' = w := by
  go_enter Tryz.func165, Tryz.ntmps165
  go_wp2
  go_ret
  exact ⟨rfl, rfl⟩
theorem u8_cells {B : Nat} {w : World} {xs : List UInt8} {cs : List Value} (h : Kd.Reps Kd.u8 B w xs cs) : cs = octCells xs := by
  induction h with
  | nil => rfl
  | cons hc _ ih =>
    subst ih
    have := hc
    simp only [Kd.u8] at this
    subst this
    rfl
theorem reps_take {B : Nat} {w : World} {xs : List UInt8} {cs : List Value} (h : Kd.Reps Kd.u8 B w xs cs) (k : Nat) : Kd.Reps Kd.u8 B w (xs.take k) (cs.take k) := by
  have e := u8_cells h
  subst e
  rw [show (octCells xs).take k = octCells (xs.take k) by simp [octCells, List.map_take]]
  exact octs_reps B w _
theorem own_take {e B base : Nat} {w : World} {A : Option Addr} {n c k : Nat} {xs : List UInt8} (h : Kd.u8.Own e B w base (.slice A n c) xs) (hk : k ≤ xs.length) : Kd.u8.Own e B w base (.slice A k c) (xs.take k) := by
  obtain ⟨cs, ⟨hl, ho⟩, hr⟩ := h
  rcases ho with ⟨h1, h2⟩ | ⟨g, cap, cur, h1, hg, hh, hc, hm, hsz, ht⟩
  · have : xs = [] := List.eq_nil_of_length_eq_zero h2
    subst this
    cases h1
    have : k = 0 := by simpa using hk
    subst this
    exact Kd.own_nil _ _ _ _ _
  · cases h1
    have hl' : cs.length = xs.length := by simpa [Kd.u8] using hl
    have hk' : k ≤ cs.length := by omega
    have hkl : (xs.take k).length = k := by rw [List.length_take]; omega
    refine ⟨cs.take k, ⟨?_, .inr ⟨g, c, cur, by rw [hkl], hg, hh, by rw [hkl]; exact Nat.le_trans hk hc, hm, hsz, ?_⟩⟩, ?_⟩
    · show (cs.take k).length = (xs.take k).length * 1
      rw [List.length_take, List.length_take]
      omega
    · show cur.toList.take ((xs.take k).length * 1) = cs.take k
      rw [← ht, List.take_take, List.length_take]
      congr 1
      show _ = min k (xs.length * 1)
      omega
    · exact reps_take hr k
set_option maxHeartbeats 1600000 in
set_option maxRecDepth 100000 in
theorem dappend_ok (M N sure : Nat) (b l : List UInt8) (room : Int) (A : Option Addr) (c : Nat) (w : World) (h : Dsk M w N b sure room) (hl : (l.length : Int) ≤ room - b.length) (hr : Kd.u8.Row 5 0 w A l) :
    Calls Tryz.prog 162 #[.pointer (some ⟨N, 0, none⟩), .slice A l.length c] w fun x w' => x = .returned (.int .i64 0) ∧ Dsk M w' N (b ++ l) sure room ∧ Dk M w w' := by
  have hMw := dsk_size h
  obtain ⟨h1, h2, h3, h4, v, h5, h6⟩ := h
  have c0 : w.cell? ⟨N, 0, none⟩ = some v := block_cell h5 (i := 0) rfl
  have c2 : w.cell? ⟨N, 2, none⟩ = some (.int .i64 room) := block_cell h5 (i := 2) rfl
  have c3 : w.cell? ⟨N, 3, none⟩ = some (.bool true) := block_cell h5 (i := 3) rfl
  obtain ⟨Av, cv, rfl, lc, mc, _, _⟩ := Kd.own_row h6
  have HI := Lib.hid (dis_at w N true c3)
  obtain ⟨i0, hi, hz0, hz1, hz2⟩ := info_parts info_u8
  have hw : IntKind.i64.wrap (room - (b.length : Int)) = room - (b.length : Int) := IntWalk.i64_in _ (by omega)
  have hgt : decide (room - (b.length : Int) < (l.length : Int)) = false := by simp; omega
  have hlI : ¬ ((l.length : Int) > room - (b.length : Int)) := by omega
  have H5 := Lib.hid h5
  have H6 := Lib.hid h6
  clear h5 h6
  go_enter Tryz.func162, Tryz.ntmps162
  go_upto_region 3 with (go_at_call 165; refine Calls.mono (HI.out) ?_; rintro x w1 ⟨rfl, h⟩; subst h)
  go_quiet (fail)
  have hB : Below w1.heap.size w1 (w1.drewN nq) := bl_drewN (Below.refl _ _) _
  have hsz : (w1.drewN nq).heap.size = w1.heap.size := rfl
  have H5d := Lib.hid (block_below hB H5.out)
  have h6d := Kd.own_below H6.out hB
  have hrd : Kd.u8.Row 5 M (w1.drewN nq) A l := row_any Kd.flat_u8 hr M
  have c0d := block_cell H5d.out (i := 0) rfl
  have hK0 : Dk M w1 (w1.drewN nq) := dk_below hB hMw
  have H6d := Lib.hid h6d
  clear h6d c0 c2 c3
  generalize w1.drewN nq = wd at *
  go_wp2_with (at_builtin; refine wpList_append_row _ rfl (.tmp 27) (.tmp 28) 60 rfl Kd.u8 M M 5 i0 _ 1 Tryz.underlying60 hi hz0 hz1 hz2 rfl (by decide) (.slice Av b.length cv) b rfl H6d.out A c l.length l rfl rfl hrd (by omega) (by decide) (by omega) (Nat.le_refl _) (by decide) ?_; intro v1 w2 own2 grw2 at2; have kp2 : ∀ E, 5 ∉ E → Keeps M E wd w2 := fun E hE => Kd.own_keeps H6d.out grw2 (Nat.le_refl _) hE; have hN2 := ((kp2 [220] (by decide)).2 N ⟨blk_lt H5d.out, .inr ⟨_, _, _, H5d.out, by simp⟩⟩).trans H5d.out; obtain ⟨A1, c1, rfl, l1, m1, _, _⟩ := Kd.own_row own2; rw [List.length_append] at own2; have f2 : w2.frozen? ⟨N, 0, none⟩ = false := block_free hN2; have d2 : w2.cell? ⟨N, 0, none⟩ = _ := block_cell hN2 (i := 0) rfl)
  go_ret
  have ks : ∀ E, 220 ∉ E → Keeps M E w2 (w2.setCell ⟨N, 0, none⟩ (.slice A1 (b.length + l.length) c1)) := fun E hE => Keeps.set (p := ⟨N, 0, none⟩) hN2 h1 hE _
  refine ⟨rfl, ⟨h1, by rw [List.length_append]; omega, by rw [List.length_append]; omega, h4, _, ?_, Kd.own_keep own2 (ks _ (by simp [Kd.u8]))⟩, dk_trans hK0 ⟨?_, fun E hE hE5 => (kp2 E hE5).trans (ks E hE)⟩⟩
  · have := block_set (i := 0) (u := .slice A1 (b.length + l.length) c1) hN2
    simpa using this
  · exact ((Below.refl M wd).grown grw2 (by omega) (fun k hk => (Kd.own_block H6d.out k hk).1)).setCell (p := ⟨N, 0, none⟩) h1 _
theorem dread_calls (M N sure : Nat) (b : List UInt8) (room : Int) (w : World) (h : Dsk M w N b sure room) :
    Calls Tryz.prog 97 #[.pointer (some ⟨N, 0, none⟩)] w fun x w' => (∃ v, x = .returned v ∧ Kd.u8.Own 5 w.heap.size w' w.heap.size v b) ∧ Below w.heap.size w w' := by
  obtain ⟨h1, h2, h3, h4, v, h5, h6⟩ := h
  have c0 : w.cell? ⟨N, 0, none⟩ = some v := block_cell h5 (i := 0) rfl
  have c3 : w.cell? ⟨N, 3, none⟩ = some (.bool true) := block_cell h5 (i := 3) rfl
  obtain ⟨Av, cv, rfl, lc, mc, _, _⟩ := Kd.own_row h6
  have rb := own_rows Kd.flat_u8 h6 0
  have HI := Lib.hid (dis_at w N true c3)
  have HC := Lib.hid (clone8_calls b Av b.length cv w 0 rfl (by omega) rb)
  go_enter Tryz.func97, Tryz.ntmps97
  go_wp2_with first | (go_at_call 165; refine Calls.mono (HI.out) ?_; rintro x w1 ⟨rfl, h⟩; subst h) | (go_at_call 157; refine Calls.mono (HC.out) ?_; rintro x w2 ⟨⟨v2, rfl, own2, _⟩, b2⟩)
  go_ret
  exact ⟨⟨_, rfl, own2⟩, b2⟩
end Go.Proofs.YtcbfpdenjdgnlaaGreat
