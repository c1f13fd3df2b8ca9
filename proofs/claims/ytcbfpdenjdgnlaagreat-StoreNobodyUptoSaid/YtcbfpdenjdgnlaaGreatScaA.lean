/- Package journal: Scan of no octets. No claim of its own; no condition. -/
import Derived.Test.YtcbfpdenjdgnlaaGreatPutN
import Derived.Test.YtcbfpdenjdgnlaaGreatStoC
import Derived.RegionIn
namespace Go.Proofs.YtcbfpdenjdgnlaaGreat
open Go.ChangeShapes Go.WideShapes Go.ChangeAt Go.RowKit
set_option linter.unusedVariables false
set_option linter.unusedSimpArgs false
attribute [local go_sem] Oper.semAt_some
def KpE (Bx : Nat) (W W' : World) : Prop := W'.cell? ⟨Bx, 0, none⟩ = W.cell? ⟨Bx, 0, none⟩
theorem kpE_t {Bx : Nat} {A B C : World} (h : KpE Bx A B) (k : KpE Bx B C) : KpE Bx A C := k.trans h
theorem fr_end (F : Fence) (m : Nat) (h222 : F.fn 222) (hro : F.round = none) (l Bx : Nat) (A : Option Addr) (c : Nat) (J Jx : List Empty → World → Prop) (W : World) (hb : W.cell? ⟨Bx, 0, none⟩ = some (.slice A 0 c)) (h0 : J [] W) :
    CallsIn F m Tryz.prog 222 #[.func (.yield l) #[] #[], .pointer (some ⟨Bx, 0, none⟩)] W fun e W' => (∃ v, e = .returned v) ∧ ((∃ xs : List Empty, True ∧ J xs W') ∨ (∃ pre, True ∧ Jx pre W')) := by
  refine callsIn_of_wp Tryz.func222 rfl h222 ?_ hro
  simp only [Tryz.ntmps222, List.size_toArray, List.length_cons, List.length_nil, Nat.reduceAdd, Nat.reduceSub, Array.replicate_succ, Array.replicate_zero, List.push_toArray, List.append_toArray, List.nil_append, List.cons_append]
  gi_wp2
  gi_loopw [3] (fun q wr => q = .int .i64 0 ∧ wr = W) (fun _ _ => 0)
  case atStart => exact ⟨rfl, rfl⟩
  case round =>
    obtain ⟨rfl, rfl⟩ := hrel
    gi_wp2
    go_end0
    exact ⟨⟨_, rfl⟩, .inl ⟨[], trivial, h0⟩⟩
theorem fr_stops (F : Fence) (m : Nat) (h222 : F.fn 222) (hro : F.round = none) (Bx : Nat) (A : Option Addr) (c : Nat) (w : World) (hb : w.cell? ⟨Bx, 0, none⟩ = some (.slice A 0 c)) :
    SeqStopsK F m Tryz.prog 222 #[.pointer (some ⟨Bx, 0, none⟩)] (fun x : Empty => #[Value.int .i64 0, Value.int .i64 0]) (KpE Bx) (fun _ => True) (fun _ => True) 0 w := fun l J Jx W hW _ _ hY h0 =>
  fr_end F m h222 hro l Bx A c J Jx W (cell_below hW hb) h0
theorem fr_in (F : Fence) (m : Nat) (h167 : F.fn 167) (hro : F.round = none) (A : Option Addr) (n c : Nat) (w : World) :
    CallsIn F m Tryz.prog 167 #[.slice A n c] w fun e w' => e = .returned (.func (.func 222) #[] #[.pointer (some ⟨w.heap.size, 0, none⟩)]) ∧ w' = w.alloc (.cells #[.slice A n c] 60) := by
  refine callsIn_of_wp Tryz.func167 rfl h167 ?_ hro
  simp only [Tryz.ntmps167, List.size_toArray, List.length_cons, List.length_nil, Nat.reduceAdd, Nat.reduceSub, Array.replicate_succ, Array.replicate_zero, List.push_toArray, List.append_toArray, List.nil_append, List.cons_append]
  gi_wp2
  go_ret
  exact ⟨rfl, rfl⟩
def ScI (b : Nat) (pre : List Empty) (W : World) : Prop := Boxed W b 55 (.slice none 0 0) ∧ Boxed W (b + 1) 3 (.int .i64 0)
set_option maxRecDepth 100000 in
set_option maxHeartbeats 2000000 in
theorem scan_in (F : Fence) (m : Nat) (h96 : F.fn 96) (h167 : F.fn 167) (h222 : F.fn 222) (hro : F.round = none) (hm : 3 ≤ m) (A : Option Addr) (c : Nat) (w : World) :
    CallsIn F m Tryz.prog 96 #[.slice A 0 c] w fun e W' => e = .returned (.tuple #[.slice none 0 0, .int .i64 0]) ∧ Below w.heap.size w W' := by
  have h1 : 1 ≤ m := by omega
  refine callsIn_of_wp_marks Tryz.func96 rfl h96 ?_ hro
  simp only [Tryz.ntmps96, List.size_toArray, List.length_cons, List.length_nil, Nat.reduceAdd, Nat.reduceSub, Array.replicate_succ, Array.replicate_zero, List.push_toArray, List.append_toArray, List.nil_append, List.cons_append]
  gi_wp2_with (gi_at_call 167; refine (fr_in F (m - 1) h167 hro _ _ _ _).mono ?_; rintro e w' ⟨rfl, rfl⟩)
  have B0 : Below w.heap.size w (((w.alloc (.cells #[.slice none 0 0] 55)).alloc (.cells #[.int .i64 0] 3)).alloc (.cells #[.slice A 0 c] 60)) := bl_alloc (bl_alloc (bl_alloc (Below.refl _ _) _) _) _
  obtain ⟨W0, hW0⟩ : ∃ W0, (((w.alloc (.cells #[.slice none 0 0] 55)).alloc (.cells #[.int .i64 0] 3)).alloc (.cells #[.slice A 0 c] 60)) = W0 := ⟨_, rfl⟩
  have hs0 : w.heap.size + 3 ≤ W0.heap.size := by rw [← hW0]; simp
  have hA : Boxed W0 w.heap.size 55 (.slice none 0 0) := by
    rw [← hW0]
    exact ((Boxed.new w 55 (.slice none 0 0)).alloc _).alloc _
  have hB : Boxed W0 (w.heap.size + 1) 3 (.int .i64 0) := by
    rw [← hW0]
    have b1 := Boxed.new (w.alloc (.cells #[.slice none 0 0] 55)) 3 (.int .i64 0)
    simp only [World.size_alloc] at b1
    exact b1.alloc _
  have hC : Boxed W0 (w.heap.size + 1 + 1) 60 (.slice A 0 c) := by
    rw [← hW0]
    have b1 := Boxed.new ((w.alloc (.cells #[.slice none 0 0] 55)).alloc (.cells #[.int .i64 0] 3)) 60 (.slice A 0 c)
    simp only [World.size_alloc] at b1
    exact b1
  rw [hW0] at B0 ⊢
  clear hW0
  refine wpIn_rangeFunc_ownG hro h1 (gf := 222) (lb := #[.pointer (some ⟨w.heap.size + 1 + 1, 0, none⟩)]) rfl h222 (enters_of Tryz.func222 (by kernel_rfl) rfl)
    (fr_stops F (m - 1) h222 hro (w.heap.size + 1 + 1) A c W0 hC.cell) kpE_t ?kb (Below.refl _ _) (fun x => x.elim)
    (fun pre W => ScI w.heap.size pre W ∧ Below w.heap.size w W) (fun c pre W => False ∧ Below w.heap.size w W)
    (OwnFrom.and (Own.from (fun s A B row hs hg hr => ⟨block_kept hs.1 hg hr, block_kept hs.2 hg hr⟩) _) (ownFrom_below (Nat.le_refl _) (by omega)))
    (fun c => OwnFrom.and (Own.from (fun s A B row hs hg hr => hs) _) (ownFrom_below (Nat.le_refl _) (by omega)))
    ⟨⟨hA, hB⟩, B0⟩ (fun x => x.elim) ?assign ?body ?done ?stop
  case kb =>
    intro W l o o' hl ho hc hwk
    exact World.cell?_of_block ((grownBy_putObj' W l o').block (w.heap.size + 1 + 1) (by have := blk_lt ho; omega) (fun e => by cases e; omega))
  case assign => intro l x; exact x.elim
  case body => intro l pre x; exact x.elim
  case done =>
    rintro D xs W hD _ ⟨⟨kA, kB⟩, hBW⟩ hK
    have cA := Boxed.cell kA
    have cB := Boxed.cell kB
    gi_wp2
    gi_region
    all_goals gi_wp2
    all_goals refine ⟨by simp, .inl ⟨_, _, rfl, run_takeDeferred (show W.drew.heap[D]? = _ from hK), ?_⟩⟩
    all_goals refine ⟨.tuple #[.slice none 0 0, .int .i64 0], by simp [results, Tryz.f96, go_sem], rfl, ?_⟩
    all_goals exact (hBW.drew).trans (belowK_b (w := w) (Nat.le_refl _) _ D _ _ (by omega) (show W.drew.heap[D]? = _ from hK) rfl rfl)
  case stop =>
    rintro D c pre W hD _ ⟨h, _⟩ hK
    exact h.elim
theorem scan_nil (A : Option Addr) (c : Nat) (w : World) : Calls Tryz.prog 96 #[.slice A 0 c] w fun e W' => e = .returned (.tuple #[.slice none 0 0, .int .i64 0]) ∧ Below w.heap.size w W' :=
  callsIn_wide.1 (scan_in Fence.wide 3 trivial trivial trivial rfl (by omega) A c w)
set_option maxRecDepth 100000 in
/-- A disk of no octets has no records. -/
theorem recover_nil (M N : Nat) (room : Int) (w : World) (h : Dsk M w N [] 0 room) :
    Calls Tryz.prog 94 #[.pointer (some ⟨N, 0, none⟩)] w fun x w' => x = .returned (.tuple #[.slice none 0 0, .int .i64 0]) ∧ Dk M w w' := by
  have hMw := dsk_size h
  have hr := h.2.2.1
  have HA := Lib.hid (dappend_ok M N 0 [] [] room none 0 w h (by simpa using hr) (Kd.row_nil _ _ _ _ _))
  clear h hr
  go_enter Tryz.func94, Tryz.ntmps94
  go_wp2_with first
    | (go_at_call 162; refine Calls.mono (HA.out) ?_; rintro x w1 ⟨rfl, d1, k1⟩; have R1 := Lib.hid (dread_calls M N 0 [] room w1 d1); have D1 := Lib.hid d1; have K1 := Lib.hid k1; clear d1 k1)
    | (go_at_call 97; refine Calls.mono (R1.out) ?_; rintro x w2 ⟨⟨v, rfl, own⟩, b2⟩; obtain ⟨A2, c2, rfl, _, _, _, _⟩ := Kd.own_row own; have D2 := Lib.hid (dsk_below D1.out b2); have B2 := Lib.hid b2; clear own b2)
    | (go_at_call 96; refine Calls.mono (scan_nil A2 c2 w2) ?_; rintro x w3 ⟨rfl, b3⟩; have C3 := Lib.hid (dcut_calls M N 0 0 [] room w3 (dsk_below D2.out b3) (by simp)); have B3 := Lib.hid b3; clear b3)
    | (go_at_call 166; refine Calls.mono (C3.out) ?_; rintro x w4 ⟨rfl, k4⟩)
  go_ret2
  have z1 := K1.out.1.size
  have z2 := B2.out.size
  exact ⟨rfl, dk_trans (dk_trans (dk_trans K1.out (dk_below B2.out (dsk_size D1.out))) (dk_below B3.out (dsk_size D2.out))) k4⟩
end Go.Proofs.YtcbfpdenjdgnlaaGreat
