/- Package octets: Get. No claim of its own; no condition. -/
import Derived.Test.YtcbfpdenjdgnlaaGreatShaB
import Derived.Laws.Bits64b
import Derived.RangeFuncNested
import Derived.RangeFuncBound
import Derived.RangeFuncCalls
import Derived.RangeFuncLeaves
import Derived.Shelf.Abstract
import Derived.Shelf.RegionOpen
import Derived.WalkKit
import Derived.OwnWalkIn
import Derived.TacticsInMore
import Derived.LoopNIn
import Derived.LoopIn
import Derived.Test.YtcbfpdenjdgnlaaGreatWordsB
namespace Go.Proofs.YtcbfpdenjdgnlaaGreat
open Go.ChangeShapes Go.WideShapes Go.ChangeAt Go.RowKit
set_option linter.unusedVariables false
set_option linter.unusedSimpArgs false
/-- What octets are as a number of 64 bits. -/
def getU (l : List UInt8) : Nat := l.foldl (fun u c => u * 256 % 18446744073709551616 + c.toNat) 0
theorem get_step {l : List UInt8} {k : Nat} {x : UInt8} (h : l[k]? = some x) : getU (l.take (k + 1)) = getU (l.take k) * 256 % 18446744073709551616 + x.toNat := by
  unfold getU
  rw [List.take_add_one, h, List.foldl_append]
  rfl
theorem mod_256 (u : Nat) : u * 256 % 18446744073709551616 = u % 72057594037927936 * 256 := Nat.mul_mod_mul_right 256 u 72057594037927936
theorem getU_lt (l : List UInt8) : getU l < 18446744073709551616 := by
  have key : ∀ (l : List UInt8) (u : Nat), u < 18446744073709551616 → l.foldl (fun u c => u * 256 % 18446744073709551616 + c.toNat) u < 18446744073709551616 := by
    intro l
    induction l with
    | nil => intro u h; exact h
    | cons c l ih =>
      intro u h
      refine ih _ ?_
      show u * 256 % 18446744073709551616 + c.toNat < 18446744073709551616
      have := c.toNat_lt
      have h2 := mod_256 u
      have h3 : u % 72057594037927936 < 72057594037927936 := Nat.mod_lt _ (by decide)
      omega
  exact key l 0 (by decide)
theorem or_256 (u : Nat) (x : UInt8) (hu : u < 18446744073709551616) : bits .or .u64 (IntKind.u64.wrap ((u : Int) * 256)) (IntKind.u64.wrap (x.toNat : Int)) = ((u * 256 % 18446744073709551616 + x.toNat : Nat) : Int) := by
  have hx := x.toNat_lt
  have e1 : IntKind.u64.wrap ((u : Int) * 256) = ((u * 256 % 18446744073709551616 : Nat) : Int) := by
    simp [IntKind.wrap, IntKind.bits, IntKind.signed]
  have e2 : IntKind.u64.wrap (x.toNat : Int) = (x.toNat : Int) := by
    simp [IntKind.wrap, IntKind.bits, IntKind.signed]; omega
  have h2 := mod_256 u
  have h3 : u % 72057594037927936 < 72057594037927936 := Nat.mod_lt _ (by decide)
  rw [e1, e2, bits_or_u64_nat _ _ (by omega) (by omega), h2]
  have h4 := Nat.two_pow_add_eq_or_of_lt (i := 8) (b := x.toNat) (by omega) (u % 72057594037927936)
  rw [show (2 : Nat) ^ 8 = 256 from rfl, Nat.mul_comm] at h4
  rw [h4]
theorem and_62 (u : Nat) (hu : u < 18446744073709551616) : wrap64 (bits .and .u64 (u : Int) 4611686018427387903) = ((u % 4611686018427387904 : Nat) : Int) := by
  have e := bits_and_u64_nat u 4611686018427387903 hu (by decide)
  rw [show ((4611686018427387903 : Nat) : Int) = 4611686018427387903 from rfl] at e
  rw [e, show (4611686018427387903 : Nat) = 2 ^ 62 - 1 from rfl, Nat.and_two_pow_sub_one_eq_mod, show (2 : Nat) ^ 62 = 4611686018427387904 from rfl]
  have h3 : u % 4611686018427387904 < 4611686018427387904 := Nat.mod_lt _ (by decide)
  generalize u % 4611686018427387904 = v at *
  unfold wrap64
  omega
set_option maxHeartbeats 1600000 in
set_option maxRecDepth 100000 in
theorem get_calls (l : List UInt8) (A : Option Addr) (n c : Nat) (w : World) (B : Nat) (hn : n = l.length) (hl : l.length ≤ 1048576) (hr : Kd.u8.Row 5 B w A l) :
    Calls Tryz.prog 223 #[.slice A n c] w fun e w' => e = .returned (.int .i64 ((getU l % 4611686018427387904 : Nat) : Int)) ∧ Below w.heap.size w w' := by
  subst hn
  go_enter Tryz.func223, Tryz.ntmps223
  go_wp2_with fail
  go_loopw [3, 8] (fun uv kv w' => ∃ k : Nat, k ≤ l.length ∧ kv = .int .i64 k ∧ uv = .int .u64 ((getU (l.take k) : Nat) : Int) ∧ Below w.heap.size w w') (fun _ kv _ => l.length - (intOf kv).toNat)
  case atStart => exact ⟨0, by omega, rfl, rfl, Below.refl _ _⟩
  case round =>
    obtain ⟨k, h1, rfl, rfl, bel⟩ := hrel
    by_cases h : k < l.length
    · obtain ⟨x, hx⟩ : ∃ x, l[k]? = some x := ⟨_, List.getElem?_eq_getElem h⟩
      obtain ⟨ad, rfl, e0⟩ := u8_at (Kd.row_below bel hr) hx
      have hs := get_step hx
      have hu := getU_lt (l.take k)
      have hkI : (k : Int) < (l.length : Int) := by omega
      generalize getU (l.take k) = u at *
      have HS := Lib.hid hs
      clear hs hx
      have ho := or_256 u x hu
      have HO := Lib.hid ho
      clear ho
      go_wp2_with fail
      go_roundw
      case rel => exact ⟨k + 1, by omega, by go_num, by rw [HO.out, HS.out], bel⟩
      case measure => simp [intOf]; omega
    · have hk : k = l.length := by omega
      subst hk
      rw [List.take_of_length_le (Nat.le_refl _)]
      have hu := getU_lt l
      obtain ⟨u, hu2⟩ : ∃ u, getU l = u := ⟨_, rfl⟩
      rw [hu2] at hu ⊢
      have HU := Lib.hid hu2
      clear hu2
      have hnI : ¬ ((l.length : Int) < (l.length : Int)) := by omega
      have ha := and_62 u hu
      have HA := Lib.hid ha
      clear ha
      go_wp2_with fail
      go_ret
      exact ⟨by rw [HU.out]; first | rw [← HA.out]; rfl | (rw [← Int.natCast_emod_ofNat]; rfl) | (have := HA.out; rw [show ((u : Int) % 4611686018427387904) = ((u % 4611686018427387904 : Nat) : Int) by omega, ← this]; rfl), bel⟩
end Go.Proofs.YtcbfpdenjdgnlaaGreat
/- slices.Backward at octets: the iterator. No claim of its own; no condition. -/
namespace Go.Proofs.YtcbfpdenjdgnlaaGreat
open Go.RowKit Go.Shelf
set_option linter.unusedVariables false
set_option linter.unusedSimpArgs false
attribute [local go_sem] Oper.semAt_some
/-- Block G holds n octets. -/
def octCells (l : List UInt8) : List Value := l.map fun b => .int .u8 (b.toNat : Int)
def octAt (G n : Nat) (W : World) : Prop := ∃ l : List UInt8, l.length = n ∧ W.heap[G]? = some (.cells (octCells l).toArray 5 (0, 0))
/-- What a round that goes on keeps: the box of the slice, and that there are octets. -/
def BkK (Bx G n : Nat) (W W' : World) : Prop := W'.cell? ⟨Bx, 0, none⟩ = W.cell? ⟨Bx, 0, none⟩ ∧ (octAt G n W → octAt G n W')
theorem bkK_t {Bx G n : Nat} {A B C : World} (h : BkK Bx G n A B) (k : BkK Bx G n B C) : BkK Bx G n A C := ⟨k.1.trans h.1, fun x => k.2 (h.2 x)⟩
theorem octCell {W : World} {G n i : Nat} (h : octAt G n W) (hi : i < n) : ∃ b : UInt8, W.cell? ⟨G, i, none⟩ = some (.int .u8 (b.toNat : Int)) := by
  obtain ⟨l, hl, hb⟩ := h
  refine ⟨l[i]'(by omega), block_cell hb ?_⟩
  rw [List.getElem?_toArray]
  unfold octCells
  rw [List.getElem?_map, List.getElem?_eq_getElem (by omega)]
  rfl
abbrev BkA (n : Nat) := { p : Nat × UInt8 // p.1 < n }
set_option maxRecDepth 100000 in
set_option maxHeartbeats 2000000 in
theorem bk1_in (F : Fence) (m : Nat) (h74 : F.fn 261) (hro : F.round = none) (hm : 1 ≤ m) (l Bx G n c : Nat) (hn : n ≤ 8) (J Jx : List (BkA n) → World → Prop)
    (hY : ∀ pre x W, J pre W → pre.length < n → YieldAt F (m - 1) Tryz.prog l #[.int .i64 (x.1.1 : Int), .int .u8 (x.1.2.toNat : Int)] W fun e W' =>
      (e = .returned (.bool true) ∧ J (pre ++ [x]) W' ∧ BkK Bx G n W W') ∨ (e = .returned (.bool false) ∧ Jx (pre ++ [x]) W'))
    (W : World) (hb : W.cell? ⟨Bx, 0, none⟩ = some (.slice (some ⟨G, 0, none⟩) n c)) (ho : octAt G n W) (h0 : J [] W) :
    CallsIn F m Tryz.prog 261 #[.func (.yield l) #[] #[], .pointer (some ⟨Bx, 0, none⟩)] W fun e W' => (∃ v, e = .returned v) ∧
      ((∃ xs : List (BkA n), xs.map (fun x => x.1.1) = (List.range n).reverse ∧ J xs W') ∨ (∃ pre, Jx pre W')) := by
  refine callsIn_of_wp Tryz.func261 rfl h74 ?_ hro
  simp only [Tryz.ntmps261, List.size_toArray, List.length_cons, List.length_nil, Nat.reduceAdd, Nat.reduceSub, Array.replicate_succ, Array.replicate_zero, List.push_toArray, List.append_toArray, List.nil_append, List.cons_append]
  have hsub : IntKind.i64.wrap ((n : Int) - 1) = (n : Int) - 1 := IntWalk.i64_in _ (by omega)
  gi_wp2
  gi_loopw [3] (fun q wr => ∃ (j : Nat) (pre : List (BkA n)), j ≤ n ∧ q = .int .i64 ((j : Int) - 1) ∧ pre.map (fun x => x.1.1) = ((List.range n).drop j).reverse ∧ J pre wr ∧ BkK Bx G n W wr)
    (fun q _ => ((intOf q) + 1).toNat)
  case atStart => exact ⟨n, [], by omega, by go_num, by simp, h0, rfl, fun h => h⟩
  case round =>
    obtain ⟨j, pre, hj, rfl, hpre, hJ, hK⟩ := hrel
    have hbx : wr.cell? ⟨Bx, 0, none⟩ = some (.slice (some ⟨G, 0, none⟩) n c) := hK.1.trans hb
    have hoc := hK.2 ho
    cases j with
    | zero =>
      have hlt : ¬ (((0 : Nat) : Int) - 1 ≥ 0) := by omega
      gi_wp2
      go_end0
      exact ⟨⟨_, rfl⟩, .inl ⟨pre, by simpa using hpre, hJ⟩⟩
    | succ i =>
      have hi : i < n := by omega
      obtain ⟨b, hbc⟩ := octCell hoc hi
      have hlen : pre.length = n - (i + 1) := by
        have := congrArg List.length hpre
        simpa using this
      obtain ⟨fn, tmps, assign, body, hy, hR⟩ := hY pre ⟨(i, b), hi⟩ wr hJ (by omega)
      dsimp only at hy
      have e1 : ((i + 1 : Nat) : Int) - 1 = (i : Int) := by omega
      have hge : (i : Int) ≥ 0 := by omega
      have hiI : (i : Int) < (n : Int) := by omega
      have hi0 : (0 : Int) ≤ (i : Int) := by omega
      rw [e1]
      clear e1 hlen
      have hws : IntKind.i64.wrap ((i : Int) - 1) = (i : Int) - 1 := IntWalk.i64_in _ (by omega)
      gi_wp2
      refine hR.mono ?_
      rintro e W3 (⟨rfl, hJ3, hk3⟩ | ⟨rfl, hJx3⟩)
      · gi_wp2
        go_roundw
        case rel =>
          refine ⟨i, pre ++ [⟨(i, b), hi⟩], by omega, by go_num, ?_, hJ3, bkK_t hK hk3⟩
          have hd : (List.range n).drop i = i :: (List.range n).drop (i + 1) := by
            rw [List.drop_eq_getElem_cons (by simpa using hi)]
            simp
          rw [List.map_append, hpre, hd, List.reverse_cons]
          rfl
        case measure => simp [intOf]
      · gi_wp2
        refine bodyPost_ret (results_none rfl _ _ _) rfl ?_
        exact ⟨⟨_, rfl⟩, .inr ⟨_, hJx3⟩⟩
theorem bk_stops (F : Fence) (m : Nat) (h74 : F.fn 261) (hro : F.round = none) (hm : 1 ≤ m) (Bx G n c : Nat) (hn : n ≤ 8) (w : World) (hBx : Bx < w.heap.size) (hG : G < w.heap.size)
    (hb : w.cell? ⟨Bx, 0, none⟩ = some (.slice (some ⟨G, 0, none⟩) n c)) (ho : octAt G n w) :
    SeqStopsK F m Tryz.prog 261 #[.pointer (some ⟨Bx, 0, none⟩)] (fun x : BkA n => #[Value.int .i64 (x.1.1 : Int), Value.int .u8 (x.1.2.toNat : Int)]) (BkK Bx G n) (fun xs => xs.map (fun x => x.1.1) = (List.range n).reverse) (fun _ => True) n w := fun l J Jx W hW _ _ hY h0 => by
  have hb2 := cell_below hW hb
  have ho2 : octAt G n W := by
    obtain ⟨l, h1, h2⟩ := ho
    exact ⟨l, h1, block_below hW h2⟩
  exact (bk1_in F m h74 hro hm l Bx G n c hn J Jx hY W hb2 ho2 h0).mono fun e W' ⟨h1, h2⟩ => ⟨h1, h2.imp id fun ⟨pre, h⟩ => ⟨pre, trivial, h⟩⟩
theorem bk_in (F : Fence) (m : Nat) (h71 : F.fn 220) (hro : F.round = none) (A : Option Addr) (n c : Nat) (w : World) :
    CallsIn F m Tryz.prog 220 #[.slice A n c] w fun e w' => e = .returned (.func (.func 261) #[] #[.pointer (some ⟨w.heap.size, 0, none⟩)]) ∧ w' = w.alloc (.cells #[.slice A n c] 60) := by
  refine callsIn_of_wp Tryz.func220 rfl h71 ?_ hro
  simp only [Tryz.ntmps220, List.size_toArray, List.length_cons, List.length_nil, Nat.reduceAdd, Nat.reduceSub, Array.replicate_succ, Array.replicate_zero, List.push_toArray, List.append_toArray, List.nil_append, List.cons_append]
  gi_wp2
  go_ret
  exact ⟨rfl, rfl⟩
end Go.Proofs.YtcbfpdenjdgnlaaGreat
