/- Package octets: Get. No claim of its own; no condition. -/
import Derived.Test.YtcbfpdenjdgnlaaGreatQt04
import Derived.Laws.Bits64b
import Derived.RangeFuncNested
import Derived.RangeFuncBound
import Derived.RangeFuncCalls
import Derived.RangeFuncLeaves
import Derived.Shelf.Abstract
import Derived.Shelf.RegionOpen
import Derived.WalkKit
import Derived.OwnWalkIn
import Derived.TacticsInMore
import Derived.LoopNIn
import Derived.LoopIn
import Derived.StillTailTactics
import Derived.Laws.Rows
import Derived.Deep.WholeRow
import Derived.Laws.CopyOwn
namespace Go.Proofs.YtcbfpdenjdgnlaaGreat
open Go.ChangeShapes Go.WideShapes Go.ChangeAt Go.RowKit
set_option linter.unusedVariables false
set_option linter.unusedSimpArgs false
/-- What octets are as a number of 64 bits. -/
def getU (l : List UInt8) : Nat := l.foldl (fun u c => u * 256 % 18446744073709551616 + c.toNat) 0
theorem get_step {l : List UInt8} {k : Nat} {x : UInt8} (h : l[k]? = some x) : getU (l.take (k + 1)) = getU (l.take k) * 256 % 18446744073709551616 + x.toNat := by
  unfold getU
  rw [List.take_add_one, h, List.foldl_append]
  rfl
theorem mod_256 (u : Nat) : u * 256 % 18446744073709551616 = u % 72057594037927936 * 256 := Nat.mul_mod_mul_right 256 u 72057594037927936
theorem getU_lt (l : List UInt8) : getU l < 18446744073709551616 := by
  have key : ∀ (l : List UInt8) (u : Nat), u < 18446744073709551616 → l.foldl (fun u c => u * 256 % 18446744073709551616 + c.toNat) u < 18446744073709551616 := by
    intro l
    induction l with
    | nil => intro u h; exact h
    | cons c l ih =>
      intro u h
      refine ih _ ?_
      show u * 256 % 18446744073709551616 + c.toNat < 18446744073709551616
      have := c.toNat_lt
      have h2 := mod_256 u
      have h3 : u % 72057594037927936 < 72057594037927936 := Nat.mod_lt _ (by decide)
      omega
  exact key l 0 (by decide)
theorem or_256 (u : Nat) (x : UInt8) (hu : u < 18446744073709551616) : bits .or .u64 (IntKind.u64.wrap ((u : Int) * 256)) (IntKind.u64.wrap (x.toNat : Int)) = ((u * 256 % 18446744073709551616 + x.toNat : Nat) : Int) := by
  have hx := x.toNat_lt
  have e1 : IntKind.u64.wrap ((u : Int) * 256) = ((u * 256 % 18446744073709551616 : Nat) : Int) := by
    simp [IntKind.wrap, IntKind.bits, IntKind.signed]
  have e2 : IntKind.u64.wrap (x.toNat : Int) = (x.toNat : Int) := by
    simp [IntKind.wrap, IntKind.bits, IntKind.signed]; omega
  have h2 := mod_256 u
  have h3 : u % 72057594037927936 < 72057594037927936 := Nat.mod_lt _ (by decide)
  rw [e1, e2, bits_or_u64_nat _ _ (by omega) (by omega), h2]
  have h4 := Nat.two_pow_add_eq_or_of_lt (i := 8) (b := x.toNat) (by omega) (u % 72057594037927936)
  rw [show (2 : Nat) ^ 8 = 256 from rfl, Nat.mul_comm] at h4
  rw [h4]
theorem and_62 (u : Nat) (hu : u < 18446744073709551616) : wrap64 (bits .and .u64 (u : Int) 4611686018427387903) = ((u % 4611686018427387904 : Nat) : Int) := by
  have e := bits_and_u64_nat u 4611686018427387903 hu (by decide)
  rw [show ((4611686018427387903 : Nat) : Int) = 4611686018427387903 from rfl] at e
  rw [e, show (4611686018427387903 : Nat) = 2 ^ 62 - 1 from rfl, Nat.and_two_pow_sub_one_eq_mod, show (2 : Nat) ^ 62 = 4611686018427387904 from rfl]
  have h3 : u % 4611686018427387904 < 4611686018427387904 := Nat.mod_lt _ (by decide)
  generalize u % 4611686018427387904 = v at *
  unfold wrap64
  omega
set_option maxHeartbeats 1600000 in
set_option maxRecDepth 100000 in
theorem get_calls (l : List UInt8) (A : Option Addr) (n c : Nat) (w : World) (B : Nat) (hn : n = l.length) (hl : l.length ≤ 1048576) (hr : Kd.u8.Row 5 B w A l) :
    Calls Tryz.prog 223 #[.slice A n c] w fun e w' => e = .returned (.int .i64 ((getU l % 4611686018427387904 : Nat) : Int)) ∧ Below w.heap.size w w' := by
  subst hn
  go_enter Tryz.func223, Tryz.ntmps223
  go_wp2_with fail
  go_loopw [3, 8] (fun uv kv w' => ∃ k : Nat, k ≤ l.length ∧ kv = .int .i64 k ∧ uv = .int .u64 ((getU (l.take k) : Nat) : Int) ∧ Below w.heap.size w w') (fun _ kv _ => l.length - (intOf kv).toNat)
  case atStart => exact ⟨0, by omega, rfl, rfl, Below.refl _ _⟩
  case round =>
    obtain ⟨k, h1, rfl, rfl, bel⟩ := hrel
    by_cases h : k < l.length
    · obtain ⟨x, hx⟩ : ∃ x, l[k]? = some x := ⟨_, List.getElem?_eq_getElem h⟩
      obtain ⟨ad, rfl, e0⟩ := u8_at (Kd.row_below bel hr) hx
      have hs := get_step hx
      have hu := getU_lt (l.take k)
      have hkI : (k : Int) < (l.length : Int) := by omega
      generalize getU (l.take k) = u at *
      have HS := Lib.hid hs
      clear hs hx
      have ho := or_256 u x hu
      have HO := Lib.hid ho
      clear ho
      go_wp2_with fail
      go_roundw
      case rel => exact ⟨k + 1, by omega, by go_num, by rw [HO.out, HS.out], bel⟩
      case measure => simp [intOf]; omega
    · have hk : k = l.length := by omega
      subst hk
      rw [List.take_of_length_le (Nat.le_refl _)]
      have hu := getU_lt l
      obtain ⟨u, hu2⟩ : ∃ u, getU l = u := ⟨_, rfl⟩
      rw [hu2] at hu ⊢
      have HU := Lib.hid hu2
      clear hu2
      have hnI : ¬ ((l.length : Int) < (l.length : Int)) := by omega
      have ha := and_62 u hu
      have HA := Lib.hid ha
      clear ha
      go_wp2_with fail
      go_ret
      exact ⟨by rw [HU.out]; first | rw [← HA.out]; rfl | (rw [← Int.natCast_emod_ofNat]; rfl) | (have := HA.out; rw [show ((u : Int) % 4611686018427387904) = ((u % 4611686018427387904 : Nat) : Int) by omega, ← this]; rfl), bel⟩
end Go.Proofs.YtcbfpdenjdgnlaaGreat
/- slices.Backward at octets: the iterator. No claim of its own; no condition. -/
namespace Go.Proofs.YtcbfpdenjdgnlaaGreat
open Go.RowKit Go.Shelf
set_option linter.unusedVariables false
set_option linter.unusedSimpArgs false
attribute [local go_sem] Oper.semAt_some
/-- Block G holds n octets. -/
def octCells (l : List UInt8) : List Value := l.map fun b => .int .u8 (b.toNat : Int)
def octAt (G n : Nat) (W : World) : Prop := ∃ l : List UInt8, l.length = n ∧ W.heap[G]? = some (.cells (octCells l).toArray 5 (0, 0))
/-- What a round that goes on keeps: the box of the slice, and that there are octets. -/
def BkK (Bx G n : Nat) (W W' : World) : Prop := W'.cell? ⟨Bx, 0, none⟩ = W.cell? ⟨Bx, 0, none⟩ ∧ (octAt G n W → octAt G n W')
theorem bkK_t {Bx G n : Nat} {A B C : World} (h : BkK Bx G n A B) (k : BkK Bx G n B C) : BkK Bx G n A C := ⟨k.1.trans h.1, fun x => k.2 (h.2 x)⟩
theorem octCell {W : World} {G n i : Nat} (h : octAt G n W) (hi : i < n) : ∃ b : UInt8, W.cell? ⟨G, i, none⟩ = some (.int .u8 (b.toNat : Int)) := by
  obtain ⟨l, hl, hb⟩ := h
  refine ⟨l[i]'(by omega), block_cell hb ?_⟩
  rw [List.getElem?_toArray]
  unfold octCells
  rw [List.getElem?_map, List.getElem?_eq_getElem (by omega)]
  rfl
abbrev BkA (n : Nat) := { p : Nat × UInt8 // p.1 < n }
set_option maxRecDepth 100000 in
set_option maxHeartbeats 2000000 in
theorem bk1_in (F : Fence) (m : Nat) (h74 : F.fn 261) (hro : F.round = none) (hm : 1 ≤ m) (l Bx G n c : Nat) (hn : n ≤ 8) (J Jx : List (BkA n) → World → Prop)
    (hY : ∀ pre x W, J pre W → pre.length < n → YieldAt F (m - 1) Tryz.prog l #[.int .i64 (x.1.1 : Int), .int .u8 (x.1.2.toNat : Int)] W fun e W' =>
      (e = .returned (.bool true) ∧ J (pre ++ [x]) W' ∧ BkK Bx G n W W') ∨ (e = .returned (.bool false) ∧ Jx (pre ++ [x]) W'))
    (W : World) (hb : W.cell? ⟨Bx, 0, none⟩ = some (.slice (some ⟨G, 0, none⟩) n c)) (ho : octAt G n W) (h0 : J [] W) :
    CallsIn F m Tryz.prog 261 #[.func (.yield l) #[] #[], .pointer (some ⟨Bx, 0, none⟩)] W fun e W' => (∃ v, e = .returned v) ∧
      ((∃ xs : List (BkA n), xs.map (fun x => x.1.1) = (List.range n).reverse ∧ J xs W') ∨ (∃ pre, Jx pre W')) := by
  refine callsIn_of_wp Tryz.func261 rfl h74 ?_ hro
  simp only [Tryz.ntmps261, List.size_toArray, List.length_cons, List.length_nil, Nat.reduceAdd, Nat.reduceSub, Array.replicate_succ, Array.replicate_zero, List.push_toArray, List.append_toArray, List.nil_append, List.cons_append]
  have hsub : IntKind.i64.wrap ((n : Int) - 1) = (n : Int) - 1 := IntWalk.i64_in _ (by omega)
  gi_wp2
  gi_loopw [3] (fun q wr => ∃ (j : Nat) (pre : List (BkA n)), j ≤ n ∧ q = .int .i64 ((j : Int) - 1) ∧ pre.map (fun x => x.1.1) = ((List.range n).drop j).reverse ∧ J pre wr ∧ BkK Bx G n W wr)
    (fun q _ => ((intOf q) + 1).toNat)
  case atStart => exact ⟨n, [], by omega, by go_num, by simp, h0, rfl, fun h => h⟩
  case round =>
    obtain ⟨j, pre, hj, rfl, hpre, hJ, hK⟩ := hrel
    have hbx : wr.cell? ⟨Bx, 0, none⟩ = some (.slice (some ⟨G, 0, none⟩) n c) := hK.1.trans hb
    have hoc := hK.2 ho
    cases j with
    | zero =>
      have hlt : ¬ (((0 : Nat) : Int) - 1 ≥ 0) := by omega
      gi_wp2
      go_end0
      exact ⟨⟨_, rfl⟩, .inl ⟨pre, by simpa using hpre, hJ⟩⟩
    | succ i =>
      have hi : i < n := by omega
      obtain ⟨b, hbc⟩ := octCell hoc hi
      have hlen : pre.length = n - (i + 1) := by
        have := congrArg List.length hpre
        simpa using this
      obtain ⟨fn, tmps, assign, body, hy, hR⟩ := hY pre ⟨(i, b), hi⟩ wr hJ (by omega)
      dsimp only at hy
      have e1 : ((i + 1 : Nat) : Int) - 1 = (i : Int) := by omega
      have hge : (i : Int) ≥ 0 := by omega
      have hiI : (i : Int) < (n : Int) := by omega
      have hi0 : (0 : Int) ≤ (i : Int) := by omega
      rw [e1]
      clear e1 hlen
      have hws : IntKind.i64.wrap ((i : Int) - 1) = (i : Int) - 1 := IntWalk.i64_in _ (by omega)
      gi_wp2
      refine hR.mono ?_
      rintro e W3 (⟨rfl, hJ3, hk3⟩ | ⟨rfl, hJx3⟩)
      · gi_wp2
        go_roundw
        case rel =>
          refine ⟨i, pre ++ [⟨(i, b), hi⟩], by omega, by go_num, ?_, hJ3, bkK_t hK hk3⟩
          have hd : (List.range n).drop i = i :: (List.range n).drop (i + 1) := by
            rw [List.drop_eq_getElem_cons (by simpa using hi)]
            simp
          rw [List.map_append, hpre, hd, List.reverse_cons]
          rfl
        case measure => simp [intOf]
      · gi_wp2
        refine bodyPost_ret (results_none rfl _ _ _) rfl ?_
        exact ⟨⟨_, rfl⟩, .inr ⟨_, hJx3⟩⟩
theorem bk_stops (F : Fence) (m : Nat) (h74 : F.fn 261) (hro : F.round = none) (hm : 1 ≤ m) (Bx G n c : Nat) (hn : n ≤ 8) (w : World) (hBx : Bx < w.heap.size) (hG : G < w.heap.size)
    (hb : w.cell? ⟨Bx, 0, none⟩ = some (.slice (some ⟨G, 0, none⟩) n c)) (ho : octAt G n w) :
    SeqStopsK F m Tryz.prog 261 #[.pointer (some ⟨Bx, 0, none⟩)] (fun x : BkA n => #[Value.int .i64 (x.1.1 : Int), Value.int .u8 (x.1.2.toNat : Int)]) (BkK Bx G n) (fun xs => xs.map (fun x => x.1.1) = (List.range n).reverse) (fun _ => True) n w := fun l J Jx W hW _ _ hY h0 => by
  have hb2 := cell_below hW hb
  have ho2 : octAt G n W := by
    obtain ⟨l, h1, h2⟩ := ho
    exact ⟨l, h1, block_below hW h2⟩
  exact (bk1_in F m h74 hro hm l Bx G n c hn J Jx hY W hb2 ho2 h0).mono fun e W' ⟨h1, h2⟩ => ⟨h1, h2.imp id fun ⟨pre, h⟩ => ⟨pre, trivial, h⟩⟩
theorem bk_in (F : Fence) (m : Nat) (h71 : F.fn 220) (hro : F.round = none) (A : Option Addr) (n c : Nat) (w : World) :
    CallsIn F m Tryz.prog 220 #[.slice A n c] w fun e w' => e = .returned (.func (.func 261) #[] #[.pointer (some ⟨w.heap.size, 0, none⟩)]) ∧ w' = w.alloc (.cells #[.slice A n c] 60) := by
  refine callsIn_of_wp Tryz.func220 rfl h71 ?_ hro
  simp only [Tryz.ntmps220, List.size_toArray, List.length_cons, List.length_nil, Nat.reduceAdd, Nat.reduceSub, Array.replicate_succ, Array.replicate_zero, List.push_toArray, List.append_toArray, List.nil_append, List.cons_append]
  gi_wp2
  go_ret
  exact ⟨rfl, rfl⟩
end Go.Proofs.YtcbfpdenjdgnlaaGreat
/- Package sha: a block's words. No claim of its own; no condition. -/
namespace Go.Proofs.YtcbfpdenjdgnlaaGreat
open Go.ChangeShapes Go.WideShapes Go.ChangeAt Go.RowKit
set_option linter.unusedVariables false
set_option linter.unusedSimpArgs false
/-- Words in cells. -/
def wcs (l : List UInt32) : Array Value := (l.map fun x => Value.int .u32 (tn x)).toArray
theorem wcs_get {l : List UInt32} {i : Nat} {x : UInt32} (h : l[i]? = some x) : (wcs l)[i]? = some (.int .u32 (tn x)) := by
  unfold wcs
  rw [List.getElem?_toArray, List.getElem?_map, h]
  rfl
theorem wcs_set (l : List UInt32) (i : Nat) (x : UInt32) : (wcs l).setIfInBounds i (.int .u32 (tn x)) = wcs (l.set i x) := by
  unfold wcs
  rw [List.setIfInBounds_toArray, List.map_set]
/-- A block of words. -/
def WB (W : World) (N : Nat) (T : TypeId) (l : List UInt32) : Prop := W.heap[N]? = some (.cells (wcs l) T (0, 0))
theorem WB.cell {W : World} {N : Nat} {T : TypeId} {l : List UInt32} (h : WB W N T l) {i : Nat} {x : UInt32} (hx : l[i]? = some x) : W.cell? ⟨N, i, none⟩ = some (.int .u32 (tn x)) := block_cell h (wcs_get hx)
theorem WB.free {W : World} {N : Nat} {T : TypeId} {l : List UInt32} (h : WB W N T l) (i : Nat) : W.frozen? ⟨N, i, none⟩ = false := by
  unfold WB at h
  simp [World.frozen?, h]
theorem WB.below {W W' : World} {N : Nat} {T : TypeId} {l : List UInt32} (h : WB W N T l) (b : Below W.heap.size W W') : WB W' N T l := block_below b h
theorem block_set {w : World} {b i : Nat} {cs : Array Value} {u : Value} {t : TypeId} {f : Nat × Nat} (h : w.heap[b]? = some (.cells cs t f)) : (w.setCell ⟨b, i, none⟩ u).heap[b]? = some (.cells (cs.setIfInBounds i u) t f) := by
  obtain ⟨hlt, hk⟩ := Array.getElem?_eq_some_iff.1 h
  show (w.heap.modify b _)[b]? = _
  rw [Array.getElem?_eq_getElem (by rw [Array.size_modify]; exact hlt), Array.getElem_modify_self, hk]
  rfl
theorem block_far {w : World} {b i k : Nat} {o : Obj} {u : Value} (h : w.heap[k]? = some o) (hne : k ≠ b) : (w.setCell ⟨b, i, none⟩ u).heap[k]? = some o := (Below.heap_setCell w ⟨b, i, none⟩ u k hne).trans h
theorem WB.set {W : World} {N : Nat} {T : TypeId} {l : List UInt32} (h : WB W N T l) (i : Nat) (x : UInt32) : WB (W.setCell ⟨N, i, none⟩ (.int .u32 (tn x))) N T (l.set i x) := by
  have := block_set (i := i) (u := .int .u32 (tn x)) h
  rwa [wcs_set] at this
def sg0 (x : UInt32) : UInt32 := rotr x 7 ^^^ rotr x 18 ^^^ shr x 3
def sg1 (y : UInt32) : UInt32 := rotr y 17 ^^^ rotr y 19 ^^^ shr y 10
/-- The first words, so many. -/
def schA (b : List UInt8) : Nat → List UInt32
  | 0 => List.replicate 64 0
  | k + 1 => (schA b k).set k (beW b (4 * k))
def nextW (l : List UInt32) (t : Nat) : UInt32 := sg1 (l.getD (t + 14) 0) + l.getD (t + 9) 0 + sg0 (l.getD (t + 1) 0) + l.getD t 0
/-- And the rest, so many. -/
def schB (b : List UInt8) : Nat → List UInt32
  | 0 => schA b 16
  | t + 1 => (schB b t).set (t + 16) (nextW (schB b t) t)
theorem schA_len (b : List UInt8) (k : Nat) : (schA b k).length = 64 := by
  induction k with
  | zero => simp [schA]
  | succ k ih => simp [schA, ih]
theorem schB_len (b : List UInt8) (t : Nat) : (schB b t).length = 64 := by
  induction t with
  | zero => exact schA_len b 16
  | succ k ih => simp [schB, ih]
section
variable {P : Program}
theorem wpList_store_row {ops : Array Oper} {rest : List Oper} {o : Oper} {a : Act} {w : World} {Q : Exit → Act → World → Prop} (hgd : o.guard = none) (ty : TypeId) (x y : Operand) (ho : o.op = .store ty x y)
    (g : Nat) (hx : a.eval x = .pointer (some ⟨g, 0, none⟩)) (cs' : Array Value) (hy : a.eval y = .agg cs') (t : TypeId) (cs : Array Value) (hg : w.heap[g]? = some (.cells cs t (0, 0)))
    (hi : (P.info? ty).map (·.size) = some cs'.size) (hs : cs.size = cs'.size) (h1 : cs'.all (·.oneCell') = true)
    (h : wpList P ops Q rest (a.put o.dst undef) (w.setRow g cs')) : wpList P ops Q (o :: rest) a w :=
  wpList_plain hgd fun _ hK => by
    unfold Oper.wp execOp
    simp only [ho, hx, hy, Instr.storeAt, Instr.sureAddr, Sem.run_bind, Sem.run_pure, Result.andThen_ok, run_storeVar_row w g t ty cs cs' hg hi hs h1]
    exact hK _ _ h
end
theorem setRow_same {w : World} {g : Nat} {cs cs' : Array Value} {t : TypeId} {f : Nat × Nat} (hg : w.heap[g]? = some (.cells cs t f)) : (w.setRow g cs').heap[g]? = some (.cells cs' t f) := by
  obtain ⟨hlt, hk⟩ := Array.getElem?_eq_some_iff.1 hg
  show (w.heap.modify g _)[g]? = _
  rw [Array.getElem?_eq_getElem (by rw [Array.size_modify]; exact hlt), Array.getElem_modify_self, hk]
theorem wcs_one (l : List UInt32) : (wcs l).all (·.oneCell') = true := by
  unfold wcs
  rw [List.all_toArray, List.all_eq_true]
  intro x hx
  obtain ⟨y, _, rfl⟩ := List.mem_map.1 hx
  rfl
theorem wcs_size (l : List UInt32) : (wcs l).size = l.length := by simp [wcs]
theorem info_215 : (Tryz.prog.info? 215).map (·.size) = some 64 := by kernel_rfl
theorem zero64 : wcs (List.replicate 64 0) = #[Value.int .u32 0, Value.int .u32 0, Value.int .u32 0, Value.int .u32 0, Value.int .u32 0, Value.int .u32 0, Value.int .u32 0, Value.int .u32 0, Value.int .u32 0, Value.int .u32 0, Value.int .u32 0, Value.int .u32 0, Value.int .u32 0, Value.int .u32 0, Value.int .u32 0, Value.int .u32 0, Value.int .u32 0, Value.int .u32 0, Value.int .u32 0, Value.int .u32 0, Value.int .u32 0, Value.int .u32 0, Value.int .u32 0, Value.int .u32 0, Value.int .u32 0, Value.int .u32 0, Value.int .u32 0, Value.int .u32 0, Value.int .u32 0, Value.int .u32 0, Value.int .u32 0, Value.int .u32 0, Value.int .u32 0, Value.int .u32 0, Value.int .u32 0, Value.int .u32 0, Value.int .u32 0, Value.int .u32 0, Value.int .u32 0, Value.int .u32 0, Value.int .u32 0, Value.int .u32 0, Value.int .u32 0, Value.int .u32 0, Value.int .u32 0, Value.int .u32 0, Value.int .u32 0, Value.int .u32 0, Value.int .u32 0, Value.int .u32 0, Value.int .u32 0, Value.int .u32 0, Value.int .u32 0, Value.int .u32 0, Value.int .u32 0, Value.int .u32 0, Value.int .u32 0, Value.int .u32 0, Value.int .u32 0, Value.int .u32 0, Value.int .u32 0, Value.int .u32 0, Value.int .u32 0, Value.int .u32 0] := rfl
theorem d8 (x : UInt32) : tn x / 8 = tn (shr x 3) := tn_div x 3
theorem d1024 (x : UInt32) : tn x / 1024 = tn (shr x 10) := tn_div x 10
theorem right_any (x : UInt32) (n : Int) (h : 1 ≤ n ∧ n ≤ 31) (w : World) :
    Calls Tryz.prog 267 #[.int .u32 (tn x), .int .i64 n] w fun e w' => e = .returned (.int .u32 (tn (rotr x n.toNat))) ∧ w = w' := by
  obtain ⟨k, rfl⟩ : ∃ k : Nat, n = (k : Int) := ⟨n.toNat, by omega⟩
  exact right_calls x k (by omega) (by omega) w
attribute [local go_sem] b_xor b_and b_or b_add' b_not d8 d1024
set_option maxHeartbeats 3200000 in
set_option maxRecDepth 100000 in
theorem sched_calls (b : List UInt8) (A : Option Addr) (n c : Nat) (w : World) (B : Nat) (hn : n = b.length) (ha : b.length = 64) (hr : Kd.u8.Row 5 B w A b) :
    Calls Tryz.prog 266 #[.slice A n c] w fun e w' => e = .returned (.agg (wcs (schB b 48))) ∧ Below w.heap.size w w' := by
  subst hn
  have HA := Lib.hid ha
  clear ha
  have Z := Lib.hid zero64
  go_enter Tryz.func266, Tryz.ntmps266
  go_wp2_with fail
  rw [← Z.out]
  have hb1 : WB ((w.alloc (.cells (wcs (List.replicate 64 0)) 215)).alloc (.cells (wcs (List.replicate 64 0)) 215)) (w.heap.size + 1) 215 (schA b 0) := by
    have := alloc_new (w.alloc (.cells (wcs (List.replicate 64 0)) 215)) (.cells (wcs (List.replicate 64 0)) 215)
    rwa [World.size_alloc] at this
  have hb0 : WB ((w.alloc (.cells (wcs (List.replicate 64 0)) 215)).alloc (.cells (wcs (List.replicate 64 0)) 215)) w.heap.size 215 (List.replicate 64 0) := alloc_old (alloc_new w _) _
  have bel0 : Below w.heap.size w ((w.alloc (.cells (wcs (List.replicate 64 0)) 215)).alloc (.cells (wcs (List.replicate 64 0)) 215)) := bl_alloc (bl_alloc (Below.refl _ _) _) _
  generalize ((w.alloc (.cells (wcs (List.replicate 64 0)) 215)).alloc (.cells (wcs (List.replicate 64 0)) 215)) = W0 at *
  clear Z
  go_loopw [10] (fun kv w' => ∃ k : Nat, k ≤ 16 ∧ kv = .int .i64 k ∧ WB w' (w.heap.size + 1) 215 (schA b k) ∧ WB w' w.heap.size 215 (List.replicate 64 0) ∧ Below w.heap.size w w') (fun kv _ => 16 - (intOf kv).toNat)
  case atStart => exact ⟨0, by omega, rfl, hb1, hb0, bel0⟩
  case round =>
    obtain ⟨k, h1, rfl, g1, g0, bel⟩ := hrel
    by_cases h : k < 16
    · have hkI : (k : Int) < 16 := by omega
      have hk64 : (k : Int) < 64 := by omega
      have hk0 : (0 : Int) ≤ (k : Int) := by omega
      have hw := word_calls b A b.length c (4 * k) wr B rfl (by rw [HA.out]; omega) (by rw [HA.out]; omega) (Kd.row_below bel hr)
      have HW := Lib.hid hw
      clear hw
      go_wp2_with (go_at_call 280; refine (HW.out).mono ?_; rintro e w1 ⟨rfl, b1⟩; have g1' := WB.below g1 b1; have g0' := WB.below g0 b1; have z1 := WB.free g1' k; have c1 := (WB.cell g1' (List.getElem?_eq_getElem (i := k) (by rw [schA_len]; omega))))
      go_roundw
      case rel => exact ⟨k + 1, by omega, by go_num, WB.set g1' k _, block_far g0' (by omega), bl_set (bl_trans bel b1) (p := ⟨_, _, none⟩) (by show _ ≤ w.heap.size + 1; omega) _⟩
      case measure => simp [intOf]; omega
    · have hk : k = 16 := by omega
      subst hk
      have hkI : ¬ (((16 : Nat) : Int) < 16) := by omega
      go_wp2_with fail
      clear hkI h h1
      go_loopw [5] (fun kv w' => ∃ t : Nat, t ≤ 48 ∧ kv = .int .i64 ((t : Int) + 16) ∧ WB w' (w.heap.size + 1) 215 (schB b t) ∧ WB w' w.heap.size 215 (List.replicate 64 0) ∧ Below w.heap.size w w') (fun kv _ => 64 - (intOf kv).toNat)
      case atStart => exact ⟨0, by omega, rfl, g1, g0, bel⟩
      case round =>
        clear g1 g0 bel
        obtain ⟨t, h1, rfl, g1, g0, bel⟩ := hrel
        have hlen := schB_len b t
        by_cases h : t < 48
        · have hkI : (t : Int) + 16 < 64 := by omega
          have hk0 : (0 : Int) ≤ (t : Int) := by omega
          obtain ⟨x, hx⟩ : ∃ x, (schB b t)[t + 1]? = some x := ⟨_, List.getElem?_eq_getElem (by omega)⟩
          obtain ⟨y, hy⟩ : ∃ x, (schB b t)[t + 14]? = some x := ⟨_, List.getElem?_eq_getElem (by omega)⟩
          obtain ⟨p, hp⟩ : ∃ x, (schB b t)[t + 9]? = some x := ⟨_, List.getElem?_eq_getElem (by omega)⟩
          obtain ⟨q, hq⟩ : ∃ x, (schB b t)[t]? = some x := ⟨_, List.getElem?_eq_getElem (by omega)⟩
          obtain ⟨r, hr16⟩ : ∃ x, (schB b t)[t + 16]? = some x := ⟨_, List.getElem?_eq_getElem (by omega)⟩
          have hs : schB b (t + 1) = (schB b t).set (t + 16) (sg1 y + p + sg0 x + q) := by
            show (schB b t).set (t + 16) (nextW _ _) = _
            unfold nextW
            simp only [List.getD_eq_getElem?_getD, hx, hy, hp, hq, Option.getD_some]
          have HS := Lib.hid hs
          clear hs hlen
          have cx := WB.cell g1 hx
          have cy := WB.cell g1 hy
          have HP := Lib.hid hp
          have HQ := Lib.hid hq
          have HR := Lib.hid hr16
          clear hp hq hr16 hx hy
          go_upto_region 10 with fail
          go_quiet (fail)
          go_upto_region 13 with ((go_at_call 267; refine (right_any _ _ (by omega) _).mono ?_; rintro e w' ⟨rfl, rfl⟩))
          refine wp_region_still_tail 15 (by kernel_rfl) (by kernel_rfl) ?_
          change wpStill _ _ (wr.drewN nq).drew (fun a' => wpList _ _ _ _ a' (wr.drewN nq).drew) _ _
          have g2 : WB (wr.drewN nq).drew (w.heap.size + 1) 215 (schB b t) := g1
          have g3 : WB (wr.drewN nq).drew w.heap.size 215 (List.replicate 64 0) := g0
          have bel3 := bl_drew (bl_drewN bel nq)
          clear g1 g0 bel cx cy
          generalize (wr.drewN nq).drew = w5 at *
          have cp := WB.cell g2 HP.out
          have cq := WB.cell g2 HQ.out
          have cr := WB.cell g2 HR.out
          have zr := WB.free g2 (t + 16)
          have n1 : (0 : Int) ≤ (t : Int) + 9 := by omega
          have n2 : (t : Int) + 9 < 64 := by omega
          have n3 : (0 : Int) ≤ (t : Int) + 16 := by omega
          have n4 : (t : Int) < 64 := by omega
          have p7 : (t : Int) + 16 - 7 = (t : Int) + 9 := by omega
          have p16 : (t : Int) + 16 - 16 = (t : Int) := by omega
          have w9 : IntKind.i64.wrap ((t : Int) + 9) = (t : Int) + 9 := IntWalk.i64_in _ (by omega)
          have w0 : IntKind.i64.wrap (t : Int) = (t : Int) := IntWalk.i64_in _ (by omega)
          have m1 : ((t : Int) + 9).toNat = t + 9 := by omega
          have m2 : ((t : Int) + 16).toNat = t + 16 := by omega
          have w7 : IntKind.i64.wrap ((t : Int) + 16 - 7) = (t : Int) + 9 := (IntWalk.i64_in _ (by omega)).trans (by omega)
          have w16 : IntKind.i64.wrap ((t : Int) + 16 - 16) = (t : Int) := (IntWalk.i64_in _ (by omega)).trans (by omega)
          simp only [List.take_succ_cons, List.take_zero, List.drop_succ_cons, List.drop_zero]
          repeat still_step
          try refine wpStill_nil ?_
          clear w7 w16 m1 m2 p7 p16 w9 w0
          trace_state
          go_wp2_with fail
          go_roundw
          case rel => exact ⟨t + 1, by omega, congrArg (Value.int .i64) (by omega), by rw [HS.out]; exact WB.set g2 (t + 16) _, block_far g3 (by omega), bl_set bel3 (p := ⟨_, _, none⟩) (by show _ ≤ w.heap.size + 1; omega) _⟩
          case measure => simp [intOf]; omega
        · have hk : t = 48 := by omega
          subst hk
          have hkI : ¬ (((48 : Nat) : Int) + 16 < 64) := by omega
          have i215 := info_215
          have I215 := Lib.hid i215
          clear i215
          unfold WB at g1 g0
          go_wp2_with (first | (refine wpList_load_row rfl 215 (.tmp 3) rfl (w.heap.size + 1) rfl 215 (wcs (schB b 48)) (0, 0) _ g1 Tryz.underlying215 rfl (by rw [I215.out, wcs_size, schB_len]) ?_) | (refine wpList_store_row rfl 215 (.tmp 2) (.tmp 63) rfl w.heap.size rfl (wcs (schB b 48)) rfl 215 _ g0 (by rw [I215.out, wcs_size, schB_len]) (by rw [wcs_size, wcs_size, schB_len, List.length_replicate]) (wcs_one _) ?_))
          refine bodyPost_ret (results_cell_row rfl _ _ w.heap.size 215 (wcs (schB b 48)) (0, 0) _ rfl (setRow_same g0) Tryz.underlying215 rfl (by rw [I215.out, wcs_size, schB_len])) rfl ?_
          exact ⟨rfl, below_setRow bel (Nat.le_refl _) _⟩
end Go.Proofs.YtcbfpdenjdgnlaaGreat
