/- Package mootref01: Put. No claim of its own; no condition. -/
import Derived.Test.YtcbfpdenjdgnlaaGreatQt06
import Derived.Test.YtcbfpdenjdgnlaaGreatQt07
import Derived.Lib.AppendZerosOnto
import Derived.Outline
namespace Go.Proofs.YtcbfpdenjdgnlaaGreat
open Go.ChangeShapes Go.WideShapes Go.ChangeAt Go.RowKit
set_option linter.unusedVariables false
set_option linter.unusedSimpArgs false
theorem putB_snoc (n v k : Nat) (h : k < n) : (putB n v).take (k + 1) = (putB n v).take k ++ [UInt8.ofNat (v / 256 ^ (n - 1 - k))] := by
  rw [List.take_add_one]
  congr 1
  unfold putB
  rw [List.getElem?_map, List.getElem?_range h]
  rfl
theorem shr_byte (v j : Nat) : (v : Int) / 2 ^ (8 * j) % 256 = un (UInt8.ofNat (v / 256 ^ j)) := by
  unfold un
  rw [UInt8.toNat_ofNat', Int.pow_mul]
  simp
set_option maxHeartbeats 1600000 in
set_option maxRecDepth 100000 in
theorem refput_calls (n v : Nat) (hn8 : n ≤ 8) (hv : v < 9223372036854775808) (w : World) :
    Calls Tryz.prog 221 #[.int .i64 (v : Int), .int .i64 (n : Int)] w fun e w' => (∃ u, e = .returned u ∧ Kd.u8.Own 5 w.heap.size w' w.heap.size u (putB n v)) ∧ Below w.heap.size w w' := by
  obtain ⟨i0, hi, hz0, hz1, hz2⟩ := info_parts info_u8
  have hmx : ∀ w : World, (Builtin.max_ #[3, 3] 3 #[.int .i64 (n : Int), .int .i64 0]).run Tryz.prog w = .ok (.int .i64 (n : Int)) w := fun w => by rw [run_max2, Int.max_eq_left (by omega)]
  have hmn : ∀ w : World, (Builtin.min_ #[3, 3] 3 #[.int .i64 (n : Int), .int .i64 8]).run Tryz.prog w = .ok (.int .i64 (n : Int)) w := fun w => by rw [run_min2, Int.min_eq_left (by omega)]
  go_enter Tryz.func221, Tryz.ntmps221
  go_wp2_with fail
  go_loopw [5, 6] (fun ov kv w' => ∃ k : Nat, k ≤ n ∧ kv = .int .i64 k ∧ Kd.u8.Own 5 w.heap.size w' w.heap.size ov ((putB n v).take k) ∧ Below w.heap.size w w') (fun _ kv _ => n - (intOf kv).toNat)
  case atStart => exact ⟨0, by omega, rfl, by rw [List.take_zero]; exact Kd.own_nil _ _ _ _ _, Below.refl _ _⟩
  case round =>
    obtain ⟨k, h1, rfl, own, bel⟩ := hrel
    by_cases h : k < n
    · have hkI : (k : Int) < (n : Int) := by omega
      have hk0 : (0 : Int) ≤ (n : Int) - 1 - (k : Int) := by omega
      obtain ⟨Ao, co, rfl, _, _, _, _⟩ := Kd.own_row own
      have hs := putB_snoc n v k h
      have hq := shr_byte v (n - 1 - k)
      obtain ⟨y, hy⟩ : ∃ y, UInt8.ofNat (v / 256 ^ (n - 1 - k)) = y := ⟨_, rfl⟩
      rw [hy] at hs hq
      have hlo : ((putB n v).take k).length ≤ 8 := by rw [List.length_take, putB_len]; omega
      have HS := Lib.hid hs
      obtain ⟨T', hT'⟩ : ∃ T', (putB n v).take k = T' := ⟨_, rfl⟩
      rw [hT'] at hlo own ⊢
      have HT := Lib.hid hT'
      clear hs hT' hy
      have al := bl_alloc (Below.refl wr.heap.size wr) (.cells #[.int .u8 (un y)] 5)
      have ownA := Kd.own_below own al
      have belA := bl_trans bel al
      have row1 : Kd.u8.Row 5 w.heap.size (wr.alloc (.cells #[.int .u8 (un y)] 5)) (some ⟨wr.heap.size, 0, none⟩) [y] := Kd.row_fresh1 (show Kd.u8.K _ _ _ [_] from rfl)
      go_wp2_with ((at_builtin; refine wpList_append_row _ rfl (.tmp 15) (.tmp 26) 60 rfl Kd.u8 w.heap.size w.heap.size 5 i0 _ 1 Tryz.underlying60 hi hz0 hz1 hz2 rfl (by decide) _ T' rfl ownA _ _ _ [y] rfl rfl row1 (by simp only [List.length_cons, List.length_nil]; omega) (by decide) belA.size (Nat.le_refl _) (by decide) ?_; intro v4 w4 own4 grw4 at4; have bel4 := Kd.own_step belA ownA grw4))
      go_roundw
      case rel => exact ⟨k + 1, by omega, by go_num, (by rw [HS.out, HT.out]; exact own4), bel4⟩
      case measure => simp [intOf]; omega
    · have hk : k = n := by omega
      subst hk
      have hnI : ¬ ((k : Int) < (k : Int)) := by omega
      rw [List.take_of_length_le (by rw [putB_len]; omega)] at own
      go_wp2_with fail
      go_ret
      exact ⟨⟨_, rfl, own⟩, bel⟩
end Go.Proofs.YtcbfpdenjdgnlaaGreat
/- Package mootref01: Pad. No claim of its own; no condition. -/
namespace Go.Proofs.YtcbfpdenjdgnlaaGreat
open Go.ChangeShapes Go.WideShapes Go.ChangeAt Go.RowKit
set_option linter.unusedVariables false
set_option linter.unusedSimpArgs false
def zpad (n : Nat) : Nat := (119 - n % 64) % 64
/-- A text with its padding. -/
def padB (b : List UInt8) : List UInt8 := b ++ [128] ++ List.replicate (zpad b.length) 0 ++ putB 8 (8 * b.length)
set_option maxHeartbeats 1600000 in
set_option maxRecDepth 100000 in
theorem refpad_calls (b : List UInt8) (A : Option Addr) (n c : Nat) (w : World) (B : Nat) (hn : n = b.length) (hl : b.length ≤ 2097152) (hr : Kd.u8.Row 5 B w A b) :
    Calls Tryz.prog 160 #[.slice A n c] w fun e w' => (∃ v, e = .returned v ∧ Kd.u8.Own 5 w.heap.size w' w.heap.size v (padB b)) ∧ Below w.heap.size w w' := by
  subst hn
  obtain ⟨i0, hi, hz0, hz1, hz2⟩ := info_parts info_u8
  have hnil : Kd.u8.Own 5 w.heap.size w w.heap.size (.slice none 0 0) [] := Kd.own_nil _ _ _ _ _
  have rowb := Kd.row_flat Kd.flat_u8 hr (Nat.le_refl _)
  have hz : ∀ j, j ≤ zpad b.length → ((b.length + 1 + j) % 64 = 56 ↔ j = zpad b.length) := fun j hj => by unfold zpad at *; omega
  have hzl : zpad b.length < 64 := Nat.mod_lt _ (by omega)
  have HZ := Lib.hid hz
  have HPAD : Hid (padB b = b ++ [128] ++ List.replicate (zpad b.length) 0 ++ putB 8 (8 * b.length)) := Lib.hid rfl
  obtain ⟨z, hzz⟩ : ∃ z, zpad b.length = z := ⟨_, rfl⟩
  rw [hzz] at HZ hzl HPAD
  have HZZ := Lib.hid hzz
  clear hz hzz
  go_enter Tryz.func160, Tryz.ntmps160
  go_wp2_with (first
    | (at_builtin; refine wpList_append_row _ rfl (.tmp 4) (.tmp 5) 60 rfl Kd.u8 w.heap.size w.heap.size 5 i0 _ 1 Tryz.underlying60 hi hz0 hz1 hz2 rfl (by decide) _ [] rfl hnil _ _ _ b rfl rfl rowb (by simp only [List.length_nil]; omega) (by decide) (Nat.le_refl _) (Nat.le_refl _) (by decide) ?_; intro v1 w1 own1 grw1 at1; rw [List.nil_append] at own1; have bel1 := Kd.own_step (Below.refl _ _) hnil grw1; obtain ⟨A1, c1, rfl, _, _, _, _⟩ := Kd.own_row own1; have al := bl_alloc (Below.refl w1.heap.size w1) (.cells #[.int .u8 128] 5); have ownA := Kd.own_below own1 al; have belA := bl_trans bel1 al; have row1 : Kd.u8.Row 5 w.heap.size (w1.alloc (.cells #[.int .u8 128] 5)) (some ⟨w1.heap.size, 0, none⟩) [128] := Kd.row_fresh1 (show Kd.u8.K _ _ _ [_] from rfl))
    | (at_builtin; refine wpList_append_row _ rfl (.tmp 6) (.tmp 7) 60 rfl Kd.u8 w.heap.size w.heap.size 5 i0 _ 1 Tryz.underlying60 hi hz0 hz1 hz2 rfl (by decide) _ b rfl ownA _ _ _ [128] rfl rfl row1 (by simp only [List.length_cons, List.length_nil]; omega) (by decide) belA.size (Nat.le_refl _) (by decide) ?_; intro v2 w2 own2 grw2 at2; have bel2 := Kd.own_step belA ownA grw2))
  clear hnil
  go_loopw [3] (fun ov w' => ∃ j : Nat, j ≤ z ∧ Kd.u8.Own 5 w.heap.size w' w.heap.size ov (b ++ [128] ++ List.replicate j 0) ∧ Below w.heap.size w w') (fun ov _ => b.length + 1 + z - (match ov with | .slice _ n _ => n | _ => 0))
  case atStart => exact ⟨0, by omega, by simpa using own2, bel2⟩
  case round =>
    obtain ⟨j, hj, own, bel⟩ := hrel
    have hlen : (b ++ [128] ++ List.replicate j (0 : UInt8)).length = b.length + 1 + j := by simp; omega
    obtain ⟨L, hL⟩ : ∃ L, b.length + 1 + j = L := ⟨_, rfl⟩
    have hrow := Kd.own_row own
    rw [hlen, hL] at hrow
    obtain ⟨Ao, co, rfl, _, _, _, _⟩ := hrow
    obtain ⟨T, hT⟩ : ∃ T, b ++ [128] ++ List.replicate j (0 : UInt8) = T := ⟨_, rfl⟩
    rw [hT] at own hlen
    have hTL : T.length = L := by rw [hlen, hL]
    have HT := Lib.hid hT
    have HTL := Lib.hid hTL
    by_cases h : j = z
    · subst h
      have hm : ((L : Int) % 64 != 56) = false := by
        have := (HZ.out j (Nat.le_refl _)).2 rfl
        rw [bne_eq_false_iff_eq]
        omega
      have hl3 : L ≤ 2097300 := by omega
      clear hT hTL hL hlen hj own1 own2 ownA row1 al
      have hput : ∀ W : World, Calls Tryz.prog 221 #[.int .i64 (8 * (b.length : Int)), .int .i64 8] W fun e w' => (∃ u, e = .returned u ∧ Kd.u8.Own 5 W.heap.size w' W.heap.size u (putB 8 (8 * b.length))) ∧ Below W.heap.size W w' := fun W => by
        have h := refput_calls 8 (8 * b.length) (Nat.le_refl _) (by omega) W
        rwa [show ((8 * b.length : Nat) : Int) = 8 * (b.length : Int) by omega] at h
      have HPUT := Lib.hid hput
      clear hput
      go_wp2_with (first
        | (go_at_call 221; refine (HPUT.out _).mono ?_; rintro e w5 ⟨⟨u5, rfl, own5⟩, b5⟩; have ownT := Kd.own_below own b5; have belT := bl_trans bel b5; have own5' := Kd.own_flat (B' := w.heap.size) Kd.flat_u8 own5 (Nat.le_refl _); obtain ⟨A5, c5, rfl, _, _, row5, _⟩ := Kd.own_row own5')
        | (at_builtin; refine wpList_append_row _ rfl (.tmp 16) (.tmp 20) 60 rfl Kd.u8 w.heap.size w.heap.size 5 i0 _ 1 Tryz.underlying60 hi hz0 hz1 hz2 rfl (by decide) _ T rfl ownT _ _ _ (putB 8 (8 * b.length)) rfl rfl row5 (by rw [HTL.out, putB_len]; omega) (by decide) belT.size (Nat.le_refl _) (by decide) ?_; intro v6 w6 own6 grw6 at6; have bel6 := Kd.own_step belT ownT grw6; obtain ⟨A6, c6, rfl, _, _, _, _⟩ := Kd.own_row own6))
      go_ret
      rw [List.length_append] at own6
      exact ⟨⟨_, rfl, by rw [HPAD.out, HT.out]; exact own6⟩, bel6⟩
    · have hm : ((L : Int) % 64 != 56) = true := by
        have := mt (HZ.out j hj).1 h
        rw [bne_iff_ne]
        omega
      have hLj : L < b.length + 1 + z := by omega
      have hjz : j + 1 ≤ z := by omega
      have hnext : T ++ [(0 : UInt8)] = b ++ [128] ++ List.replicate (j + 1) 0 := by
        rw [← hT, List.append_assoc, List.append_assoc, List.append_assoc, show List.replicate j (0 : UInt8) ++ [0] = List.replicate (j + 1) 0 from (List.replicate_succ' ..).symm, ← List.append_assoc]
      have HN := Lib.hid hnext
      clear hT hTL hL hlen hj own1 own2 ownA row1 al hnext h
      have al := bl_alloc (Below.refl wr.heap.size wr) (.cells #[.int .u8 0] 5)
      have ownA := Kd.own_below own al
      have belA := bl_trans bel al
      have row1 : Kd.u8.Row 5 w.heap.size (wr.alloc (.cells #[.int .u8 0] 5)) (some ⟨wr.heap.size, 0, none⟩) [0] := Kd.row_fresh1 (show Kd.u8.K _ _ _ [_] from rfl)
      go_wp2_with ((at_builtin; refine wpList_append_row _ rfl (.tmp 13) (.tmp 14) 60 rfl Kd.u8 w.heap.size w.heap.size 5 i0 _ 1 Tryz.underlying60 hi hz0 hz1 hz2 rfl (by decide) _ T rfl ownA _ _ _ [0] rfl rfl row1 (by rw [HTL.out]; simp only [List.length_cons, List.length_nil]; omega) (by decide) belA.size (Nat.le_refl _) (by decide) ?_; intro v6 w6 own6 grw6 at6; have bel6 := Kd.own_step belA ownA grw6; obtain ⟨A6, c6, hv6, _, _, _, _⟩ := Kd.own_row own6; rw [List.length_append, HTL.out] at hv6; obtain rfl : v6 = .slice A6 (L + 1) c6 := hv6))
      go_roundw
      case rel => exact ⟨j + 1, hjz, by rw [← HN.out]; exact own6, bel6⟩
      case measure => simp; omega
end Go.Proofs.YtcbfpdenjdgnlaaGreat
/- Package slices: Grow of nothing, Concat; octets.Join. No claim of its own; no condition. -/
namespace Go.Proofs.YtcbfpdenjdgnlaaGreat
open Go.ChangeShapes Go.WideShapes Go.ChangeAt Go.RowKit
set_option linter.unusedVariables false
set_option linter.unusedSimpArgs false
theorem wpList_append_run {P : Program} {w : World} {ops : Array Oper} {rest : List Oper} {o : Oper} {a : Act} {Q : Exit → Act → World → Prop} (hgd : o.guard = none) (s x : Operand) (t tn : TypeId)
    (ho : o.op = .call { callee := .builtin .append, args := #[s, x], argTypes := #[t, tn] }) (v y : Value) (hs : a.eval s = v) (hx : a.eval x = y) (v' : Value) (w' : World)
    (hrun : ∀ ty, (Builtin.append_ #[t, tn] ty #[v, y]).run P w = .ok v' w') (h : wpList P ops Q rest (a.put o.dst v') w') : wpList P ops Q (o :: rest) a w := by
  refine wpList_plain hgd fun _ hK => ?_
  unfold Oper.wp execOp
  simp only [ho, resolve, invoke, builtin, Sem.run_bind, Sem.run_pure, Result.andThen_ok, List.map_toArray, List.map_cons, List.map_nil, hs, hx, hrun]
  exact hK _ _ h
theorem zeroCells_size (z : Array Value) (n : Nat) : (Builtin.zeroCells z n).size = n * z.size := by simp [Builtin.zeroCells]
set_option maxHeartbeats 1600000 in
set_option maxRecDepth 100000 in
theorem grow_calls (n : Nat) (w : World) (hn : n ≤ 4194304) :
    Calls Tryz.prog 268 #[.slice none 0 0, .int .i64 (n : Int)] w fun e w' => (∃ v, e = .returned v ∧ Kd.u8.Own 5 w.heap.size w' w.heap.size v []) ∧ Below w.heap.size w w' := by
  by_cases h0 : n = 0
  · subst h0
    go_enter Tryz.func268, Tryz.ntmps268
    go_wp2_with fail
    go_ret
    exact ⟨⟨_, rfl, Kd.own_nil _ _ _ _ _⟩, Below.refl _ _⟩
  · have h1 : (0 : Int) < (n : Int) := by omega
    obtain ⟨i0, hi, hz0, hz1, hz2⟩ := info_parts info_u8
    have hold : ∀ w : World, (Builtin.firstCells i0.size 0 (.slice none 0 0)).run Tryz.prog w.drew = .ok ([] : List Value).toArray w.drew := fun w => run_firstCells_none w.drew i0.size 0 0 0
    have hrz : ∀ (w : World) ty, (Builtin.append_ #[60, 3] ty #[.slice none 0 0, .int .i64 (n : Int)]).run Tryz.prog w =
        .ok (.slice (some ⟨w.heap.size, 0, none⟩) (0 + n) (grownCap w (0 + n) 0 5)) (w.drew.alloc (.cells (([] : List Value).toArray ++ Builtin.zeroCells (Value.cells (.int .u8 0)) n ++ Builtin.zeroCells (Value.cells (.int .u8 0)) (grownCap w (0 + n) 0 5 - (0 + n))) 5)) := fun w ty =>
      Lib.run_append_grow_zeros w 60 3 ty 5 i0 _ .i64 .i64 Tryz.underlying60 Tryz.underlying3 hi hz0 none 0 0 [] (hold w) n (by omega) (by rw [hz1]; omega) (by omega) (by omega) (by rw [hz2]; omega) (by
        have : Builtin.nextslicecap (0 + n) 0 = n := by unfold Builtin.nextslicecap; rw [if_pos (by omega)]; omega
        rw [this, hz2]; omega)
    obtain ⟨cap, hcap⟩ : ∃ cap : Nat, grownCap w (0 + n) 0 5 = cap := ⟨_, rfl⟩
    have hcm : cap ≤ maxLen := by rw [← hcap]; exact grownCap_le_maxLen w (0 + n) 0 5 (by unfold maxLen; omega)
    have hcn : 0 + n ≤ cap := by rw [← hcap]; exact grownCap_ge w _ _ _
    obtain ⟨Z, hZ⟩ : ∃ Z : Array Value, ([] : List Value).toArray ++ Builtin.zeroCells (Value.cells (.int .u8 0)) n ++ Builtin.zeroCells (Value.cells (.int .u8 0)) (cap - (0 + n)) = Z := ⟨_, rfl⟩
    have hZs : Z.size = cap := by rw [← hZ]; simp [Value.cells, zeroCells_size]; omega
    have hrz2 : ∀ ty, (Builtin.append_ #[60, 3] ty #[.slice none 0 0, .int .i64 (n : Int)]).run Tryz.prog w = .ok (.slice (some ⟨w.heap.size, 0, none⟩) n cap) (w.drew.alloc (.cells Z 5)) := fun ty => by
      rw [hrz w ty, hcap, hZ, Nat.zero_add]
    clear hrz hold hcap hZ
    unfold maxLen at hcm
    have hcn' : n ≤ cap := by omega
    have HCM := Lib.hid hcm
    have HRZ := Lib.hid hrz2
    clear hcn hrz2
    go_enter Tryz.func268, Tryz.ntmps268
    go_wp2_with ((at_builtin; refine wpList_append_run rfl (.tmp 20) (.tmp 21) 60 3 rfl _ _ rfl rfl _ _ HRZ.out ?_))
    go_ret
    have ho : Kd.u8.Own 5 w.heap.size (w.drew.alloc (.cells Z 5)) w.heap.size (.slice (some ⟨w.heap.size, 0, none⟩) 0 cap) [] :=
      Kd.own_of_form (cs := []) (Z := Z.toList) (by simpa using alloc_new w.drew (.cells Z 5)) .nil (Nat.le_refl _) rfl (Nat.zero_le _) (by unfold maxLen; exact HCM.out) (by rw [show Kd.u8.sz = 1 from rfl]; simpa using hZs)
    exact ⟨⟨_, rfl, ho⟩, bl_alloc (bl_drew (Below.refl _ _)) _⟩
abbrev kBB := Kd.slice 5 Kd.u8
theorem bb_at {B : Nat} {w : World} {A : Option Addr} {xs : List (List UInt8)} (h : kBB.Row 60 B w A xs) {i : Nat} {x : List UInt8} (hx : xs[i]? = some x) :
    ∃ ad A' c, A = some ad ∧ w.cell? (ad.add i) = some (.slice A' x.length c) ∧ x.length ≤ c ∧ c ≤ maxLen ∧ Kd.u8.Row 5 B w A' x := by
  obtain ⟨ad, cs, h1, _, ⟨A', c, rfl, h2, h3, h4⟩, hc⟩ := Kd.row_at h hx
  refine ⟨ad, A', c, h1, ?_, h2, h3, h4⟩
  have := hc 0 _ rfl
  have e1 : kBB.sz = 1 := rfl
  rw [e1] at this
  simpa using this
theorem flat_take {α : Type} {xs : List (List α)} {k : Nat} {x : List α} (h : xs[k]? = some x) : (xs.take (k + 1)).flatten = (xs.take k).flatten ++ x := by
  rw [List.take_add_one, h]; simp
theorem flat_le {α : Type} (xs : List (List α)) (k : Nat) : (xs.take k).flatten.length ≤ xs.flatten.length := by
  have h : xs.flatten = (xs.take k).flatten ++ (xs.drop k).flatten := by rw [← List.flatten_append, List.take_append_drop]
  rw [h, List.length_append]; omega
set_option maxHeartbeats 3200000 in
set_option maxRecDepth 100000 in
theorem concat_calls (xs : List (List UInt8)) (A : Option Addr) (n c : Nat) (w : World) (B : Nat) (hn : n = xs.length) (hl : xs.length ≤ 1048576) (ht : xs.flatten.length ≤ 4194304) (hr : kBB.Row 60 B w A xs) :
    Calls Tryz.prog 244 #[.slice A n c] w fun e w' => (∃ v, e = .returned v ∧ Kd.u8.Own 5 w.heap.size w' w.heap.size v xs.flatten) ∧ Below w.heap.size w w' := by
  subst hn
  obtain ⟨i0, hi, hz0, hz1, hz2⟩ := info_parts info_u8
  go_enter Tryz.func244, Tryz.ntmps244
  go_wp2_with fail
  go_loop [3, 11] (fun sv kv => ∃ k : Nat, k ≤ xs.length ∧ kv = .int .i64 k ∧ sv = .int .i64 (((xs.take k).flatten.length : Nat) : Int)) (fun _ kv => xs.length - (intOf kv).toNat)
  case atStart => exact ⟨0, by omega, rfl, rfl⟩
  case round =>
    obtain ⟨k, hk, rfl, rfl⟩ := hrel
    by_cases h : k < xs.length
    · obtain ⟨x, hx⟩ : ∃ x, xs[k]? = some x := ⟨_, List.getElem?_eq_getElem h⟩
      obtain ⟨ad, A', c', rfl, c0, _, _, _⟩ := bb_at hr hx
      have hs : (xs.take (k + 1)).flatten.length = (xs.take k).flatten.length + x.length := by rw [flat_take hx, List.length_append]
      have hle := flat_le xs (k + 1)
      rw [hs] at hle
      obtain ⟨S, hS⟩ : ∃ S, (xs.take k).flatten.length = S := ⟨_, rfl⟩
      simp only [hS] at hs hle ⊢
      have hkI : (k : Int) < (xs.length : Int) := by omega
      have HS := Lib.hid hs
      have hle2 : S + x.length ≤ 4194304 := by omega
      have hnn : ¬ ((S : Int) + (x.length : Int) < 0) := by omega
      clear hs hS hx hle
      go_wp2_with fail
      go_round
      case rel => exact ⟨k + 1, by omega, by go_num, by rw [HS.out]; go_num⟩
      case measure => simp [intOf]; omega
    · have hk' : k = xs.length := by omega
      subst hk'
      have hnI : ¬ ((xs.length : Int) < (xs.length : Int)) := by omega
      rw [List.take_of_length_le (Nat.le_refl _)]
      obtain ⟨S, hS⟩ : ∃ S, xs.flatten.length = S := ⟨_, rfl⟩
      simp only [hS] at ht ⊢
      have HS := Lib.hid hS
      clear hS
      go_wp2_with ((go_at_call 268; refine (grow_calls S _ ht).mono ?_; rintro e w1 ⟨⟨v1, rfl, own1⟩, bel1⟩))
      have own1' : Kd.u8.Own 5 w.heap.size w1 w.heap.size v1 ((xs.take 0).flatten) := own1
      clear own1 hnI
      go_loopw [6, 27] (fun ov kv w' => ∃ k : Nat, k ≤ xs.length ∧ kv = .int .i64 k ∧ Kd.u8.Own 5 w.heap.size w' w.heap.size ov ((xs.take k).flatten) ∧ Below w.heap.size w w') (fun _ kv _ => xs.length - (intOf kv).toNat)
      case atStart => exact ⟨0, by omega, rfl, own1', bel1⟩
      case round =>
        clear own1' bel1
        obtain ⟨k, hk, rfl, own, bel⟩ := hrel
        by_cases h : k < xs.length
        · obtain ⟨x, hx⟩ : ∃ x, xs[k]? = some x := ⟨_, List.getElem?_eq_getElem h⟩
          obtain ⟨ad, A', c', rfl, c00, _, _, rowx⟩ := bb_at hr hx
          have c0 := cell_below bel c00
          have hs : (xs.take (k + 1)).flatten = (xs.take k).flatten ++ x := flat_take hx
          have hle := flat_le xs (k + 1)
          rw [hs, List.length_append, HS.out] at hle
          obtain ⟨T, hT⟩ : ∃ T, (xs.take k).flatten = T := ⟨_, rfl⟩
          simp only [hT] at hs hle own
          have hkI : (k : Int) < (xs.length : Int) := by omega
          have HT := Lib.hid hs
          have rx : Kd.u8.Row 5 w.heap.size wr A' x := Kd.row_below bel (Kd.row_flat Kd.flat_u8 rowx (Nat.le_refl _))
          clear hs hT hx rowx c00
          obtain ⟨Ao, co, rfl, _, _, _, _⟩ := Kd.own_row own
          go_wp2_with ((at_builtin; refine wpList_append_row _ rfl (.tmp 31) (.tmp 32) 60 rfl Kd.u8 w.heap.size w.heap.size 5 i0 _ 1 Tryz.underlying60 hi hz0 hz1 hz2 rfl (by decide) _ T rfl own _ _ _ x rfl rfl rx (by omega) (by decide) bel.size (Nat.le_refl _) (by decide) ?_; intro v4 w4 own4 grw4 at4; have bel4 := Kd.own_step bel own grw4))
          go_roundw
          case rel => exact ⟨k + 1, by omega, by go_num, (by rw [HT.out]; exact own4), bel4⟩
          case measure => simp [intOf]; omega
        · have hk' : k = xs.length := by omega
          subst hk'
          have hnI : ¬ ((xs.length : Int) < (xs.length : Int)) := by omega
          go_wp2_with fail
          go_ret
          rw [List.take_of_length_le (Nat.le_refl _)] at own
          exact ⟨⟨_, rfl, own⟩, bel⟩
set_option maxRecDepth 100000 in
theorem join_calls (xs : List (List UInt8)) (A : Option Addr) (n c : Nat) (w : World) (B : Nat) (hn : n = xs.length) (hl : xs.length ≤ 1048576) (ht : xs.flatten.length ≤ 4194304) (hr : kBB.Row 60 B w A xs) :
    Calls Tryz.prog 191 #[.slice A n c] w fun e w' => (∃ v, e = .returned v ∧ Kd.u8.Own 5 w.heap.size w' w.heap.size v xs.flatten) ∧ Below w.heap.size w w' := by
  subst hn
  go_enter Tryz.func191, Tryz.ntmps191
  go_wp2_with ((go_at_call 244; refine (concat_calls xs A _ c _ B rfl hl ht hr).mono ?_; rintro e w1 ⟨⟨v1, rfl, own1⟩, bel1⟩))
  go_ret
  exact ⟨⟨_, rfl, own1⟩, bel1⟩
end Go.Proofs.YtcbfpdenjdgnlaaGreat
