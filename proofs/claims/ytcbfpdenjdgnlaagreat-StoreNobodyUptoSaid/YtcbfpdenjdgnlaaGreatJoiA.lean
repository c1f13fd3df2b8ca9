/- Package slices: Grow of nothing, Concat; octets.Join. No claim of its own; no condition. -/
import Derived.Test.YtcbfpdenjdgnlaaGreatRefB
import Derived.Lib.AppendZerosOnto
import Derived.Outline
namespace Go.Proofs.YtcbfpdenjdgnlaaGreat
open Go.ChangeShapes Go.WideShapes Go.ChangeAt Go.RowKit
set_option linter.unusedVariables false
set_option linter.unusedSimpArgs false
theorem wpList_append_run {P : Program} {w : World} {ops : Array Oper} {rest : List Oper} {o : Oper} {a : Act} {Q : Exit → Act → World → Prop} (hgd : o.guard = none) (s x : Operand) (t tn : TypeId)
    (ho : o.op = .call { callee := .builtin .append, args := #[s, x], argTypes := #[t, tn] }) (v y : Value) (hs : a.eval s = v) (hx : a.eval x = y) (v' : Value) (w' : World)
    (hrun : ∀ ty, (Builtin.append_ #[t, tn] ty #[v, y]).run P w = .ok v' w') (h : wpList P ops Q rest (a.put o.dst v') w') : wpList P ops Q (o :: rest) a w := by
  refine wpList_plain hgd fun _ hK => ?_
  unfold Oper.wp execOp
  simp only [ho, resolve, invoke, builtin, Sem.run_bind, Sem.run_pure, Result.andThen_ok, List.map_toArray, List.map_cons, List.map_nil, hs, hx, hrun]
  exact hK _ _ h
theorem zeroCells_size (z : Array Value) (n : Nat) : (Builtin.zeroCells z n).size = n * z.size := by simp [Builtin.zeroCells]
set_option maxHeartbeats 1600000 in
set_option maxRecDepth 100000 in
theorem grow_calls (n : Nat) (w : World) (hn : n ≤ 4194304) :
    Calls Tryz.prog 268 #[.slice none 0 0, .int .i64 (n : Int)] w fun e w' => (∃ v, e = .returned v ∧ Kd.u8.Own 5 w.heap.size w' w.heap.size v []) ∧ Below w.heap.size w w' := by
  by_cases h0 : n = 0
  · subst h0
    go_enter Tryz.func268, Tryz.ntmps268
    go_wp2_with fail
    go_ret
    exact ⟨⟨_, rfl, Kd.own_nil _ _ _ _ _⟩, Below.refl _ _⟩
  · have h1 : (0 : Int) < (n : Int) := by omega
    obtain ⟨i0, hi, hz0, hz1, hz2⟩ := info_parts info_u8
    have hold : ∀ w : World, (Builtin.firstCells i0.size 0 (.slice none 0 0)).run Tryz.prog w.drew = .ok ([] : List Value).toArray w.drew := fun w => run_firstCells_none w.drew i0.size 0 0 0
    have hrz : ∀ (w : World) ty, (Builtin.append_ #[60, 3] ty #[.slice none 0 0, .int .i64 (n : Int)]).run Tryz.prog w =
        .ok (.slice (some ⟨w.heap.size, 0, none⟩) (0 + n) (grownCap w (0 + n) 0 5)) (w.drew.alloc (.cells (([] : List Value).toArray ++ Builtin.zeroCells (Value.cells (.int .u8 0)) n ++ Builtin.zeroCells (Value.cells (.int .u8 0)) (grownCap w (0 + n) 0 5 - (0 + n))) 5)) := fun w ty =>
      Lib.run_append_grow_zeros w 60 3 ty 5 i0 _ .i64 .i64 Tryz.underlying60 Tryz.underlying3 hi hz0 none 0 0 [] (hold w) n (by omega) (by rw [hz1]; omega) (by omega) (by omega) (by rw [hz2]; omega) (by
        have : Builtin.nextslicecap (0 + n) 0 = n := by unfold Builtin.nextslicecap; rw [if_pos (by omega)]; omega
        rw [this, hz2]; omega)
    obtain ⟨cap, hcap⟩ : ∃ cap : Nat, grownCap w (0 + n) 0 5 = cap := ⟨_, rfl⟩
    have hcm : cap ≤ maxLen := by rw [← hcap]; exact grownCap_le_maxLen w (0 + n) 0 5 (by unfold maxLen; omega)
    have hcn : 0 + n ≤ cap := by rw [← hcap]; exact grownCap_ge w _ _ _
    obtain ⟨Z, hZ⟩ : ∃ Z : Array Value, ([] : List Value).toArray ++ Builtin.zeroCells (Value.cells (.int .u8 0)) n ++ Builtin.zeroCells (Value.cells (.int .u8 0)) (cap - (0 + n)) = Z := ⟨_, rfl⟩
    have hZs : Z.size = cap := by rw [← hZ]; simp [Value.cells, zeroCells_size]; omega
    have hrz2 : ∀ ty, (Builtin.append_ #[60, 3] ty #[.slice none 0 0, .int .i64 (n : Int)]).run Tryz.prog w = .ok (.slice (some ⟨w.heap.size, 0, none⟩) n cap) (w.drew.alloc (.cells Z 5)) := fun ty => by
      rw [hrz w ty, hcap, hZ, Nat.zero_add]
    clear hrz hold hcap hZ
    unfold maxLen at hcm
    have hcn' : n ≤ cap := by omega
    have HCM := Lib.hid hcm
    have HRZ := Lib.hid hrz2
    clear hcn hrz2
    go_enter Tryz.func268, Tryz.ntmps268
    go_wp2_with ((at_builtin; refine wpList_append_run rfl (.tmp 20) (.tmp 21) 60 3 rfl _ _ rfl rfl _ _ HRZ.out ?_))
    go_ret
    have ho : Kd.u8.Own 5 w.heap.size (w.drew.alloc (.cells Z 5)) w.heap.size (.slice (some ⟨w.heap.size, 0, none⟩) 0 cap) [] :=
      Kd.own_of_form (cs := []) (Z := Z.toList) (by simpa using alloc_new w.drew (.cells Z 5)) .nil (Nat.le_refl _) rfl (Nat.zero_le _) (by unfold maxLen; exact HCM.out) (by rw [show Kd.u8.sz = 1 from rfl]; simpa using hZs)
    exact ⟨⟨_, rfl, ho⟩, bl_alloc (bl_drew (Below.refl _ _)) _⟩
abbrev kBB := Kd.slice 5 Kd.u8
theorem bb_at {B : Nat} {w : World} {A : Option Addr} {xs : List (List UInt8)} (h : kBB.Row 60 B w A xs) {i : Nat} {x : List UInt8} (hx : xs[i]? = some x) :
    ∃ ad A' c, A = some ad ∧ w.cell? (ad.add i) = some (.slice A' x.length c) ∧ x.length ≤ c ∧ c ≤ maxLen ∧ Kd.u8.Row 5 B w A' x := by
  obtain ⟨ad, cs, h1, _, ⟨A', c, rfl, h2, h3, h4⟩, hc⟩ := Kd.row_at h hx
  refine ⟨ad, A', c, h1, ?_, h2, h3, h4⟩
  have := hc 0 _ rfl
  have e1 : kBB.sz = 1 := rfl
  rw [e1] at this
  simpa using this
theorem flat_take {α : Type} {xs : List (List α)} {k : Nat} {x : List α} (h : xs[k]? = some x) : (xs.take (k + 1)).flatten = (xs.take k).flatten ++ x := by
  rw [List.take_add_one, h]; simp
theorem flat_le {α : Type} (xs : List (List α)) (k : Nat) : (xs.take k).flatten.length ≤ xs.flatten.length := by
  have h : xs.flatten = (xs.take k).flatten ++ (xs.drop k).flatten := by rw [← List.flatten_append, List.take_append_drop]
  rw [h, List.length_append]; omega
set_option maxHeartbeats 3200000 in
set_option maxRecDepth 100000 in
theorem concat_calls (xs : List (List UInt8)) (A : Option Addr) (n c : Nat) (w : World) (B : Nat) (hn : n = xs.length) (hl : xs.length ≤ 1048576) (ht : xs.flatten.length ≤ 4194304) (hr : kBB.Row 60 B w A xs) :
    Calls Tryz.prog 244 #[.slice A n c] w fun e w' => (∃ v, e = .returned v ∧ Kd.u8.Own 5 w.heap.size w' w.heap.size v xs.flatten) ∧ Below w.heap.size w w' := by
  subst hn
  obtain ⟨i0, hi, hz0, hz1, hz2⟩ := info_parts info_u8
  go_enter Tryz.func244, Tryz.ntmps244
  go_wp2_with fail
  go_loop [3, 11] (fun sv kv => ∃ k : Nat, k ≤ xs.length ∧ kv = .int .i64 k ∧ sv = .int .i64 (((xs.take k).flatten.length : Nat) : Int)) (fun _ kv => xs.length - (intOf kv).toNat)
  case atStart => exact ⟨0, by omega, rfl, rfl⟩
  case round =>
    obtain ⟨k, hk, rfl, rfl⟩ := hrel
    by_cases h : k < xs.length
    · obtain ⟨x, hx⟩ : ∃ x, xs[k]? = some x := ⟨_, List.getElem?_eq_getElem h⟩
      obtain ⟨ad, A', c', rfl, c0, _, _, _⟩ := bb_at hr hx
      have hs : (xs.take (k + 1)).flatten.length = (xs.take k).flatten.length + x.length := by rw [flat_take hx, List.length_append]
      have hle := flat_le xs (k + 1)
      rw [hs] at hle
      obtain ⟨S, hS⟩ : ∃ S, (xs.take k).flatten.length = S := ⟨_, rfl⟩
      simp only [hS] at hs hle ⊢
      have hkI : (k : Int) < (xs.length : Int) := by omega
      have HS := Lib.hid hs
      have hle2 : S + x.length ≤ 4194304 := by omega
      have hnn : ¬ ((S : Int) + (x.length : Int) < 0) := by omega
      clear hs hS hx hle
      go_wp2_with fail
      go_round
      case rel => exact ⟨k + 1, by omega, by go_num, by rw [HS.out]; go_num⟩
      case measure => simp [intOf]; omega
    · have hk' : k = xs.length := by omega
      subst hk'
      have hnI : ¬ ((xs.length : Int) < (xs.length : Int)) := by omega
      rw [List.take_of_length_le (Nat.le_refl _)]
      obtain ⟨S, hS⟩ : ∃ S, xs.flatten.length = S := ⟨_, rfl⟩
      simp only [hS] at ht ⊢
      have HS := Lib.hid hS
      clear hS
      go_wp2_with ((go_at_call 268; refine (grow_calls S _ ht).mono ?_; rintro e w1 ⟨⟨v1, rfl, own1⟩, bel1⟩))
      have own1' : Kd.u8.Own 5 w.heap.size w1 w.heap.size v1 ((xs.take 0).flatten) := own1
      clear own1 hnI
      go_loopw [6, 27] (fun ov kv w' => ∃ k : Nat, k ≤ xs.length ∧ kv = .int .i64 k ∧ Kd.u8.Own 5 w.heap.size w' w.heap.size ov ((xs.take k).flatten) ∧ Below w.heap.size w w') (fun _ kv _ => xs.length - (intOf kv).toNat)
      case atStart => exact ⟨0, by omega, rfl, own1', bel1⟩
      case round =>
        clear own1' bel1
        obtain ⟨k, hk, rfl, own, bel⟩ := hrel
        by_cases h : k < xs.length
        · obtain ⟨x, hx⟩ : ∃ x, xs[k]? = some x := ⟨_, List.getElem?_eq_getElem h⟩
          obtain ⟨ad, A', c', rfl, c00, _, _, rowx⟩ := bb_at hr hx
          have c0 := cell_below bel c00
          have hs : (xs.take (k + 1)).flatten = (xs.take k).flatten ++ x := flat_take hx
          have hle := flat_le xs (k + 1)
          rw [hs, List.length_append, HS.out] at hle
          obtain ⟨T, hT⟩ : ∃ T, (xs.take k).flatten = T := ⟨_, rfl⟩
          simp only [hT] at hs hle own
          have hkI : (k : Int) < (xs.length : Int) := by omega
          have HT := Lib.hid hs
          have rx : Kd.u8.Row 5 w.heap.size wr A' x := Kd.row_below bel (Kd.row_flat Kd.flat_u8 rowx (Nat.le_refl _))
          clear hs hT hx rowx c00
          obtain ⟨Ao, co, rfl, _, _, _, _⟩ := Kd.own_row own
          go_wp2_with ((at_builtin; refine wpList_append_row _ rfl (.tmp 31) (.tmp 32) 60 rfl Kd.u8 w.heap.size w.heap.size 5 i0 _ 1 Tryz.underlying60 hi hz0 hz1 hz2 rfl (by decide) _ T rfl own _ _ _ x rfl rfl rx (by omega) (by decide) bel.size (Nat.le_refl _) (by decide) ?_; intro v4 w4 own4 grw4 at4; have bel4 := Kd.own_step bel own grw4))
          go_roundw
          case rel => exact ⟨k + 1, by omega, by go_num, (by rw [HT.out]; exact own4), bel4⟩
          case measure => simp [intOf]; omega
        · have hk' : k = xs.length := by omega
          subst hk'
          have hnI : ¬ ((xs.length : Int) < (xs.length : Int)) := by omega
          go_wp2_with fail
          go_ret
          rw [List.take_of_length_le (Nat.le_refl _)] at own
          exact ⟨⟨_, rfl, own⟩, bel⟩
set_option maxRecDepth 100000 in
theorem join_calls (xs : List (List UInt8)) (A : Option Addr) (n c : Nat) (w : World) (B : Nat) (hn : n = xs.length) (hl : xs.length ≤ 1048576) (ht : xs.flatten.length ≤ 4194304) (hr : kBB.Row 60 B w A xs) :
    Calls Tryz.prog 191 #[.slice A n c] w fun e w' => (∃ v, e = .returned v ∧ Kd.u8.Own 5 w.heap.size w' w.heap.size v xs.flatten) ∧ Below w.heap.size w w' := by
  subst hn
  go_enter Tryz.func191, Tryz.ntmps191
  go_wp2_with ((go_at_call 244; refine (concat_calls xs A _ c _ B rfl hl ht hr).mono ?_; rintro e w1 ⟨⟨v1, rfl, own1⟩, bel1⟩))
  go_ret
  exact ⟨⟨_, rfl, own1⟩, bel1⟩
end Go.Proofs.YtcbfpdenjdgnlaaGreat
