/- Package mootlaw21: the walk of RuleMarks. No claim of its own; no condition. -/
import Derived.Test.YtglneailkgminaaMarksM
import Derived.Shelf.SlSortCmp.QuietGrown
namespace Go.Proofs.Ytglneailkgminaa
open Go.ChangeShapes Go.WideShapes Go.ChangeAt Go.RowKit Go.Sort
set_option linter.unusedVariables false
set_option linter.unusedSimpArgs false
theorem any_step {α : Type} {l : List α} {k : Nat} {x : α} (p : α → Bool) (h : l[k]? = some x) : (l.take (k + 1)).any p = ((l.take k).any p || p x) := by
  rw [List.take_add_one, h, List.any_append]
  simp
theorem pair_at {α : Type} {R : α → α → Prop} {l : List α} (h : l.Pairwise R) {j : Nat} {a b : α} (ha : l[j]? = some a) (hb : l[j + 1]? = some b) : R a b := by
  obtain ⟨h1, rfl⟩ := List.getElem?_eq_some_iff.1 ha
  obtain ⟨h2, rfl⟩ := List.getElem?_eq_some_iff.1 hb
  exact (List.pairwise_iff_getElem.1 h) j (j + 1) h1 h2 (by omega)
theorem mark_of {v : Vote} {m : Mark} : (decide (m = v.about)) = ((m.view == v.view) && ((m.height == v.height) && (m.block.toList == v.block.toList))) := by
  cases m
  simp only [Vote.about, Mark.mk.injEq, Bool.decide_and, bytes_beq]
  rfl
set_option maxHeartbeats 6400000 in
set_option maxRecDepth 100000 in
theorem rulemarks_walk (l : List Vote) (A : Option Addr) (c : Nat) (w : World) (hl : l.length ≤ 1048576) (hr : kVote.Row 28 w.heap.size w A l) :
    Calls Try.prog 3 #[.slice A l.length c] w fun e w' => e = .returned (.bool true) ∧ Below w.heap.size w w' := by
  go_enter Try.func3, Try.ntmps3
  go_upto_region 2 with (go_at_call 11; refine (marks_calls l A _ c _ _ rfl hl hr).mono ?_; rintro e w1 ⟨⟨v, M, rfl, own, hpm, hso⟩, b1⟩)
  obtain ⟨A2, c2, rfl, hc1, hc2, row, _⟩ := Kd.own_row own
  have hin : ∀ x ∈ l, saysB x = true → (compF M).any (fun m => decide (m = x.about)) = true := by
    intro x hx hs
    rw [List.any_eq_true]
    exact ⟨x.about, mem_comp.2 (hpm.mem_iff.2 (List.mem_map.2 ⟨x, List.mem_filter.2 ⟨hx, hs⟩, rfl⟩)), by simp⟩
  have hout : ∀ m ∈ compF M, l.any (fun x => saysB x && decide (x.about = m)) = true := by
    intro m hm
    obtain ⟨x, hx, rfl⟩ := List.mem_map.1 (hpm.mem_iff.1 (mem_comp.1 hm))
    obtain ⟨hx1, hx2⟩ := List.mem_filter.1 hx
    rw [List.any_eq_true]
    exact ⟨x, hx1, by simp [hx2]⟩
  have hri : (compF M).Pairwise fun a b => belowF a b = true := comp_rises (fun a b h k => below_tri h k) M hso (fun a b c h k => below_tr h k)
  have hlm : (compF M).length ≤ 1048576 := by
    have h1 := comp_len M
    have h2 := hpm.length_eq
    have h3 := marks_le l l.length
    rw [List.take_of_length_le (Nat.le_refl _)] at h3
    omega
  have HIN := Lib.hid hin
  have HOUT := Lib.hid hout
  have HRI := Lib.hid hri
  clear hin hout hri hpm hso own hc1 hc2
  generalize compF M = m at *
  go_upto_region 3 with fail
  go_wp2_with fail
  go_loopw [4] (fun kv w' => ∃ i : Nat, i ≤ l.length ∧ kv = .int .i64 i ∧ Below w1.heap.size w1 w') (fun kv _ => l.length - (intOf kv).toNat)
  case atStart => exact ⟨0, by omega, rfl, Below.refl _ _⟩
  case round =>
    obtain ⟨i, h1, rfl, bel⟩ := hrel
    by_cases h : i < l.length
    · obtain ⟨x, hx⟩ : ∃ x, l[i]? = some x := ⟨_, List.getElem?_eq_getElem h⟩
      have hxm := List.mem_of_getElem? hx
      have hinx := HIN.out x hxm
      have hiI : (i : Int) < (l.length : Int) := by omega
      obtain ⟨ad, rfl, e0, e1, e2, e3, e4, e5, e6, g0, g1, g2, g3, g4, g5, g6⟩ := kVote_at (Kd.row_below (bl_trans b1 bel) hr) hx
      have HX := Lib.hid hx
      have HI := Lib.hid hinx
      clear hx hxm hinx g0 g1 g2 g3 g4 g5 g6
      obtain ⟨wo, hwo⟩ : ∃ wo : World, wo = wr := ⟨_, rfl⟩
      subst hwo
      go_wp2_with fail
      go_loopw [5, 6] (fun bv kv w' => ∃ k : Nat, k ≤ m.length ∧ kv = .int .i64 k ∧ bv = .bool ((m.take k).any (fun y => decide (y = x.about))) ∧ Below wo.heap.size wo w') (fun _ kv _ => m.length - (intOf kv).toNat)
      case atStart => exact ⟨0, by omega, rfl, rfl, Below.refl _ _⟩
      case round =>
        obtain ⟨k, h2, rfl, rfl, bel2⟩ := hrel
        have f0 := cell_below bel2 e0
        have f1 := cell_below bel2 e1
        have f2 := cell_below bel2 e2
        have f3 := cell_below bel2 e3
        clear e0 e1 e2 e3 e4 e5 e6
        by_cases hk : k < m.length
        · obtain ⟨y, hy⟩ : ∃ y, m[k]? = some y := ⟨_, List.getElem?_eq_getElem hk⟩
          obtain ⟨am, rfl, m0, m1, m2, q0, q1, q2⟩ := kMark_at (Kd.row_below (bl_trans bel bel2) row) hy
          have hs : (m.take (k + 1)).any (fun y => decide (y = x.about)) = ((m.take k).any (fun y => decide (y = x.about)) || decide (y = x.about)) := any_step _ hy
          rw [mark_of] at hs
          generalize (m.take k).any (fun y => decide (y = x.about)) = b at *
          have hkI : (k : Int) < (m.length : Int) := by omega
          clear hy q0 q1 q2
          cases b with
          | true =>
            rw [Bool.true_or] at hs
            have HS := Lib.hid hs
            clear hs
            go_upto_region 9 with fail
            go_quiet (fail)
            go_wp2_with fail
            go_roundw
            case rel => exact ⟨k + 1, by omega, by go_num, by rw [HS.out], bl_drewN bel2 _⟩
            case measure => simp [intOf]; omega
          | false =>
            rw [Bool.false_or] at hs
            cases d1 : y.view == x.view
            · rw [d1, Bool.false_and] at hs
              have HS := Lib.hid hs
              clear hs
              go_upto_region 9 with fail
              go_quiet (fail)
              go_wp2_with fail
              go_roundw
              case rel => exact ⟨k + 1, by omega, by go_num, by rw [HS.out], bl_drewN bel2 _⟩
              case measure => simp [intOf]; omega
            · cases d2 : y.height == x.height
              · rw [d1, d2, Bool.true_and, Bool.false_and] at hs
                have HS := Lib.hid hs
                clear hs
                go_upto_region 9 with fail
                go_quiet (fail)
                go_wp2_with fail
                go_roundw
                case rel => exact ⟨k + 1, by omega, by go_num, by rw [HS.out], bl_drewN bel2 _⟩
                case measure => simp [intOf]; omega
              · cases d3 : y.block.toList == x.block.toList
                all_goals
                  rw [d1, d2, d3, Bool.true_and, Bool.true_and] at hs
                  have HS := Lib.hid hs
                  clear hs
                  go_upto_region 9 with fail
                  go_quiet (fail)
                  go_wp2_with fail
                  go_roundw
                  case rel => exact ⟨k + 1, by omega, by go_num, by rw [HS.out], bl_drewN bel2 _⟩
                  case measure => simp [intOf]; omega
        · have hkm : k = m.length := by omega
          subst hkm
          have hnI : ¬ ((m.length : Int) < (m.length : Int)) := by omega
          rw [List.take_of_length_le (Nat.le_refl _)]
          have hd : (x.kind == 2) = true ∧ saysB x = true ∨ ((x.kind == 2) = false ∧ (x.kind == 3) = true) ∧ saysB x = true ∨ (x.kind == 2) = false ∧ (x.kind == 3) = false := by
            unfold saysB
            cases x.kind == 2 <;> cases x.kind == 3 <;> simp
          rcases hd with ⟨d1, hs⟩ | ⟨⟨d1, d2⟩, hs⟩ | ⟨d1, d2⟩
          · rw [HI.out hs]
            clear hs
            go_wp2_with fail
            go_roundw
            case rel => exact ⟨i + 1, by omega, by go_num, bl_trans bel bel2⟩
            case measure => simp [intOf]; omega
          · rw [HI.out hs]
            clear hs
            go_wp2_with fail
            go_roundw
            case rel => exact ⟨i + 1, by omega, by go_num, bl_trans bel bel2⟩
            case measure => simp [intOf]; omega
          · generalize m.any (fun y => decide (y = x.about)) = b
            go_wp2_with fail
            go_roundw
            case rel => exact ⟨i + 1, by omega, by go_num, bl_trans bel bel2⟩
            case measure => simp [intOf]; omega
    · have hil : i = l.length := by omega
      subst hil
      have hnI : ¬ ((l.length : Int) < (l.length : Int)) := by omega
      obtain ⟨wo, hwo⟩ : ∃ wo : World, wo = wr := ⟨_, rfl⟩
      subst hwo
      go_wp2_with fail
      go_loopw [7] (fun kv w' => ∃ i : Nat, i ≤ m.length ∧ kv = .int .i64 i ∧ Below w1.heap.size w1 w') (fun kv _ => m.length - (intOf kv).toNat)
      case atStart => exact ⟨0, by omega, rfl, bel⟩
      case round =>
        clear bel
        obtain ⟨i, h1, rfl, bel⟩ := hrel
        by_cases h : i < m.length
        · obtain ⟨y, hy⟩ : ∃ y, m[i]? = some y := ⟨_, List.getElem?_eq_getElem h⟩
          have hym := List.mem_of_getElem? hy
          have houty := HOUT.out y hym
          have hiI : (i : Int) < (m.length : Int) := by omega
          obtain ⟨am, rfl, m0, m1, m2, q0, q1, q2⟩ := kMark_at (Kd.row_below bel row) hy
          have HY := Lib.hid hy
          have HO := Lib.hid houty
          clear hy hym houty q0 q1 q2
          obtain ⟨wo, hwo⟩ : ∃ wo : World, wo = wr := ⟨_, rfl⟩
          subst hwo
          go_wp2_with fail
          go_loopw [8, 9] (fun bv kv w' => ∃ k : Nat, k ≤ l.length ∧ kv = .int .i64 k ∧ bv = .bool ((l.take k).any (fun x => saysB x && decide (x.about = y))) ∧ Below wo.heap.size wo w') (fun _ kv _ => l.length - (intOf kv).toNat)
          case atStart => exact ⟨0, by omega, rfl, rfl, Below.refl _ _⟩
          case round =>
            obtain ⟨k, h2, rfl, rfl, bel2⟩ := hrel
            have belw := bl_trans bel bel2
            by_cases hk : k < l.length
            · obtain ⟨x, hx⟩ : ∃ x, l[k]? = some x := ⟨_, List.getElem?_eq_getElem hk⟩
              obtain ⟨ad, rfl, e0, e1, e2, e3, e4, e5, e6, g0, g1, g2, g3, g4, g5, g6⟩ := kVote_at (Kd.row_below (bl_trans b1 belw) hr) hx
              have hs : (l.take (k + 1)).any (fun x => saysB x && decide (x.about = y)) = ((l.take k).any (fun x => saysB x && decide (x.about = y)) || (saysB x && decide (x.about = y))) := any_step _ hx
              generalize (l.take k).any (fun x => saysB x && decide (x.about = y)) = b at *
              have hkI : (k : Int) < (l.length : Int) := by omega
              clear hx g0 g1 g2 g3 g4 g5 g6
              cases b with
              | true =>
                rw [Bool.true_or] at hs
                have HS := Lib.hid hs
                clear hs
                go_upto_region 19 with fail
                go_quiet (fail)
                go_wp2_with fail
                go_roundw
                case rel => exact ⟨k + 1, by omega, by go_num, by rw [HS.out], bl_drewN bel2 _⟩
                case measure => simp [intOf]; omega
              | false =>
                rw [Bool.false_or] at hs
                have hd : (x.kind == 2) = true ∧ saysB x = true ∨ ((x.kind == 2) = false ∧ (x.kind == 3) = true) ∧ saysB x = true ∨ ((x.kind == 2) = false ∧ (x.kind == 3) = false) ∧ saysB x = false := by
                  unfold saysB
                  cases x.kind == 2 <;> cases x.kind == 3 <;> simp
                rcases hd with ⟨d1, hy⟩ | ⟨⟨d1, d2⟩, hy⟩ | ⟨⟨d1, d2⟩, hy⟩
                · rw [hy, Bool.true_and] at hs
                  have HS := Lib.hid hs
                  have n0 := held_cell (cell_below bel2 m0)
                  have n1 := held_cell (cell_below bel2 m1)
                  have n2 := held_cell (cell_below bel2 m2)
                  have x0 := held_cell e0
                  have x1 := held_cell e1
                  have x2 := held_cell e2
                  have x3 := held_cell e3
                  have x4 := held_cell e4
                  have x5 := held_cell e5
                  have x6 := held_cell e6
                  clear hs hy m0 m1 m2 e0 e1 e2 e3 e4 e5 e6
                  go_upto_region 19 with fail
                  refine wp_region_held_drew (S := (fun w' => Below wr.heap.size wr w')) (by kernel_rfl) ?_ (fun hHeld => ?_)
                  · (try dsimp only); (repeat (first | exact Below.refl _ _ | assumption | apply bl_drew | apply bl_alloc | (refine bl_trans ?_ (by assumption))))
                  refine wpAnyH_take (i := 0) (oi := { dst := some 94, op := Op.move (Operand.tmp 8), type := 4, pos := "law.go:65", after := #[], guard := none }) (v := ?_) rfl (by kernel_rfl) (by kernel_rfl) (by kernel_rfl) (fun _ _ _ h => h) (Or.inl ⟨by rfl, ?_⟩) hHeld ?_
                  rotate_left
                  · intro w0 hSw; (try dsimp only at hSw); go_simp; try with_reducible rfl
                  try simp only [Act.put, List.setIfInBounds_toArray, List.set_cons_zero, List.set_cons_succ]
                  refine wpAnyH_take (i := 1) (oi := { dst := some 95, op := Op.move (Operand.tmp 94), type := 4, pos := "law.go:65", after := #[{ on := 0, ground := Ground.data }], guard := none }) (v := ?_) rfl (by kernel_rfl) (by kernel_rfl) (by kernel_rfl) (fun _ _ _ h => h) (Or.inl ⟨by rfl, ?_⟩) hHeld ?_
                  rotate_left
                  · intro w0 hSw; (try dsimp only at hSw); go_simp; try with_reducible rfl
                  try simp only [Act.put, List.setIfInBounds_toArray, List.set_cons_zero, List.set_cons_succ]
                  refine wpAnyH_take (i := 2) (oi := { dst := some 96, op := Op.move (Operand.tmp 0), type := 22, pos := "law.go:65", after := #[{ on := 1, ground := Ground.guard }], guard := some (1, false) }) (v := ?_) rfl (by kernel_rfl) (by kernel_rfl) (by kernel_rfl) (fun _ _ _ h => h) (Or.inl ⟨by rfl, ?_⟩) hHeld ?_
                  rotate_left
                  · intro w0 hSw; (try dsimp only at hSw); go_simp; try with_reducible rfl
                  try simp only [Act.put, List.setIfInBounds_toArray, List.set_cons_zero, List.set_cons_succ]
                  refine wpAnyH_take (i := 3) (oi := { dst := some 97, op := Op.move (Operand.tmp 9), type := 3, pos := "law.go:65", after := #[{ on := 1, ground := Ground.guard }], guard := some (1, false) }) (v := ?_) rfl (by kernel_rfl) (by kernel_rfl) (by kernel_rfl) (fun _ _ _ h => h) (Or.inl ⟨by rfl, ?_⟩) hHeld ?_
                  rotate_left
                  · intro w0 hSw; (try dsimp only at hSw); go_simp; try with_reducible rfl
                  try simp only [Act.put, List.setIfInBounds_toArray, List.set_cons_zero, List.set_cons_succ]
                  refine wpAnyH_take (i := 4) (oi := { dst := some 98, op := Op.indexAddr 22 (Operand.tmp 96) (Operand.tmp 97), type := 0, pos := "law.go:65", after := #[{ on := 2, ground := Ground.data }, { on := 3, ground := Ground.data }, { on := 1, ground := Ground.guard }], guard := some (1, false) }) (v := ?_) rfl (by kernel_rfl) (by kernel_rfl) (by kernel_rfl) (fun _ _ _ h => h) (Or.inl ⟨by rfl, ?_⟩) hHeld ?_
                  rotate_left
                  · intro w0 hSw; (try dsimp only at hSw); go_simp; try with_reducible rfl
                  try simp only [Act.put, List.setIfInBounds_toArray, List.set_cons_zero, List.set_cons_succ]
                  refine wpAnyH_take (i := 5) (oi := { dst := some 99, op := Op.fieldAddr 28 (Operand.tmp 98) 0, type := 0, pos := "law.go:65", after := #[{ on := 4, ground := Ground.data }, { on := 1, ground := Ground.guard }], guard := some (1, false) }) (v := ?_) rfl (by kernel_rfl) (by kernel_rfl) (by kernel_rfl) (fun _ _ _ h => h) (Or.inl ⟨by rfl, ?_⟩) hHeld ?_
                  rotate_left
                  · intro w0 hSw; (try dsimp only at hSw); go_simp; try with_reducible rfl
                  try simp only [Act.put, List.setIfInBounds_toArray, List.set_cons_zero, List.set_cons_succ]
                  refine wpAnyH_take (i := 6) (oi := { dst := some 100, op := Op.load 3 (Operand.tmp 99), type := 3, pos := "law.go:65", after := #[{ on := 5, ground := Ground.data }, { on := 1, ground := Ground.guard }], guard := some (1, false) }) (v := ?_) rfl (by kernel_rfl) (by kernel_rfl) (by kernel_rfl) (fun _ _ _ h => h) (Or.inl ⟨by rfl, ?_⟩) hHeld ?_
                  rotate_left
                  · intro w0 hSw; (try dsimp only at hSw); go_simp; try with_reducible rfl
                  try simp only [Act.put, List.setIfInBounds_toArray, List.set_cons_zero, List.set_cons_succ]
                  refine wpAnyH_take (i := 7) (oi := { dst := some 101, op := Op.binOp BinOp.eql 3 (Operand.tmp 100) (Operand.const (Value.int IntKind.i64 2)) 3, type := 4, pos := "law.go:65", after := #[{ on := 6, ground := Ground.data }, { on := 1, ground := Ground.guard }], guard := some (1, false) }) (v := ?_) rfl (by kernel_rfl) (by kernel_rfl) (by kernel_rfl) (fun _ _ _ h => h) (Or.inl ⟨by rfl, ?_⟩) hHeld ?_
                  rotate_left
                  · intro w0 hSw; (try dsimp only at hSw); go_simp; try with_reducible rfl
                  try simp only [Act.put, List.setIfInBounds_toArray, List.set_cons_zero, List.set_cons_succ]
                  refine wpAnyH_take (i := 8) (oi := { dst := some 102, op := Op.move (Operand.tmp 101), type := 4, pos := "law.go:65", after := #[{ on := 7, ground := Ground.data }, { on := 1, ground := Ground.chain }, { on := 1, ground := Ground.guard }], guard := some (1, false) }) (v := ?_) rfl (by kernel_rfl) (by kernel_rfl) (by kernel_rfl) (fun _ _ _ h => h) (Or.inl ⟨by rfl, ?_⟩) hHeld ?_
                  rotate_left
                  · intro w0 hSw; (try dsimp only at hSw); go_simp; try with_reducible rfl
                  try simp only [Act.put, List.setIfInBounds_toArray, List.set_cons_zero, List.set_cons_succ]
                  refine wpAnyH_take (i := 9) (oi := { dst := some 103, op := Op.move (Operand.tmp 0), type := 22, pos := "law.go:65", after := #[{ on := 8, ground := Ground.guard }], guard := some (8, false) }) (v := undef) rfl (by kernel_rfl) (by kernel_rfl) (by kernel_rfl) (fun _ _ _ h => h) (Or.inr ⟨by rfl, rfl⟩) hHeld ?_
                  try simp only [Act.put, List.setIfInBounds_toArray, List.set_cons_zero, List.set_cons_succ]
                  refine wpAnyH_take (i := 10) (oi := { dst := some 104, op := Op.move (Operand.tmp 9), type := 3, pos := "law.go:65", after := #[{ on := 8, ground := Ground.guard }], guard := some (8, false) }) (v := undef) rfl (by kernel_rfl) (by kernel_rfl) (by kernel_rfl) (fun _ _ _ h => h) (Or.inr ⟨by rfl, rfl⟩) hHeld ?_
                  try simp only [Act.put, List.setIfInBounds_toArray, List.set_cons_zero, List.set_cons_succ]
                  refine wpAnyH_take (i := 11) (oi := { dst := some 105, op := Op.indexAddr 22 (Operand.tmp 103) (Operand.tmp 104), type := 0, pos := "law.go:65", after := #[{ on := 9, ground := Ground.data }, { on := 10, ground := Ground.data }, { on := 8, ground := Ground.guard }], guard := some (8, false) }) (v := undef) rfl (by kernel_rfl) (by kernel_rfl) (by kernel_rfl) (fun _ _ _ h => h) (Or.inr ⟨by rfl, rfl⟩) hHeld ?_
                  try simp only [Act.put, List.setIfInBounds_toArray, List.set_cons_zero, List.set_cons_succ]
                  refine wpAnyH_take (i := 12) (oi := { dst := some 106, op := Op.fieldAddr 28 (Operand.tmp 105) 0, type := 0, pos := "law.go:65", after := #[{ on := 11, ground := Ground.data }, { on := 8, ground := Ground.guard }], guard := some (8, false) }) (v := undef) rfl (by kernel_rfl) (by kernel_rfl) (by kernel_rfl) (fun _ _ _ h => h) (Or.inr ⟨by rfl, rfl⟩) hHeld ?_
                  try simp only [Act.put, List.setIfInBounds_toArray, List.set_cons_zero, List.set_cons_succ]
                  refine wpAnyH_take (i := 13) (oi := { dst := some 107, op := Op.load 3 (Operand.tmp 106), type := 3, pos := "law.go:65", after := #[{ on := 12, ground := Ground.data }, { on := 8, ground := Ground.guard }], guard := some (8, false) }) (v := undef) rfl (by kernel_rfl) (by kernel_rfl) (by kernel_rfl) (fun _ _ _ h => h) (Or.inr ⟨by rfl, rfl⟩) hHeld ?_
                  try simp only [Act.put, List.setIfInBounds_toArray, List.set_cons_zero, List.set_cons_succ]
                  refine wpAnyH_take (i := 14) (oi := { dst := some 108, op := Op.binOp BinOp.eql 3 (Operand.tmp 107) (Operand.const (Value.int IntKind.i64 3)) 3, type := 4, pos := "law.go:65", after := #[{ on := 13, ground := Ground.data }, { on := 8, ground := Ground.guard }], guard := some (8, false) }) (v := undef) rfl (by kernel_rfl) (by kernel_rfl) (by kernel_rfl) (fun _ _ _ h => h) (Or.inr ⟨by rfl, rfl⟩) hHeld ?_
                  try simp only [Act.put, List.setIfInBounds_toArray, List.set_cons_zero, List.set_cons_succ]
                  refine wpAnyH_take (i := 15) (oi := { dst := some 109, op := Op.pick (Operand.tmp 102) (Operand.const (Value.bool true)) (Operand.tmp 108), type := 4, pos := "law.go:65", after := #[{ on := 8, ground := Ground.data }, { on := 14, ground := Ground.data }, { on := 1, ground := Ground.guard }], guard := some (1, false) }) (v := ?_) rfl (by kernel_rfl) (by kernel_rfl) (by kernel_rfl) (fun _ _ _ h => h) (Or.inl ⟨by rfl, ?_⟩) hHeld ?_
                  rotate_left
                  · intro w0 hSw; (try dsimp only at hSw); go_simp; try with_reducible rfl
                  try simp only [Act.put, List.setIfInBounds_toArray, List.set_cons_zero, List.set_cons_succ]
                  refine wpAnyH_take (i := 16) (oi := { dst := some 110, op := Op.move (Operand.tmp 109), type := 4, pos := "law.go:65", after := #[{ on := 15, ground := Ground.data }, { on := 8, ground := Ground.chain }, { on := 1, ground := Ground.guard }], guard := some (1, false) }) (v := ?_) rfl (by kernel_rfl) (by kernel_rfl) (by kernel_rfl) (fun _ _ _ h => h) (Or.inl ⟨by rfl, ?_⟩) hHeld ?_
                  rotate_left
                  · intro w0 hSw; (try dsimp only at hSw); go_simp; try with_reducible rfl
                  try simp only [Act.put, List.setIfInBounds_toArray, List.set_cons_zero, List.set_cons_succ]
                  refine wpAnyH_take (i := 17) (oi := { dst := some 111, op := Op.move (Operand.tmp 0), type := 22, pos := "law.go:65", after := #[{ on := 16, ground := Ground.guard }], guard := some (16, true) }) (v := ?_) rfl (by kernel_rfl) (by kernel_rfl) (by kernel_rfl) (fun _ _ _ h => h) (Or.inl ⟨by rfl, ?_⟩) hHeld ?_
                  rotate_left
                  · intro w0 hSw; (try dsimp only at hSw); go_simp; try with_reducible rfl
                  try simp only [Act.put, List.setIfInBounds_toArray, List.set_cons_zero, List.set_cons_succ]
                  refine wpAnyH_take (i := 18) (oi := { dst := some 112, op := Op.move (Operand.tmp 9), type := 3, pos := "law.go:65", after := #[{ on := 16, ground := Ground.guard }], guard := some (16, true) }) (v := ?_) rfl (by kernel_rfl) (by kernel_rfl) (by kernel_rfl) (fun _ _ _ h => h) (Or.inl ⟨by rfl, ?_⟩) hHeld ?_
                  rotate_left
                  · intro w0 hSw; (try dsimp only at hSw); go_simp; try with_reducible rfl
                  try simp only [Act.put, List.setIfInBounds_toArray, List.set_cons_zero, List.set_cons_succ]
                  refine wpAnyH_take (i := 19) (oi := { dst := some 113, op := Op.indexAddr 22 (Operand.tmp 111) (Operand.tmp 112), type := 0, pos := "law.go:65", after := #[{ on := 17, ground := Ground.data }, { on := 18, ground := Ground.data }, { on := 16, ground := Ground.guard }], guard := some (16, true) }) (v := ?_) rfl (by kernel_rfl) (by kernel_rfl) (by kernel_rfl) (fun _ _ _ h => h) (Or.inl ⟨by rfl, ?_⟩) hHeld ?_
                  rotate_left
                  · intro w0 hSw; (try dsimp only at hSw); go_simp; try with_reducible rfl
                  try simp only [Act.put, List.setIfInBounds_toArray, List.set_cons_zero, List.set_cons_succ]
                  refine wpAnyH_take (i := 20) (oi := { dst := some 114, op := Op.load 28 (Operand.tmp 113), type := 28, pos := "law.go:65", after := #[{ on := 19, ground := Ground.data }, { on := 16, ground := Ground.guard }], guard := some (16, true) }) (v := ?_) rfl (by kernel_rfl) (by kernel_rfl) (by kernel_rfl) (fun _ _ _ h => h) (Or.inl ⟨by rfl, ?_⟩) hHeld ?_
                  rotate_left
                  · intro w0 hSw; (try dsimp only at hSw); go_simp; try with_reducible rfl
                  try simp only [Act.put, List.setIfInBounds_toArray, List.set_cons_zero, List.set_cons_succ]
                  refine wpAnyH_take (i := 21) (oi := { dst := some 115, op := Op.move (Operand.tmp 3), type := 23, pos := "law.go:65", after := #[{ on := 16, ground := Ground.guard }], guard := some (16, true) }) (v := ?_) rfl (by kernel_rfl) (by kernel_rfl) (by kernel_rfl) (fun _ _ _ h => h) (Or.inl ⟨by rfl, ?_⟩) hHeld ?_
                  rotate_left
                  · intro w0 hSw; (try dsimp only at hSw); go_simp; try with_reducible rfl
                  try simp only [Act.put, List.setIfInBounds_toArray, List.set_cons_zero, List.set_cons_succ]
                  refine wpAnyH_take (i := 22) (oi := { dst := some 116, op := Op.move (Operand.tmp 7), type := 3, pos := "law.go:65", after := #[{ on := 16, ground := Ground.guard }], guard := some (16, true) }) (v := ?_) rfl (by kernel_rfl) (by kernel_rfl) (by kernel_rfl) (fun _ _ _ h => h) (Or.inl ⟨by rfl, ?_⟩) hHeld ?_
                  rotate_left
                  · intro w0 hSw; (try dsimp only at hSw); go_simp; try with_reducible rfl
                  try simp only [Act.put, List.setIfInBounds_toArray, List.set_cons_zero, List.set_cons_succ]
                  refine wpAnyH_take (i := 23) (oi := { dst := some 117, op := Op.indexAddr 23 (Operand.tmp 115) (Operand.tmp 116), type := 0, pos := "law.go:65", after := #[{ on := 21, ground := Ground.data }, { on := 22, ground := Ground.data }, { on := 16, ground := Ground.guard }], guard := some (16, true) }) (v := ?_) rfl (by kernel_rfl) (by kernel_rfl) (by kernel_rfl) (fun _ _ _ h => h) (Or.inl ⟨by rfl, ?_⟩) hHeld ?_
                  rotate_left
                  · intro w0 hSw; (try dsimp only at hSw); go_simp; try with_reducible rfl
                  try simp only [Act.put, List.setIfInBounds_toArray, List.set_cons_zero, List.set_cons_succ]
                  refine wpAnyH_take (i := 24) (oi := { dst := some 118, op := Op.load 26 (Operand.tmp 117), type := 26, pos := "law.go:65", after := #[{ on := 23, ground := Ground.data }, { on := 16, ground := Ground.guard }], guard := some (16, true) }) (v := ?_) rfl (by kernel_rfl) (by kernel_rfl) (by kernel_rfl) (fun _ _ _ h => h) (Or.inl ⟨by rfl, ?_⟩) hHeld ?_
                  rotate_left
                  · intro w0 hSw; (try dsimp only at hSw); go_simp; try with_reducible rfl
                  try simp only [Act.put, List.setIfInBounds_toArray, List.set_cons_zero, List.set_cons_succ]
                  refine wpAnyH_take (i := 25) (oi := { dst := some 119, op := Op.move (Operand.tmp 0), type := 22, pos := "law.go:65", after := #[{ on := 16, ground := Ground.guard }], guard := some (16, true) }) (v := ?_) rfl (by kernel_rfl) (by kernel_rfl) (by kernel_rfl) (fun _ _ _ h => h) (Or.inl ⟨by rfl, ?_⟩) hHeld ?_
                  rotate_left
                  · intro w0 hSw; (try dsimp only at hSw); go_simp; try with_reducible rfl
                  try simp only [Act.put, List.setIfInBounds_toArray, List.set_cons_zero, List.set_cons_succ]
                  refine wpAnyH_take (i := 26) (oi := { dst := some 120, op := Op.move (Operand.tmp 9), type := 3, pos := "law.go:65", after := #[{ on := 16, ground := Ground.guard }], guard := some (16, true) }) (v := ?_) rfl (by kernel_rfl) (by kernel_rfl) (by kernel_rfl) (fun _ _ _ h => h) (Or.inl ⟨by rfl, ?_⟩) hHeld ?_
                  rotate_left
                  · intro w0 hSw; (try dsimp only at hSw); go_simp; try with_reducible rfl
                  try simp only [Act.put, List.setIfInBounds_toArray, List.set_cons_zero, List.set_cons_succ]
                  refine wpAnyH_take (i := 27) (oi := { dst := some 121, op := Op.indexAddr 22 (Operand.tmp 119) (Operand.tmp 120), type := 0, pos := "law.go:65", after := #[{ on := 25, ground := Ground.data }, { on := 26, ground := Ground.data }, { on := 16, ground := Ground.guard }], guard := some (16, true) }) (v := ?_) rfl (by kernel_rfl) (by kernel_rfl) (by kernel_rfl) (fun _ _ _ h => h) (Or.inl ⟨by rfl, ?_⟩) hHeld ?_
                  rotate_left
                  · intro w0 hSw; (try dsimp only at hSw); go_simp; try with_reducible rfl
                  try simp only [Act.put, List.setIfInBounds_toArray, List.set_cons_zero, List.set_cons_succ]
                  refine wpAnyH_take (i := 28) (oi := { dst := some 122, op := Op.fieldAddr 28 (Operand.tmp 121) 0, type := 0, pos := "law.go:65", after := #[{ on := 27, ground := Ground.data }, { on := 16, ground := Ground.guard }], guard := some (16, true) }) (v := ?_) rfl (by kernel_rfl) (by kernel_rfl) (by kernel_rfl) (fun _ _ _ h => h) (Or.inl ⟨by rfl, ?_⟩) hHeld ?_
                  rotate_left
                  · intro w0 hSw; (try dsimp only at hSw); go_simp; try with_reducible rfl
                  try simp only [Act.put, List.setIfInBounds_toArray, List.set_cons_zero, List.set_cons_succ]
                  refine wpAnyH_take (i := 29) (oi := { dst := some 123, op := Op.load 3 (Operand.tmp 122), type := 3, pos := "law.go:65", after := #[{ on := 28, ground := Ground.data }, { on := 16, ground := Ground.guard }], guard := some (16, true) }) (v := ?_) rfl (by kernel_rfl) (by kernel_rfl) (by kernel_rfl) (fun _ _ _ h => h) (Or.inl ⟨by rfl, ?_⟩) hHeld ?_
                  rotate_left
                  · intro w0 hSw; (try dsimp only at hSw); go_simp; try with_reducible rfl
                  try simp only [Act.put, List.setIfInBounds_toArray, List.set_cons_zero, List.set_cons_succ]
                  refine wpAnyH_take (i := 30) (oi := { dst := some 124, op := Op.move (Operand.tmp 0), type := 22, pos := "law.go:65", after := #[{ on := 16, ground := Ground.guard }], guard := some (16, true) }) (v := ?_) rfl (by kernel_rfl) (by kernel_rfl) (by kernel_rfl) (fun _ _ _ h => h) (Or.inl ⟨by rfl, ?_⟩) hHeld ?_
                  rotate_left
                  · intro w0 hSw; (try dsimp only at hSw); go_simp; try with_reducible rfl
                  try simp only [Act.put, List.setIfInBounds_toArray, List.set_cons_zero, List.set_cons_succ]
                  refine wpAnyH_take (i := 31) (oi := { dst := some 125, op := Op.move (Operand.tmp 9), type := 3, pos := "law.go:65", after := #[{ on := 16, ground := Ground.guard }], guard := some (16, true) }) (v := ?_) rfl (by kernel_rfl) (by kernel_rfl) (by kernel_rfl) (fun _ _ _ h => h) (Or.inl ⟨by rfl, ?_⟩) hHeld ?_
                  rotate_left
                  · intro w0 hSw; (try dsimp only at hSw); go_simp; try with_reducible rfl
                  try simp only [Act.put, List.setIfInBounds_toArray, List.set_cons_zero, List.set_cons_succ]
                  refine wpAnyH_take (i := 32) (oi := { dst := some 126, op := Op.indexAddr 22 (Operand.tmp 124) (Operand.tmp 125), type := 0, pos := "law.go:65", after := #[{ on := 30, ground := Ground.data }, { on := 31, ground := Ground.data }, { on := 16, ground := Ground.guard }], guard := some (16, true) }) (v := ?_) rfl (by kernel_rfl) (by kernel_rfl) (by kernel_rfl) (fun _ _ _ h => h) (Or.inl ⟨by rfl, ?_⟩) hHeld ?_
                  rotate_left
                  · intro w0 hSw; (try dsimp only at hSw); go_simp; try with_reducible rfl
                  try simp only [Act.put, List.setIfInBounds_toArray, List.set_cons_zero, List.set_cons_succ]
                  refine wpAnyH_take (i := 33) (oi := { dst := some 127, op := Op.fieldAddr 28 (Operand.tmp 126) 4, type := 0, pos := "law.go:65", after := #[{ on := 32, ground := Ground.data }, { on := 16, ground := Ground.guard }], guard := some (16, true) }) (v := ?_) rfl (by kernel_rfl) (by kernel_rfl) (by kernel_rfl) (fun _ _ _ h => h) (Or.inl ⟨by rfl, ?_⟩) hHeld ?_
                  rotate_left
                  · intro w0 hSw; (try dsimp only at hSw); go_simp; try with_reducible rfl
                  try simp only [Act.put, List.setIfInBounds_toArray, List.set_cons_zero, List.set_cons_succ]
                  refine wpAnyH_take (i := 34) (oi := { dst := some 128, op := Op.load 3 (Operand.tmp 127), type := 3, pos := "law.go:65", after := #[{ on := 33, ground := Ground.data }, { on := 16, ground := Ground.guard }], guard := some (16, true) }) (v := ?_) rfl (by kernel_rfl) (by kernel_rfl) (by kernel_rfl) (fun _ _ _ h => h) (Or.inl ⟨by rfl, ?_⟩) hHeld ?_
                  rotate_left
                  · intro w0 hSw; (try dsimp only at hSw); go_simp; try with_reducible rfl
                  try simp only [Act.put, List.setIfInBounds_toArray, List.set_cons_zero, List.set_cons_succ]
                  refine wpAnyH_ready (rs := [35]) (by kernel_rfl) (by simp) ?_
                  refine AllReadyH.cons (o := { dst := some 129, op := Op.call { callee := Callee.value (Operand.func 12), args := #[Operand.tmp 114, Operand.tmp 118, Operand.tmp 123, Operand.tmp 128], argTypes := #[28, 26, 3, 3] }, type := 4, pos := "law.go:65", after := #[{ on := 20, ground := Ground.data }, { on := 24, ground := Ground.data }, { on := 29, ground := Ground.data }, { on := 34, ground := Ground.data }, { on := 16, ground := Ground.chain }, { on := 16, ground := Ground.guard }], guard := some (16, true) }) rfl (fun K hK => ?_) AllReadyH.nil
                  go_simp
                  (go_at_call 12; refine (counts_self x y _).mono ?_; rintro e w2 ⟨rfl, hg⟩; have hb := gd_below hg)
                  refine hK.out _ _ ?_ (fun hHeld => ?_)
                  · (try dsimp only); (repeat (first | exact Below.refl _ _ | assumption | apply bl_drew | apply bl_alloc | (refine bl_trans ?_ (by assumption))))
                  clear hK K
                  try simp only [Act.put, List.setIfInBounds_toArray, List.set_cons_zero, List.set_cons_succ]
                  refine wpAnyH_take (i := 36) (oi := { dst := some 130, op := Op.pick (Operand.tmp 110) (Operand.tmp 129) (Operand.const (Value.bool false)), type := 4, pos := "law.go:65", after := #[{ on := 16, ground := Ground.data }, { on := 35, ground := Ground.data }, { on := 1, ground := Ground.guard }], guard := some (1, false) }) (v := ?_) rfl (by kernel_rfl) (by kernel_rfl) (by kernel_rfl) (fun _ _ _ h => h) (Or.inl ⟨by rfl, ?_⟩) hHeld ?_
                  rotate_left
                  · intro w0 hSw; (try dsimp only at hSw); go_simp; try with_reducible rfl
                  try simp only [Act.put, List.setIfInBounds_toArray, List.set_cons_zero, List.set_cons_succ]
                  refine wpAnyH_take (i := 37) (oi := { dst := some 131, op := Op.pick (Operand.tmp 95) (Operand.const (Value.bool true)) (Operand.tmp 130), type := 4, pos := "law.go:65", after := #[{ on := 1, ground := Ground.data }, { on := 36, ground := Ground.data }], guard := none }) (v := ?_) rfl (by kernel_rfl) (by kernel_rfl) (by kernel_rfl) (fun _ _ _ h => h) (Or.inl ⟨by rfl, ?_⟩) hHeld ?_
                  rotate_left
                  · intro w0 hSw; (try dsimp only at hSw); go_simp; try with_reducible rfl
                  try simp only [Act.put, List.setIfInBounds_toArray, List.set_cons_zero, List.set_cons_succ]
                  refine wpAnyH_take (i := 38) (oi := { dst := some 8, op := Op.assign (Operand.tmp 131), type := 4, pos := "law.go:65", after := #[{ on := 37, ground := Ground.data }, { on := 35, ground := Ground.chain }, { on := 0, ground := Ground.phase }, { on := 1, ground := Ground.phase }, { on := 2, ground := Ground.phase }, { on := 3, ground := Ground.phase }, { on := 4, ground := Ground.phase }, { on := 5, ground := Ground.phase }, { on := 6, ground := Ground.phase }, { on := 7, ground := Ground.phase }, { on := 8, ground := Ground.phase }, { on := 9, ground := Ground.phase }, { on := 10, ground := Ground.phase }, { on := 11, ground := Ground.phase }, { on := 12, ground := Ground.phase }, { on := 13, ground := Ground.phase }, { on := 14, ground := Ground.phase }, { on := 15, ground := Ground.phase }, { on := 16, ground := Ground.phase }, { on := 17, ground := Ground.phase }, { on := 18, ground := Ground.phase }, { on := 19, ground := Ground.phase }, { on := 20, ground := Ground.phase }, { on := 21, ground := Ground.phase }, { on := 22, ground := Ground.phase }, { on := 23, ground := Ground.phase }, { on := 24, ground := Ground.phase }, { on := 25, ground := Ground.phase }, { on := 26, ground := Ground.phase }, { on := 27, ground := Ground.phase }, { on := 28, ground := Ground.phase }, { on := 29, ground := Ground.phase }, { on := 30, ground := Ground.phase }, { on := 31, ground := Ground.phase }, { on := 32, ground := Ground.phase }, { on := 33, ground := Ground.phase }, { on := 34, ground := Ground.phase }, { on := 35, ground := Ground.phase }, { on := 36, ground := Ground.phase }, { on := 37, ground := Ground.phase }], guard := none }) (v := ?_) rfl (by kernel_rfl) (by kernel_rfl) (by kernel_rfl) (fun _ _ _ h => h) (Or.inl ⟨by rfl, ?_⟩) hHeld ?_
                  rotate_left
                  · intro w0 hSw; (try dsimp only at hSw); go_simp; try with_reducible rfl
                  try simp only [Act.put, List.setIfInBounds_toArray, List.set_cons_zero, List.set_cons_succ]
                  refine wpAnyH_done (by kernel_rfl) ?_ _
                  go_wp2_with fail
                  go_roundw
                  case rel => exact ⟨k + 1, by omega, by go_num, by rw [HS.out], bl_trans bel2 (by assumption)⟩
                  case measure => simp [intOf]; omega
                · rw [hy, Bool.true_and] at hs
                  have HS := Lib.hid hs
                  have n0 := held_cell (cell_below bel2 m0)
                  have n1 := held_cell (cell_below bel2 m1)
                  have n2 := held_cell (cell_below bel2 m2)
                  have x0 := held_cell e0
                  have x1 := held_cell e1
                  have x2 := held_cell e2
                  have x3 := held_cell e3
                  have x4 := held_cell e4
                  have x5 := held_cell e5
                  have x6 := held_cell e6
                  clear hs hy m0 m1 m2 e0 e1 e2 e3 e4 e5 e6
                  go_upto_region 19 with fail
                  go_region_held3 (fun w' => Below wr.heap.size wr w') (repeat (first | exact Below.refl _ _ | assumption | apply bl_drew | apply bl_alloc | (refine bl_trans ?_ (by assumption)))) ((go_at_call 12; refine (counts_self x y _).mono ?_; rintro e w2 ⟨rfl, hg⟩; have hb := gd_below hg))
                  all_goals
                    go_wp2_with fail
                    go_roundw
                    case rel => exact ⟨k + 1, by omega, by go_num, by rw [HS.out], bl_trans bel2 (by assumption)⟩
                    case measure => simp [intOf]; omega
                · rw [hy, Bool.false_and] at hs
                  have HS := Lib.hid hs
                  clear hs hy
                  go_upto_region 19 with fail
                  go_quiet (fail)
                  go_wp2_with fail
                  go_roundw
                  case rel => exact ⟨k + 1, by omega, by go_num, by rw [HS.out], bl_drewN bel2 _⟩
                  case measure => simp [intOf]; omega
            · have hkm : k = l.length := by omega
              subst hkm
              have hnI : ¬ ((l.length : Int) < (l.length : Int)) := by omega
              rw [List.take_of_length_le (Nat.le_refl _), HO.out]
              cases i with
              | zero =>
                have hgt : ¬ (((0 : Nat) : Int) > 0) := by omega
                go_upto_region 20 with fail
                go_quiet (fail)
                go_wp2_with fail
                go_roundw
                case rel => exact ⟨1, by omega, by go_num, bl_drewN belw _⟩
                case measure => simp [intOf]; omega
              | succ j =>
                obtain ⟨z, hz⟩ : ∃ z, m[j]? = some z := ⟨_, List.getElem?_eq_getElem (by omega)⟩
                have hzy : belowF z y = true := pair_at HRI.out hz HY.out
                obtain ⟨am', ham, p0, p1, p2, q0, q1, q2⟩ := kMark_at (Kd.row_below belw row) hz
                injection ham with ham
                subst ham
                have hgt : (j : Int) + 1 > 0 := by omega
                have hjI : (j : Int) < (m.length : Int) := by omega
                have hjI1 : (j : Int) + 1 < (m.length : Int) := by omega
                have hj0 : (0 : Int) ≤ (j : Int) + 1 := by omega
                have hw1 : IntKind.i64.wrap ((j : Int) + 1 - 1) = (j : Int) := by rw [Int.add_sub_cancel]; exact IntWalk.i64_in _ (by omega)
                have hw2 : IntKind.i64.wrap (j : Int) = (j : Int) := IntWalk.i64_in _ (by omega)
                have hjN : j < m.length := by omega
                have hjN1 : j + 1 < m.length := by omega
                have n0 := held_cell (cell_below bel2 m0)
                have n1 := held_cell (cell_below bel2 m1)
                have n2 := held_cell (cell_below bel2 m2)
                have z0 := held_cell p0
                have z1 := held_cell p1
                have z2 := held_cell p2
                have hbc := fun W => below_calls z y W
                simp only [hzy] at hbc
                have HBC := Lib.hid hbc
                clear hz hzy p0 p1 p2 q0 q1 q2 hbc hiI
                go_upto_region 20 with fail
                go_region_held3 (fun w' => Below wr.heap.size wr w') (repeat (first | exact Below.refl _ _ | assumption | apply bl_drew | apply bl_alloc | (refine bl_trans ?_ (by assumption)))) ((go_at_call 13; refine (HBC.out _).mono ?_; rintro e w2 ⟨rfl, hg⟩; have hb := gd_below hg))
                all_goals
                  go_wp2_with fail
                  go_roundw
                  case rel => exact ⟨j + 2, by omega, by go_num, bl_trans belw (by assumption)⟩
                  case measure => simp [intOf]; omega
        · have him : i = m.length := by omega
          subst him
          have hnI : ¬ ((m.length : Int) < (m.length : Int)) := by omega
          go_wp2_with (go_at_call 14; refine (alive21_calls _).mono ?_; rintro e w9 ⟨rfl, b9⟩)
          go_ret
          exact ⟨rfl, bl_trans b1 (bl_trans bel b9)⟩
end Go.Proofs.Ytglneailkgminaa
