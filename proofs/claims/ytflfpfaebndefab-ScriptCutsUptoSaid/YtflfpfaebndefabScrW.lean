/- Package mootlaw26: the walks of ScriptBack and ScriptCuts. No claim of its own; no condition. -/
import Derived.Test.YtflfpfaebndefabScrV
namespace Go.Proofs.Ytflfpfaebndefab
open Go.ChangeShapes Go.WideShapes Go.ChangeAt Go.RowKit Go.Shelf
set_option linter.unusedVariables false
set_option linter.unusedSimpArgs false
def s0 : Step := ⟨3, -1, 0, 0, 0, []⟩
theorem s0_good : ∀ y ∈ [s0], goodS y := by
  intro y hy
  obtain rfl := List.mem_singleton.1 hy
  exact ⟨by decide, by decide⟩
theorem s0_len : ([s0].flatMap stepB).length = 11 := by
  rw [List.flatMap_cons, List.flatMap_nil, List.append_nil, stepB_len]
  rfl
theorem s0_put : putR [s0] = ([s0].flatMap stepB, 0) := putR_flat (by simp) s0_good (by rw [s0_len]; omega)
theorem s0_read : readR ([s0].flatMap stepB) = ([s0], 0) := readR_flat (by simp) s0_good (by rw [s0_len]; omega)
set_option maxHeartbeats 1600000 in
set_option maxRecDepth 100000 in
theorem alive26_calls (w : World) : Calls Try.prog 27 #[] w fun e w' => e = .returned (.bool true) ∧ Below w.heap.size w w' := by
  have al := bl_alloc (Below.refl w.heap.size w) (.cells #[.int .i64 3, .int .i64 (-1), .int .i64 0, .int .i64 0, .int .i64 0, .slice none 0 0] 66)
  have rowx : kStep.Row 66 w.heap.size (w.alloc (.cells #[.int .i64 3, .int .i64 (-1), .int .i64 0, .int .i64 0, .int .i64 0, .slice none 0 0] 66)) (some ⟨w.heap.size, 0, none⟩) [s0] :=
    Kd.row_fresh1 (kStep_mk (A5 := none) (c5 := 0) s0 (by unfold IntOk; decide) (by unfold IntOk; decide) (by unfold IntOk; decide) (by unfold IntOk; decide) (by unfold IntOk; decide) (by decide) (by decide) (Kd.row_nil _ _ _ _ _))
  have hput := put_calls [s0] (some ⟨w.heap.size, 0, none⟩) 1 1 _ _ rfl (by simp) rowx
  rw [s0_put] at hput
  obtain ⟨X, hX⟩ : ∃ X, [s0].flatMap stepB = X := ⟨_, rfl⟩
  have hread := s0_read
  have hlen := s0_len
  rw [hX] at hput hread hlen
  dsimp only at hput
  have HP := Lib.hid hput
  have HL := Lib.hid hlen
  have HRD := Lib.hid hread
  clear hput hlen hread hX
  have hq : ((X.length : Int) == 11) = true := by rw [HL.out]; rfl
  go_enter Try.func27, Try.ntmps27
  go_wp2_with (first
    | (go_at_call 28; refine (HP.out).mono ?_; rintro e w1 ⟨⟨v1, rfl, own1⟩, b1⟩; obtain ⟨A1, c1, rfl, q1, q2, row1, _⟩ := Kd.own_row own1)
    | (go_at_call 29; refine (read_calls X A1 _ c1 _ _ rfl (by rw [HL.out]; omega) q1 q2 row1).mono ?_; rw [HRD.out]; rintro e w2 ⟨⟨v2, rfl, own2⟩, b2⟩; obtain ⟨A2, c2, rfl, q3, q4, row2, _⟩ := Kd.own_row own2; obtain ⟨ad, rfl, A5, c5, e0, e1, e2, e3, e4, e5, _⟩ := kStep_at row2 (show [s0][0]? = some s0 from rfl); have e9 : w2.cell? ⟨ad.block, ad.off + 1, none⟩ = some (.int .i64 (-1)) := e1))
  go_ret
  exact ⟨rfl, bl_trans (bl_trans al b1) b2⟩
set_option maxHeartbeats 1600000 in
set_option maxRecDepth 100000 in
theorem back_walk (l : List Step) (b : List UInt8) (A A2 : Option Addr) (c c2 : Nat) (w : World) (hl : l.length ≤ 1048576) (hb : b.length ≤ 1048576) (hc1 : b.length ≤ c2) (hc2 : c2 ≤ maxLen) (hr : kStep.Row 66 w.heap.size w A l) (hr2 : Kd.u8.Row 5 w.heap.size w A2 b) :
    Calls Try.prog 5 #[.slice A l.length c, .slice A2 b.length c2] w fun e w' => e = .returned (.bool true) ∧ Below w.heap.size w w' := by
  obtain ⟨X, e, hP⟩ : ∃ X e, putR l = (X, e) := ⟨_, _, rfl⟩
  obtain ⟨M, g, hR⟩ : ∃ M g, readR b = (M, g) := ⟨_, _, rfl⟩
  have hput := fun (w' : World) (h : Below w.heap.size w w') => put_calls l A l.length c w' _ rfl hl (Kd.row_below h hr)
  have hread := fun (w' : World) (h : Below w.heap.size w w') => read_calls b A2 b.length c2 w' _ rfl hb hc1 hc2 (Kd.row_below h hr2)
  rw [hP] at hput
  rw [hR] at hread
  dsimp only at hput hread
  have HPUT := Lib.hid hput
  have HREAD := Lib.hid hread
  clear hput hread
  have hgo : ∀ (v : Bool), (e == 0) = v → Calls Try.prog 5 #[.slice A l.length c, .slice A2 b.length c2] w fun e w' => e = .returned (.bool true) ∧ Below w.heap.size w w' := by
    intro ve hve
    cases hg : g == 0 with
    | true =>
      obtain rfl : g = 0 := by simpa using hg
      have hmp := read_put hR
      have hM := (read_ok hR).2.2.1
      have HM := Lib.hid hmp
      clear hmp hg
      cases ve with
      | true =>
        obtain rfl : e = 0 := by simpa using hve
        have hx := put_read hP
        have hxl := (put_ok hP).2.1
        have HX := Lib.hid hx
        have HXL := Lib.hid hxl
        clear hx hxl hP hR hve
        go_enter Try.func5, Try.ntmps5
        go_wp2_with (go_at_call 27; refine (alive26_calls _).mono ?_; rintro e w1 ⟨rfl, b1⟩)
        refine (HPUT.out _ b1).mono ?_
        rintro e w2 ⟨⟨v2, rfl, own2⟩, b2⟩
        obtain ⟨A3, c3, rfl, q1, q2, row2, _⟩ := Kd.own_row own2
        have b12 := bl_trans b1 b2
        go_wp2_with fail
        refine (read_calls X A3 _ c3 _ _ rfl (by have := HXL.out; omega) q1 q2 row2).mono ?_
        rw [HX.out]
        rintro e w3 ⟨⟨v3, rfl, own3⟩, b3⟩
        obtain ⟨A4, c4, rfl, q3, q4, row3, _⟩ := Kd.own_row own3
        have b13 := bl_trans b12 b3
        go_wp2_with fail
        refine (same_calls l A A4 _ _ c c4 _ _ _ rfl rfl hl (Kd.row_below b13 hr) row3).mono ?_
        rintro e w4 ⟨rfl, b4⟩
        have b14 := bl_trans b13 b4
        go_wp2_with fail
        refine (HREAD.out _ b14).mono ?_
        rintro e w5 ⟨⟨v5, rfl, own5⟩, b5⟩
        obtain ⟨A6, c6, rfl, q5, q6, row5, _⟩ := Kd.own_row own5
        have b15 := bl_trans b14 b5
        go_wp2_with fail
        refine (put_calls M A6 _ c6 _ _ rfl (by omega) row5).mono ?_
        rw [HM.out]
        rintro e w7 ⟨⟨v7, rfl, own7⟩, b7⟩
        obtain ⟨A8, c8, rfl, q7, q8, row7, _⟩ := Kd.own_row own7
        have b17 := bl_trans b15 b7
        have s1 := conv_row c8 b.length rfl row7
        have s2 := conv_row c2 b.length rfl (Kd.row_below b17 hr2)
        clear own2 own3 own5 own7
        go_wp2_with fail
        go_ret
        exact ⟨rfl, b17⟩
      | false =>
        have he : e ≠ 0 := by simpa using hve
        obtain rfl := put_bad hP he
        clear hP hR he
        go_enter Try.func5, Try.ntmps5
        go_wp2_with (go_at_call 27; refine (alive26_calls _).mono ?_; rintro e w1 ⟨rfl, b1⟩)
        refine (HPUT.out _ b1).mono ?_
        rintro e w2 ⟨⟨v2, rfl, own2⟩, b2⟩
        obtain ⟨A3, c3, rfl, q1, q2, row2, _⟩ := Kd.own_row own2
        have b14 := bl_trans b1 b2
        go_wp2_with fail
        refine (HREAD.out _ b14).mono ?_
        rintro e w5 ⟨⟨v5, rfl, own5⟩, b5⟩
        obtain ⟨A6, c6, rfl, q5, q6, row5, _⟩ := Kd.own_row own5
        have b15 := bl_trans b14 b5
        go_wp2_with fail
        refine (put_calls M A6 _ c6 _ _ rfl (by omega) row5).mono ?_
        rw [HM.out]
        rintro e w7 ⟨⟨v7, rfl, own7⟩, b7⟩
        obtain ⟨A8, c8, rfl, q7, q8, row7, _⟩ := Kd.own_row own7
        have b17 := bl_trans b15 b7
        have s1 := conv_row c8 b.length rfl row7
        have s2 := conv_row c2 b.length rfl (Kd.row_below b17 hr2)
        clear own2 own5 own7
        go_wp2_with fail
        go_ret
        exact ⟨rfl, b17⟩
    | false =>
      have hg0 : g ≠ 0 := by simpa using hg
      obtain rfl := read_bad hR hg0
      have hgn : (g != 0) = true := by simpa using hg0
      cases ve with
      | true =>
        obtain rfl : e = 0 := by simpa using hve
        have hx := put_read hP
        have hxl := (put_ok hP).2.1
        have HX := Lib.hid hx
        have HXL := Lib.hid hxl
        clear hx hxl hP hR hve hg0
        go_enter Try.func5, Try.ntmps5
        go_wp2_with (go_at_call 27; refine (alive26_calls _).mono ?_; rintro e w1 ⟨rfl, b1⟩)
        refine (HPUT.out _ b1).mono ?_
        rintro e w2 ⟨⟨v2, rfl, own2⟩, b2⟩
        obtain ⟨A3, c3, rfl, q1, q2, row2, _⟩ := Kd.own_row own2
        have b12 := bl_trans b1 b2
        go_wp2_with fail
        refine (read_calls X A3 _ c3 _ _ rfl (by have := HXL.out; omega) q1 q2 row2).mono ?_
        rw [HX.out]
        rintro e w3 ⟨⟨v3, rfl, own3⟩, b3⟩
        obtain ⟨A4, c4, rfl, q3, q4, row3, _⟩ := Kd.own_row own3
        have b13 := bl_trans b12 b3
        go_wp2_with fail
        refine (same_calls l A A4 _ _ c c4 _ _ _ rfl rfl hl (Kd.row_below b13 hr) row3).mono ?_
        rintro e w4 ⟨rfl, b4⟩
        have b14 := bl_trans b13 b4
        go_wp2_with fail
        refine (HREAD.out _ b14).mono ?_
        rintro e w5 ⟨⟨v5, rfl, own5⟩, b5⟩
        obtain ⟨A6, c6, rfl, q5, q6, row5, _⟩ := Kd.own_row own5
        go_wp2_with fail
        go_ret
        exact ⟨rfl, bl_trans b14 b5⟩
      | false =>
        have he : e ≠ 0 := by simpa using hve
        obtain rfl := put_bad hP he
        clear hP hR he hg0
        go_enter Try.func5, Try.ntmps5
        go_wp2_with (go_at_call 27; refine (alive26_calls _).mono ?_; rintro e w1 ⟨rfl, b1⟩)
        refine (HPUT.out _ b1).mono ?_
        rintro e w2 ⟨⟨v2, rfl, own2⟩, b2⟩
        obtain ⟨A3, c3, rfl, q1, q2, row2, _⟩ := Kd.own_row own2
        have b14 := bl_trans b1 b2
        go_wp2_with fail
        refine (HREAD.out _ b14).mono ?_
        rintro e w5 ⟨⟨v5, rfl, own5⟩, b5⟩
        obtain ⟨A6, c6, rfl, q5, q6, row5, _⟩ := Kd.own_row own5
        go_wp2_with fail
        go_ret
        exact ⟨rfl, bl_trans b14 b5⟩
  exact hgo _ rfl
end Go.Proofs.Ytflfpfaebndefab
