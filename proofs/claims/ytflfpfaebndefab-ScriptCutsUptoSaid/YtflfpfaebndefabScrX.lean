/- Package mootlaw26: the walk of ScriptCuts. No claim of its own; no condition. -/
import Derived.Test.YtflfpfaebndefabScrW
namespace Go.Proofs.Ytflfpfaebndefab
open Go.ChangeShapes Go.WideShapes Go.ChangeAt Go.RowKit Go.Shelf
set_option linter.unusedVariables false
set_option linter.unusedSimpArgs false
theorem tm_facts (at_ : Int) (L : Nat) (hL : 0 < L) : -(L : Int) < at_.tmod L ∧ at_.tmod L < (L : Int) ∧ ∃ a : Nat, a < L ∧ (at_.tmod L + L) % L = (a : Int) := by
  have h1 : at_.tmod L < (L : Int) := Int.tmod_lt_of_pos _ (by omega)
  have h2 : -(L : Int) < at_.tmod L := by
    have := Int.lt_tmod_of_pos at_ (b := (L : Int)) (by omega)
    omega
  have h3 := Int.emod_lt_of_pos (at_.tmod L + L) (b := (L : Int)) (by omega)
  have h4 := Int.emod_nonneg (at_.tmod L + L) (b := (L : Int)) (by omega)
  exact ⟨h2, h1, ((at_.tmod L + L) % L).toNat, by omega, by omega⟩
theorem endS_le (l : List Step) (k : Nat) : endS l k ≤ (l.flatMap stepB).length := by
  have e2 : l.flatMap stepB = (l.take k).flatMap stepB ++ (l.drop k).flatMap stepB := by rw [← List.flatMap_append, List.take_append_drop]
  unfold endS
  rw [e2, List.length_append]
  omega
set_option maxHeartbeats 3200000 in
set_option maxRecDepth 100000 in
theorem cuts_walk (l : List Step) (at_ : Int) (A : Option Addr) (c : Nat) (w : World) (hl : l.length ≤ 1048576) (hat : IntOk at_) (hr : kStep.Row 66 w.heap.size w A l) :
    Calls Try.prog 6 #[.slice A l.length c, .int .i64 at_] w fun e w' => e = .returned (.bool true) ∧ Below w.heap.size w w' := by
  obtain ⟨X, e, hP⟩ : ∃ X e, putR l = (X, e) := ⟨_, _, rfl⟩
  have hput := fun (w' : World) (h : Below w.heap.size w w') => put_calls l A l.length c w' _ rfl hl (Kd.row_below h hr)
  rw [hP] at hput
  dsimp only at hput
  have HPUT := Lib.hid hput
  clear hput
  cases he : e == 0 with
  | false =>
    have he0 : e ≠ 0 := by simpa using he
    obtain rfl := put_bad hP he0
    have hen : (e != 0) = true := by simpa using he0
    clear hP he0
    go_enter Try.func6, Try.ntmps6
    go_wp2_with (go_at_call 27; refine (alive26_calls _).mono ?_; rintro e w1 ⟨rfl, b1⟩)
    refine (HPUT.out _ b1).mono ?_
    rintro e w2 ⟨⟨v2, rfl, own2⟩, b2⟩
    obtain ⟨A3, c3, rfl, q1, q2, row2, _⟩ := Kd.own_row own2
    go_wp2_with fail
    go_ret
    exact ⟨rfl, bl_trans b1 b2⟩
  | true =>
    obtain rfl : e = 0 := by simpa using he
    have hxl := (put_ok hP).2.1
    have hX := (put_ok hP).1
    rcases Nat.eq_zero_or_pos X.length with h0 | h0
    · have hnil : l = [] := by
        cases l with
        | nil => rfl
        | cons x l =>
          rw [hX, List.flatMap_cons, List.length_append, stepB_len] at h0
          omega
      subst hnil
      have hXn : X = [] := List.eq_nil_of_length_eq_zero h0
      subst hXn
      clear hP hX h0 he hxl
      go_enter Try.func6, Try.ntmps6
      go_wp2_with (go_at_call 27; refine (alive26_calls _).mono ?_; rintro e w1 ⟨rfl, b1⟩)
      refine (HPUT.out _ b1).mono ?_
      rintro e w2 ⟨⟨v2, rfl, own2⟩, b2⟩
      obtain ⟨A3, c3, rfl, q1, q2, row2, _⟩ := Kd.own_row own2
      go_wp2_with fail
      go_ret
      exact ⟨rfl, bl_trans b1 b2⟩
    · obtain ⟨t1, t2, a, ha, hta⟩ := tm_facts at_ X.length h0
      have hle : ∀ k, endS l k ≤ X.length := fun k => by rw [hX]; exact endS_le l k
      have hcut := cut_law hP (Nat.le_of_lt ha)
      have hXI : ((X.length : Int) == 0) = false := beq_eq_false_iff_ne.2 (by omega)
      have hXI2 : ¬ ((X.length : Int) = 0) := by omega
      have HT := Lib.hid hta
      have HCUT := Lib.hid hcut
      have HLE := Lib.hid hle
      clear hP hX hta hcut hle he
      go_enter Try.func6, Try.ntmps6
      go_wp2_with (go_at_call 27; refine (alive26_calls _).mono ?_; rintro e w1 ⟨rfl, b1⟩)
      refine (HPUT.out _ b1).mono ?_
      rintro e w2 ⟨⟨v2, rfl, own2⟩, b2⟩
      obtain ⟨A3, c3, rfl, q1, q2, row2, _⟩ := Kd.own_row own2
      have bel2 := bl_trans b1 b2
      go_upto_region 7 with fail
      rw [HT.out]
      clear own2 t1 t2
      have hc0 : ((a : Int) == 0) = cutsB l a 0 := by
        unfold cutsB
        rw [List.range_zero, List.any_nil, Bool.or_false, Bool.eq_iff_iff, beq_iff_eq, decide_eq_true_eq]
        omega
      have he0 : endS l 0 = 0 := by simp [endS]
      have HE0 := Lib.hid he0
      obtain ⟨C0, hC0⟩ : ∃ C0, cutsB l a 0 = C0 := ⟨_, rfl⟩
      rw [hC0] at hc0
      have HC0 := Lib.hid hC0
      clear hC0 he0
      go_wp2_with fail
      clear hc0
      go_loopw [7, 8, 9] (fun ev nv kv w' => ∃ k : Nat, k ≤ l.length ∧ kv = .int .i64 k ∧ nv = .int .i64 (endS l k : Nat) ∧ ev = .bool (cutsB l a k) ∧ Below w2.heap.size w2 w') (fun _ _ kv _ => l.length - (intOf kv).toNat)
      case atStart => exact ⟨0, by omega, rfl, by rw [HE0.out]; rfl, by rw [HC0.out], Below.refl _ _⟩
      case round =>
        obtain ⟨k, h1, rfl, rfl, rfl, bel⟩ := hrel
        have bel3 := bl_trans bel2 bel
        by_cases h : k < l.length
        · obtain ⟨x, hx⟩ : ∃ x, l[k]? = some x := ⟨_, List.getElem?_eq_getElem h⟩
          obtain ⟨ad, rfl, A5, c5, e0, e1, e2, e3, e4, e5, _, _, _, _, _, hl5, hm5, _⟩ := kStep_at (Kd.row_below bel3 hr) hx
          have hkI : (k : Int) < (l.length : Int) := by omega
          have hk0 : (0 : Int) ≤ (k : Int) := by omega
          have hs := endS_succ hx
          have hcs := cutsB_succ l a k
          have hb1 := HLE.out k
          have hb2 := HLE.out (k + 1)
          rw [hs] at hcs hb2
          have HS := Lib.hid hs
          have HCS := Lib.hid hcs
          obtain ⟨N, hN⟩ : ∃ N, endS l k = N := ⟨_, rfl⟩
          rw [hN] at hb1 hb2
          have HN := Lib.hid hN
          clear hs hcs
          simp only [hN]
          obtain ⟨C, hC⟩ : ∃ C, cutsB l a k = C := ⟨_, rfl⟩
          have HC := Lib.hid hC
          simp only [hC]
          clear hN hC hx e0 e1 e2 e3 e4
          cases C with
          | true =>
            go_wp2_with fail
            go_roundw
            case rel => exact ⟨k + 1, by omega, by go_num, by rw [HS.out, HN.out]; go_num, by rw [HCS.out, HC.out]; simp, bel⟩
            case measure => simp [intOf]; omega
          | false =>
            obtain ⟨D, hD⟩ : ∃ D, decide (N + 11 + x.data.length = a) = D := ⟨_, rfl⟩
            have hD2 : ((N : Int) + 11 + (x.data.length : Int) == (a : Int)) = D := by
              rw [← hD, Bool.eq_iff_iff, beq_iff_eq, decide_eq_true_eq]
              omega
            have HD := Lib.hid hD
            clear hD
            go_wp2_with fail
            go_roundw
            case rel => exact ⟨k + 1, by omega, by go_num, by rw [HS.out, HN.out]; go_num, by rw [HCS.out, HC.out, HN.out, HD.out]; simp, bel⟩
            case measure => simp [intOf]; omega
        · have hk : k = l.length := by omega
          subst hk
          have hnI : ¬ ((l.length : Int) < (l.length : Int)) := by omega
          obtain ⟨C, hC⟩ : ∃ C, cutsB l a l.length = C := ⟨_, rfl⟩
          have hcut := HCUT.out
          rw [hC] at hcut
          simp only [hC]
          clear hC h1 h
          obtain ⟨M, f, hMf⟩ : ∃ M f, readR (X.take a) = (M, f) := ⟨_, _, rfl⟩
          rw [hMf] at hcut
          dsimp only at hcut
          have hf : (f == 0) = C := by
            rw [← hcut, Bool.eq_iff_iff, beq_iff_eq, decide_eq_true_eq]
          have hrd := read_calls (X.take a) A3 a c3 wr w1.heap.size (by rw [List.length_take]; omega) (by rw [List.length_take]; omega) (by rw [List.length_take]; omega) q2 (urow_take (Kd.row_below bel row2) a)
          rw [hMf] at hrd
          dsimp only at hrd
          have HRD := Lib.hid hrd
          have ha2 : (a : Int) ≤ (c3 : Int) := by omega
          have ha3 : (0 : Int) ≤ (a : Int) := by omega
          clear hrd hMf hcut
          go_wp2_with (go_at_call 29; refine (HRD.out).mono ?_; rintro e w5 ⟨⟨v5, rfl, own5⟩, b5⟩; obtain ⟨A6, c6, rfl, _, _, _, _⟩ := Kd.own_row own5)
          go_ret
          exact ⟨by simp, bl_trans bel3 b5⟩
end Go.Proofs.Ytflfpfaebndefab
