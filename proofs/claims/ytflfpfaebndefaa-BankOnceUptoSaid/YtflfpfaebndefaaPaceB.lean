import Derived.Test.YtflfpfaebndefaaPace
namespace Go.Proofs.Ytflfpfaebndefaa
open Go.ChangeShapes Go.WideShapes Go.ChangeAt Go.RowKit
set_option linter.unusedVariables false

theorem dbl_end (top : Int) : ∀ (t : Nat) (n : Int), dbl top (t + 1) n = if dbl top t n < top then 2 * dbl top t n else dbl top t n
  | 0, n => rfl
  | t + 1, n => by
    by_cases h : n < top
    · rw [dbl, if_pos h, dbl_end top t (2 * n)]
      rw [show dbl top (t + 1) n = dbl top t (2 * n) by rw [dbl, if_pos h]]
    · rw [dbl, if_neg h, show dbl top (t + 1) n = n by rw [dbl, if_neg h], if_neg h]
theorem dbl_ge (top : Int) : ∀ (t : Nat) (n : Int), 1 ≤ n → 1 ≤ dbl top t n
  | 0, n, h => h
  | t + 1, n, h => by
    rw [dbl]
    split
    · exact dbl_ge top t (2 * n) (by omega)
    · exact h
theorem waitF_bd (b t m : Int) : 1 ≤ waitF b t m ∧ waitF b t m ≤ 1048576 ∧ (1 ≤ m → waitF b t m ≤ m) := by
  have h1 := clampT_bd m
  have h2 := dbl_ge (clampT m) t.toNat (clampT b) (clampT_bd b).1
  have h3 : 1 ≤ m → clampT m ≤ m := by unfold clampT; omega
  unfold waitF
  omega
theorem waitF_up (b t m : Int) (ht : -9223372036854775808 ≤ t) : waitF b t m ≤ waitF b (t + 1) m ∧ waitF b (t + 1) m ≤ 2 * waitF b t m := by
  have h1 := clampT_bd m
  have h2 := dbl_ge (clampT m) t.toNat (clampT b) (clampT_bd b).1
  have h4 := dbl_end (clampT m) t.toNat (clampT b)
  unfold waitF
  by_cases h : 0 ≤ t
  · rw [show (t + 1).toNat = t.toNat + 1 by omega, h4]
    split <;> omega
  · rw [show (t + 1).toNat = t.toNat by omega]
    omega

theorem alive18_calls (w : World) :
    Calls Try.prog 15 #[] w fun e w' => e = .returned (.bool true) ∧ w = w' := by
  have h1 : waitF 2 3 10 = 10 := by decide
  have h2 : waitF 2 2 10 = 8 := by decide
  go_enter Try.func15, Try.ntmps15
  go_wp2_with (go_at_call 16; refine (wait_calls _ _ _ _ (by omega) (by omega)).mono ?_; rintro e w' ⟨rfl, rfl⟩)
  all_goals go_ret
  all_goals exact ⟨rfl, rfl⟩

theorem due_calls (n b t m : Int) (w : World) (ht : -9223372036854775808 ≤ t) (ht' : t ≤ 9223372036854775807) :
    Calls Try.prog 17 #[.int .i64 n, .int .i64 b, .int .i64 t, .int .i64 m] w fun e w' => e = .returned (.int .i64 (min (max n 0) 1099511627776 + waitF b t m)) ∧ w = w' := by
  have h := waitF_bd b t m
  obtain ⟨h1, h2, h3⟩ := h
  clear h3
  go_enter Try.func17, Try.ntmps17
  go_wp2_with (go_at_call 16; refine (wait_calls _ _ _ _ (by omega) (by omega)).mono ?_; rintro e w' ⟨rfl, rfl⟩)
  all_goals go_ret
  all_goals exact ⟨ret_int (by omega), rfl⟩

theorem late_calls (n d : Int) (w : World) :
    Calls Try.prog 18 #[.int .i64 n, .int .i64 d] w fun e w' => e = .returned (.bool (decide (d ≤ n))) ∧ w = w' := by
  go_enter Try.func18, Try.ntmps18
  go_wp2
  all_goals go_ret
  all_goals exact ⟨rfl, rfl⟩

theorem rises_in (b t m : Int) (w : World) (ht : -9223372036854775808 ≤ t) (ht' : t < 1099511627776) :
    Calls Try.prog 3 #[.int .i64 b, .int .i64 t, .int .i64 m] w fun e w' => e = .returned (.bool true) ∧ w = w' := by
  obtain ⟨h1, h2, h3⟩ := waitF_bd b t m
  obtain ⟨h4, h5, h6⟩ := waitF_bd b (t + 1) m
  obtain ⟨h7, h8⟩ := waitF_up b t m ht
  go_enter Try.func3, Try.ntmps3
  go_wp2_with (first | (go_at_call 15; refine (alive18_calls _).mono ?_; rintro e w' ⟨rfl, rfl⟩) | (go_at_call 16; refine (wait_calls _ _ _ _ (by omega) (by omega)).mono ?_; rintro e w' ⟨rfl, rfl⟩))
  all_goals go_ret
  all_goals exact ⟨by first | rfl | (simp; omega), rfl⟩
theorem rises_out (b t m : Int) (w : World) (ht' : 1099511627776 ≤ t) :
    Calls Try.prog 3 #[.int .i64 b, .int .i64 t, .int .i64 m] w fun e w' => e = .returned (.bool true) ∧ w = w' := by
  obtain ⟨h1, h2, h3⟩ := waitF_bd b 5 m
  obtain ⟨h4, h5, h6⟩ := waitF_bd b 6 m
  obtain ⟨h7, h8⟩ := waitF_up b 5 m (by omega)
  simp only [Int.reduceAdd] at h7 h8
  go_enter Try.func3, Try.ntmps3
  go_wp2_with (first | (go_at_call 15; refine (alive18_calls _).mono ?_; rintro e w' ⟨rfl, rfl⟩) | (go_at_call 16; refine (wait_calls _ _ _ _ (by omega) (by omega)).mono ?_; rintro e w' ⟨rfl, rfl⟩))
  all_goals go_ret
  all_goals exact ⟨by first | rfl | (simp; omega), rfl⟩
theorem rises_walk (b t m : Int) (w : World) (ht : (Lit.int .i64 t).wf = true) :
    Calls Try.prog 3 #[.int .i64 b, .int .i64 t, .int .i64 m] w fun e w' => e = .returned (.bool true) ∧ w = w' := by
  have := int_bd ht
  by_cases h : t < 1099511627776
  · exact rises_in b t m w (by omega) h
  · exact rises_out b t m w (by omega)

theorem duelaw_in (n b t m : Int) (w : World) (h0 : 0 ≤ n) (h1 : n ≤ 1099511627776) (ht : (Lit.int .i64 t).wf = true) :
    Calls Try.prog 5 #[.int .i64 n, .int .i64 b, .int .i64 t, .int .i64 m] w fun e w' => e = .returned (.bool true) ∧ w = w' := by
  obtain ⟨h2, h3, h4⟩ := waitF_bd b t m
  have h5 := int_bd ht
  clear h4 ht
  have hm : min (max n 0) 1099511627776 = n := by omega
  have HM := Lib.hid hm
  clear hm
  go_enter Try.func5, Try.ntmps5
  go_wp2_with (first | (go_at_call 15; refine (alive18_calls _).mono ?_; rintro e w' ⟨rfl, rfl⟩) | (go_at_call 17; refine (due_calls _ _ _ _ _ (by omega) (by omega)).mono ?_; rw [HM.out]; rintro e w' ⟨rfl, rfl⟩) | (go_at_call 18; refine (late_calls _ _ _).mono ?_; rintro e w' ⟨rfl, rfl⟩))
  all_goals go_ret
  all_goals exact ⟨by first | rfl | (simp; omega), rfl⟩

theorem duelaw_out (n b t m : Int) (w : World) (h0 : n < 0 ∨ 1099511627776 < n) (ht : (Lit.int .i64 t).wf = true) :
    Calls Try.prog 5 #[.int .i64 n, .int .i64 b, .int .i64 t, .int .i64 m] w fun e w' => e = .returned (.bool true) ∧ w = w' := by
  obtain ⟨h2, h3, h4⟩ := waitF_bd b t m
  have h5 := int_bd ht
  clear h4 ht
  have hm : min (max (7 : Int) 0) 1099511627776 = 7 := by decide
  have HM := Lib.hid hm
  clear hm
  rcases h0 with h0 | h0
  · go_enter Try.func5, Try.ntmps5
    go_wp2_with (first | (go_at_call 15; refine (alive18_calls _).mono ?_; rintro e w' ⟨rfl, rfl⟩) | (go_at_call 17; refine (due_calls _ _ _ _ _ (by omega) (by omega)).mono ?_; rw [HM.out]; rintro e w' ⟨rfl, rfl⟩) | (go_at_call 18; refine (late_calls _ _ _).mono ?_; rintro e w' ⟨rfl, rfl⟩))
    all_goals go_ret
    all_goals exact ⟨by first | rfl | (simp; omega), rfl⟩
  · have h1 : ¬ n < 0 := by omega
    go_enter Try.func5, Try.ntmps5
    go_wp2_with (first | (go_at_call 15; refine (alive18_calls _).mono ?_; rintro e w' ⟨rfl, rfl⟩) | (go_at_call 17; refine (due_calls _ _ _ _ _ (by omega) (by omega)).mono ?_; rw [HM.out]; rintro e w' ⟨rfl, rfl⟩) | (go_at_call 18; refine (late_calls _ _ _).mono ?_; rintro e w' ⟨rfl, rfl⟩))
    all_goals go_ret
    all_goals exact ⟨by first | rfl | (simp; omega), rfl⟩
theorem duelaw_walk (n b t m : Int) (w : World) (ht : (Lit.int .i64 t).wf = true) :
    Calls Try.prog 5 #[.int .i64 n, .int .i64 b, .int .i64 t, .int .i64 m] w fun e w' => e = .returned (.bool true) ∧ w = w' := by
  by_cases h : 0 ≤ n ∧ n ≤ 1099511627776
  · exact duelaw_in n b t m w h.1 h.2 ht
  · exact duelaw_out n b t m w (by omega) ht

/-! PaceTells -/
theorem run_max2 {P : Program} {w : World} (ts : Array TypeId) (t : TypeId) (k k' : IntKind) (x y : Int) : (Builtin.max_ ts t #[.int k x, .int k' y]).run P w = .ok (.int k (max x y)) w := by
  rw [run_max_int2]
  congr 2
  split <;> omega
theorem run_min2 {P : Program} {w : World} (ts : Array TypeId) (t : TypeId) (k k' : IntKind) (x y : Int) : (Builtin.min_ ts t #[.int k x, .int k' y]).run P w = .ok (.int k (min x y)) w := by
  simp [Builtin.min_, Builtin.min2]
  split <;> omega
attribute [local go_sem high] run_max2 run_min2
def gdbl : Nat → Int → Int
  | 0, n => n
  | i + 1, n => min (2 * gdbl i n) 2097152
theorem gdbl_bd (n : Int) (h1 : 1 ≤ n) (h2 : n ≤ 1048576) : ∀ i, 1 ≤ gdbl i n ∧ gdbl i n ≤ 2097152
  | 0 => ⟨h1, by rw [gdbl]; omega⟩
  | i + 1 => by have := gdbl_bd n h1 h2 i; rw [gdbl]; omega
theorem dbl_cap (top : Int) (ht : 1 ≤ top) (ht' : top ≤ 1048576) : ∀ (i : Nat) (n : Int), 1 ≤ n → n ≤ 1048576 → min (gdbl i n) top = min (dbl top i n) top
  | 0, n, _, _ => rfl
  | i + 1, n, h1, h2 => by
    have ih := dbl_cap top ht ht' i n h1 h2
    have hb := gdbl_bd n h1 h2 i
    have hd := dbl_ge top i n h1
    rw [gdbl, dbl_end]
    split <;> omega
theorem dbl_big (top : Int) (ht : 1 ≤ top) : ∀ (i : Nat) (n : Int), 1 ≤ n → top ≤ n * 2 ^ i → top ≤ dbl top i n
  | 0, n, _, h => by simpa [dbl] using h
  | i + 1, n, h1, h => by
    rw [dbl]
    split
    · exact dbl_big top ht i (2 * n) (by omega) (by rw [Int.pow_succ] at h; rw [Int.mul_comm 2 n, Int.mul_assoc, Int.mul_comm 2]; exact h)
    · omega
theorem dbl_more (top : Int) (ht : 1 ≤ top) : ∀ (i j : Nat) (n : Int), 1 ≤ n → top ≤ dbl top i n → top ≤ dbl top (i + j) n
  | i, 0, n, _, h => h
  | i, j + 1, n, h1, h => by
    have := dbl_more top ht i j n h1 h
    rw [show i + (j + 1) = (i + j) + 1 by omega, dbl_end]
    split <;> omega
theorem tells_pure (b t m : Int) : min (gdbl (min (max t 0) 21).toNat (clampT b)) (clampT m) = waitF b t m := by
  have hb := clampT_bd b
  have hm := clampT_bd m
  rw [dbl_cap _ hm.1 hm.2 _ _ hb.1 hb.2]
  unfold waitF
  by_cases h : t ≤ 21
  · rw [show (min (max t 0) 21).toNat = t.toNat by omega]
  · rw [show (min (max t 0) 21).toNat = 21 by omega]
    have h1 : clampT m ≤ dbl (clampT m) 21 (clampT b) := dbl_big _ hm.1 21 _ hb.1 (by omega)
    have h2 := dbl_more (clampT m) hm.1 21 (t.toNat - 21) _ hb.1 h1
    rw [show 21 + (t.toNat - 21) = t.toNat by omega] at h2
    omega
theorem tells_walk (n b t m d : Int) (w : World) (ht : (Lit.int .i64 t).wf = true) :
    Calls Try.prog 4 #[.int .i64 n, .int .i64 b, .int .i64 t, .int .i64 m, .int .i64 d] w fun e w' => e = .returned (.bool true) ∧ w = w' := by
  have h5 := int_bd ht
  have HP := Lib.hid (tells_pure b t m)
  obtain ⟨h2, h3, h4⟩ := waitF_bd b t m
  have hcb : clampT b = min (max b 1) 1048576 := rfl
  have hcm : clampT m = min (max m 1) 1048576 := rfl
  have HB := Lib.hid hcb
  have HM := Lib.hid hcm
  have hb := clampT_bd b
  have hm := clampT_bd m
  clear h4 ht hcb hcm
  go_enter Try.func4, Try.ntmps4
  go_wp2
  rw [← HB.out, ← HM.out]
  go_loop [11, 13] (fun nv iv => ∃ i : Nat, iv = .int .i64 i ∧ (i : Int) ≤ 21 ∧ ((i : Int) ≤ max t 0) ∧ nv = .int .i64 (gdbl i (clampT b))) (fun _ iv => 21 - (intOf iv).toNat)
  case atStart => exact ⟨0, rfl, by omega, by omega, rfl⟩
  case round =>
    obtain ⟨i, rfl, h6, h7, rfl⟩ := hrel
    obtain ⟨g1, g2⟩ := gdbl_bd (clampT b) hb.1 hb.2 i
    by_cases h8 : (i : Int) < t ∧ (i : Int) < 21
    · obtain ⟨h8, h9⟩ := h8
      go_wp2
      go_round
      case rel => exact ⟨i + 1, by go_num, by omega, by omega, rfl⟩
      case measure => simp [intOf]; omega
    · have hi : (i : Int) = min (max t 0) 21 := by omega
      have e : min (gdbl i (clampT b)) (clampT m) = waitF b t m := by
        rw [← HP.out, ← hi]; rfl
      have E := Lib.hid e
      clear e hi
      have hs : decide ((i : Int) < t) = false ∨ (decide ((i : Int) < t) = true ∧ decide ((i : Int) < 21) = false) := by
        simp; omega
      rcases hs with hs | ⟨hs, hs2⟩
      all_goals
        go_wp2_with fail
        rw [E.out]
        go_wp2_with (first | (go_at_call 15; refine (alive18_calls _).mono ?_; rintro e w' ⟨rfl, rfl⟩) | (go_at_call 16; refine (wait_calls _ _ _ _ (by omega) (by omega)).mono ?_; rintro e w' ⟨rfl, rfl⟩) | (go_at_call 17; refine (due_calls _ _ _ _ _ (by omega) (by omega)).mono ?_; rintro e w' ⟨rfl, rfl⟩) | (go_at_call 18; refine (late_calls _ _ _).mono ?_; rintro e w' ⟨rfl, rfl⟩))
        all_goals go_ret
        all_goals exact ⟨by first | rfl | (simp; omega), rfl⟩
end Go.Proofs.Ytflfpfaebndefaa
