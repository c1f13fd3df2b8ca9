/- Package mootref03: short, Chain, Parts. No claim of its own; no condition. -/
import Derived.Test.YtglneailkgminaaGreatRefC
import Derived.Test.YtglneailkgminaaGreatWotF
namespace Go.Proofs.YtglneailkgminaaGreat
open Go.ChangeShapes Go.WideShapes Go.ChangeAt Go.RowKit
set_option linter.unusedVariables false
set_option linter.unusedSimpArgs false
set_option maxHeartbeats 1600000 in
set_option maxRecDepth 100000 in
theorem refshort_calls (b : List UInt8) (A : Option Addr) (n c : Nat) (w : World) (B : Nat) (hn : n = b.length) (hl : b.length ≤ 1048576) (hr : Kd.u8.Row 5 B w A b) :
    Calls Tryz.prog 40 #[.slice A n c] w fun e w' => e = .returned (.string (shS b)) ∧ Below w.heap.size w w' := by
  subst hn
  obtain ⟨F, hF⟩ : ∃ F, shaB b = F := ⟨_, rfl⟩
  have hs := refsha_calls b A b.length c w B rfl hl hr
  obtain ⟨S, hS⟩ : ∃ S, sb F = S := ⟨_, rfl⟩
  have hz : (8 : Int) ≤ (S.size : Int) := by rw [← hS, sb_size, ← hF, shaB_len]; omega
  have hz2 : 8 ≤ S.size := by omega
  have hx : S.extract 0 8 = shS b := by rw [← hS, ← hF]; exact shS_ext _
  rw [hF] at hs
  have HS := Lib.hid hs
  have HX := Lib.hid hx
  have HSS := Lib.hid hS
  clear hs hx hF hS
  go_enter Tryz.func40, Tryz.ntmps40
  go_wp2_with (first
    | (go_at_call 71; refine (HS.out).mono ?_; rintro e w1 ⟨⟨v1, rfl, own1⟩, b1⟩; obtain ⟨A1, c1, rfl, l1, m1, r1, _⟩ := Kd.own_row own1; have hrun := run_str Tryz.underlying41 Tryz.underlying5 Tryz.underlying9 r1 c1; rw [HSS.out] at hrun))
  go_ret
  exact ⟨by rw [HX.out]; rfl, b1⟩
set_option maxHeartbeats 3200000 in
set_option maxRecDepth 100000 in
theorem refchain_calls (s : ByteArray) (n : Nat) (w : World) (hn : n ≤ 3) (hs : s.size ≤ 4096) :
    Calls Tryz.prog 42 #[.string s, .int .i64 (n : Int)] w fun e w' => e = .returned (.string (chF s n)) ∧ Below w.heap.size w w' := by
  go_enter Tryz.func42, Tryz.ntmps42
  go_wp2_with fail
  go_loopw [0, 5] (fun sv kv w' => ∃ k : Nat, k ≤ n ∧ kv = .int .i64 k ∧ sv = .string (chF s k) ∧ Below w.heap.size w w') (fun _ kv _ => n - (intOf kv).toNat)
  case atStart => exact ⟨0, by omega, rfl, rfl, Below.refl _ _⟩
  case round =>
    obtain ⟨k, hk, rfl, rfl, bel⟩ := hrel
    by_cases h : k < n
    · have hkI : (k : Int) < (n : Int) := by omega
      have hk3 : (k : Int) < 3 := by omega
      have hz := chF_size hs k
      have hnx : chF s (k + 1) = shS (bl (chF s k)) := rfl
      obtain ⟨S, hS⟩ : ∃ S, chF s k = S := ⟨_, rfl⟩
      rw [hS] at hz hnx
      simp only [hS]
      have HN := Lib.hid hnx
      have hz2 : (bl S).length ≤ 1048576 := by rw [bl_len]; omega
      clear hS hnx
      obtain ⟨c1, W1, hrun, l1, m1, bw1, rw1⟩ := oct_law Tryz.underlying9 Tryz.underlying41 Tryz.underlying5 wr S (by omega)
      go_wp2_with (go_at_call 40; refine (refshort_calls (bl S) _ _ c1 W1 0 rfl hz2 (rw1 0)).mono ?_; rintro e w2 ⟨rfl, b2⟩)
      go_roundw
      case rel => exact ⟨k + 1, by omega, by go_num, by rw [HN.out], bl_trans (bl_trans bel bw1) b2⟩
      case measure => simp [intOf]; omega
    · have hk' : k = n := by omega
      subst hk'
      have hnI : ¬ ((k : Int) < (k : Int)) := by omega
      go_wp2_with fail
      go_ret
      exact ⟨rfl, bel⟩
theorem digF3 (u : Nat) (hu : u ≤ 63) : digF u 3 = [(u : Int) / 16 % 4, (u : Int) / 4 % 4, (u : Int) % 4] := by
  show [((u / 4 ^ 2 % 4 : Nat) : Int), ((u / 4 ^ 1 % 4 : Nat) : Int), ((u / 4 ^ 0 % 4 : Nat) : Int)] = _
  simp
set_option maxHeartbeats 3200000 in
set_option maxRecDepth 100000 in
theorem refparts_calls (t : List UInt8) (A : Option Addr) (n c : Nat) (w : World) (B : Nat) (hn : n = t.length) (hl : t.length ≤ 1048576) (hr : Kd.u8.Row 5 B w A t) :
    Calls Tryz.prog 41 #[.slice A n c] w fun e w' => (∃ v, e = .returned v ∧ Kd.int.Own 3 w.heap.size w' w.heap.size v (partsL t)) ∧ Below w.heap.size w w' := by
  subst hn
  obtain ⟨i0, hi, hz0, hz1, hz2⟩ := info_parts info_i64
  obtain ⟨S, hS⟩ : ∃ S, shaB t = S := ⟨_, rfl⟩
  have hSl : S.length = 32 := by rw [← hS]; exact shaB_len t
  obtain ⟨x0, hx0⟩ : ∃ x, S[0]? = some x := ⟨_, List.getElem?_eq_getElem (by omega)⟩
  obtain ⟨x1, hx1⟩ : ∃ x, S[1]? = some x := ⟨_, List.getElem?_eq_getElem (by omega)⟩
  obtain ⟨pn, hpn⟩ : ∃ pn, partN t = pn := ⟨_, rfl⟩
  have hpx : x0.toNat * 256 + x1.toNat = pn := by rw [← hpn]; unfold partN; rw [hS, List.getD_eq_getElem?_getD, List.getD_eq_getElem?_getD, hx0, hx1]; rfl
  have hpl : pn < 65536 := by rw [← hpn]; exact partN_lt t
  obtain ⟨D, hD⟩ : ∃ D, digF pn 8 = D := ⟨_, rfl⟩
  have hDl : D.length = 8 := by rw [← hD]; exact digF_len _ _
  have hDb : ∀ x ∈ D, 0 ≤ x ∧ x ≤ 3 := by rw [← hD]; exact digF_bd _ _
  have hDg : ∀ k, k < 8 → D[k]? = some ((pn / 4 ^ (7 - k) % 4 : Nat) : Int) := fun k h => by rw [← hD]; exact digF_get pn 8 k h
  have hp : partsL t = D ++ digF (sumD D).toNat 3 := by unfold partsL; rw [hpn, hD]
  have hsum := refsha_calls t A t.length c w B rfl hl hr
  rw [hS] at hsum
  have HSUM := Lib.hid hsum
  have HSL := Lib.hid hSl
  have HX0 := Lib.hid hx0
  have HX1 := Lib.hid hx1
  have HDL := Lib.hid hDl
  have HDB := Lib.hid hDb
  have HDG := Lib.hid hDg
  have HP := Lib.hid hp
  have hpxI : (x0.toNat : Int) * 256 + (x1.toNat : Int) = (pn : Int) := by omega
  have b0 := x0.toNat_lt
  have b1' := x1.toNat_lt
  have HPX := Lib.hid hpxI
  have HPL := Lib.hid hpl
  clear hsum hS hSl hx0 hx1 hpn hpx hD hDl hDb hDg hp hpxI hr
  go_enter Tryz.func41, Tryz.ntmps41
  go_upto_region 2 with (go_at_call 71; refine (HSUM.out).mono ?_; rintro e w1 ⟨⟨v1, rfl, own1⟩, b1⟩)
  obtain ⟨A1, c1, rfl, l1, m1, r1, _⟩ := Kd.own_row own1
  rw [HSL.out] at l1 ⊢
  obtain ⟨ad, rfl, d0⟩ := u8_at r1 HX0.out
  obtain ⟨_, e1, d1⟩ := u8_at r1 HX1.out
  cases e1
  have dd1 : w1.cell? ⟨ad.block, ad.off + 1, none⟩ = some (.int .u8 (x1.toNat : Int)) := cell_off (n := 0) d1
  have dd0 : w1.cell? ad = some (.int .u8 (x0.toNat : Int)) := by simpa [Addr.add] using d0
  have wb : IntKind.i64.wrap ((x0.toNat : Int) * 256) = (x0.toNat : Int) * 256 := IntWalk.i64_in _ (by omega)
  have wc : IntKind.i64.wrap ((x0.toNat : Int) * 256 + (x1.toNat : Int)) = (x0.toNat : Int) * 256 + (x1.toNat : Int) := IntWalk.i64_in _ (by omega)
  have l32 : (0 : Int) < 32 := by omega
  go_quiet (fail)
  simp only [HPX.out]
  have B2 : Below w.heap.size w (w1.drewN nq) := bl_drewN b1 nq
  clear own1 r1 d0 d1 dd0 dd1 wb wc l32 b1
  generalize w1.drewN nq = W2 at *
  have hpl := HPL.out
  have own0 : Kd.int.Own 3 w.heap.size W2 w.heap.size (.slice none 0 0) (D.take 0) := Kd.own_nil _ _ _ _ _
  go_wp2_with fail
  go_loopw [5, 6, 7] (fun ov sv kv w' => ∃ k : Nat, k ≤ 8 ∧ kv = .int .i64 (7 - (k : Int)) ∧ sv = .int .i64 (sumD (D.take k)) ∧ Kd.int.Own 3 w.heap.size w' w.heap.size ov (D.take k) ∧ Below w.heap.size w w') (fun _ _ kv _ => (intOf kv + 1).toNat)
  case atStart => exact ⟨0, by omega, rfl, rfl, own0, B2⟩
  case round =>
    clear own0 B2
    obtain ⟨k, hk, rfl, rfl, own, bel⟩ := hrel
    have hb := sumD_bd (D.take k) fun y hy => HDB.out y (List.mem_of_mem_take hy)
    have hb3 : ((D.take k).length : Int) ≤ 8 := by rw [List.length_take, HDL.out]; omega
    by_cases h : k < 8
    · obtain ⟨j, hj⟩ : ∃ j : Nat, 7 - k = j := ⟨_, rfl⟩
      have hjI : (7 : Int) - (k : Int) = (j : Int) := by omega
      have hx := HDG.out k h
      rw [hj] at hx
      have hd : (pn : Int) / 2 ^ (2 * j) = ((pn / 4 ^ j : Nat) : Int) := by rw [Int.pow_mul]; simp
      obtain ⟨x, hxx⟩ : ∃ x : Int, ((pn / 4 ^ j % 4 : Nat) : Int) = x := ⟨_, rfl⟩
      rw [hxx] at hx
      have hxv : (pn : Int) / 2 ^ (2 * j) % 4 = x := by rw [hd, ← hxx]; simp
      have hx0 : 0 ≤ x := by omega
      have hx3 : x ≤ 3 := by omega
      have hs : sumD (D.take (k + 1)) = sumD (D.take k) + (3 - x) := by rw [List.take_add_one, hx]; exact sumD_snoc _ _
      have ht : D.take (k + 1) = D.take k ++ [x] := by rw [List.take_add_one, hx]; rfl
      have hlo : (D.take k).length ≤ 8 := by omega
      have hj7 : j ≤ 7 := by omega
      have hlt : (pn : Int) / 2 ^ (2 * j) ≤ 65535 := by
        rw [hd]
        have := Nat.div_le_self pn (4 ^ j)
        omega
      have hge : 0 ≤ (pn : Int) / 2 ^ (2 * j) := by rw [hd]; exact Int.natCast_nonneg _
      have hnx : (j : Int) - 1 = 7 - ((k + 1 : Nat) : Int) := by omega
      simp only [hjI]
      obtain ⟨U, hU⟩ : ∃ U, sumD (D.take k) = U := ⟨_, rfl⟩
      simp only [hU] at hs hb ⊢
      obtain ⟨T, hT⟩ : ∃ T, D.take k = T := ⟨_, rfl⟩
      rw [hT] at own ht hlo
      have hU2 : U ≤ 24 := by omega
      have hU0 : 0 ≤ U := by omega
      have HS := Lib.hid hs
      have HT := Lib.hid ht
      have HJ := Lib.hid hnx
      clear hs ht hU hx hd hxx hT hj hjI hnx hb hb3
      have al := bl_alloc (Below.refl wr.heap.size wr) (.cells #[.int .i64 x] 3)
      have ownA := Kd.own_below own al
      have belA := bl_trans bel al
      have row1 : Kd.int.Row 3 w.heap.size (wr.alloc (.cells #[.int .i64 x] 3)) (some ⟨wr.heap.size, 0, none⟩) [x] := Kd.row_fresh1 (show Kd.int.K _ _ _ [_] from ⟨rfl, by unfold IntOk; omega⟩)
      obtain ⟨Ao, no, co, rfl⟩ := k_some (k_own own)
      go_wp2_with ((at_builtin; refine wpList_append_row _ rfl (.tmp 31) (.tmp 33) 78 rfl Kd.int w.heap.size w.heap.size 3 i0 _ 8 Tryz.underlying78 hi hz0 hz1 hz2 rfl (by decide) _ T rfl ownA _ _ _ [x] rfl rfl row1 (by simp only [List.length_cons, List.length_nil]; omega) (by decide) belA.size (Nat.le_refl _) (by decide) ?_; intro v4 w4 own4 grw4 at4; have bel4 := Kd.own_step belA ownA grw4))
      go_roundw
      case rel => exact ⟨k + 1, by omega, by rw [HJ.out], by rw [HS.out]; exact congrArg (Value.int .i64) (by omega), (by rw [HT.out]; exact own4), bel4⟩
      case measure => first | (simp [intOf]; done) | (simp [intOf]; omega)
    · obtain rfl : k = 8 := by omega
      rw [List.take_of_length_le (by rw [HDL.out]; omega)] at own hb ⊢
      have e1 : (7 : Int) - ((8 : Nat) : Int) = -1 := rfl
      simp only [e1]
      obtain ⟨U, hU⟩ : ∃ U : Nat, (sumD D).toNat = U := ⟨_, rfl⟩
      have hdl := HDL.out
      have hUI : sumD D = (U : Int) := by omega
      have hU24 : U ≤ 24 := by omega
      have hp2 := HP.out
      rw [hU, digF3 U (by omega)] at hp2
      have HP2 := Lib.hid hp2
      have HDL2 := Lib.hid hdl
      rw [hUI]
      clear hUI hU hb hb3 hp2 hdl e1 h hk
      have al := bl_alloc (Below.refl wr.heap.size wr) (.cells #[.int .i64 ((U : Int) / 16 % 4), .int .i64 ((U : Int) / 4 % 4), .int .i64 ((U : Int) % 4)] 3)
      have ownA := Kd.own_below own al
      have belA := bl_trans bel al
      have row3 : Kd.int.Row 3 w.heap.size (wr.alloc (.cells #[.int .i64 ((U : Int) / 16 % 4), .int .i64 ((U : Int) / 4 % 4), .int .i64 ((U : Int) % 4)] 3)) (some ⟨wr.heap.size, 0, none⟩) [(U : Int) / 16 % 4, (U : Int) / 4 % 4, (U : Int) % 4] :=
        Kd.row_fresh rfl (.cons (show Kd.int.K _ _ _ [_] from ⟨rfl, by unfold IntOk; omega⟩) (.cons (show Kd.int.K _ _ _ [_] from ⟨rfl, by unfold IntOk; omega⟩) (.cons (show Kd.int.K _ _ _ [_] from ⟨rfl, by unfold IntOk; omega⟩) .nil)))
      obtain ⟨Ao, no, co, rfl⟩ := k_some (k_own own)
      go_wp2_with ((at_builtin; refine wpList_append_row _ rfl (.tmp 39) (.tmp 48) 78 rfl Kd.int w.heap.size w.heap.size 3 i0 _ 8 Tryz.underlying78 hi hz0 hz1 hz2 rfl (by decide) _ D rfl ownA _ _ _ [(U : Int) / 16 % 4, (U : Int) / 4 % 4, (U : Int) % 4] rfl rfl row3 (by rw [HDL2.out]; simp only [List.length_cons, List.length_nil]; omega) (by decide) belA.size (Nat.le_refl _) (by decide) ?_; intro v4 w4 own4 grw4 at4; have bel4 := Kd.own_step belA ownA grw4))
      go_ret
      exact ⟨⟨_, rfl, by rw [HP2.out]; exact own4⟩, bel4⟩
end Go.Proofs.YtglneailkgminaaGreat
