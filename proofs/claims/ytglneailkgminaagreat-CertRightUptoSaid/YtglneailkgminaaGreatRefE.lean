/- Package mootref03: Open, Climb. No claim of its own; no condition. -/
import Derived.Test.YtglneailkgminaaGreatRefD
import Derived.Test.YtglneailkgminaaGreatInvT
import Derived.Test.YtglneailkgminaaGreatSigB
namespace Go.Proofs.YtglneailkgminaaGreat
open Go.ChangeShapes Go.WideShapes Go.ChangeAt Go.RowKit
set_option linter.unusedVariables false
set_option linter.unusedSimpArgs false
def ropG (ae ad : Addr) (v0 : Value) (k c' c1 dl : Nat) (x Y : ByteArray) (d : Int) (m : Nat) : Nat → Value → World → Prop
  | 0, v, _ => v = v0
  | 1, v, _ => v = .slice (some ae) 11 c'
  | 2, v, _ => v = .int .i64 (k : Nat)
  | 3, v, _ => v = .pointer (some (ae.add k))
  | 4, v, _ => v = .string x
  | 5, v, _ => v = .slice (some ad) dl c1
  | 6, v, _ => v = .int .i64 (k : Nat)
  | 7, v, _ => v = .pointer (some (ad.add k))
  | 8, v, _ => v = .int .i64 d
  | 9, v, _ => v = .int .i64 (m : Nat)
  | 10, v, _ => v = .string Y
  | _, _, _ => True
set_option maxHeartbeats 3200000 in
set_option maxRecDepth 100000 in
theorem refopen_calls (t : List UInt8) (ps : List ByteArray) (A A' : Option Addr) (n n' c c' : Nat) (w : World) (B B' : Nat) (hn : n = t.length) (hl : t.length ≤ 1048576) (hr : Kd.u8.Row 5 B w A t)
    (hn' : n' = 11) (hp : ps.length = 11) (h8 : ∀ x ∈ ps, x.size = 8) (hr' : Kd.str.Row 9 B' w A' ps) :
    Calls Tryz.prog 23 #[.slice A n c, .slice A' n' c'] w fun e w' => e = .returned (.string (openF t ps)) ∧ Below w.heap.size w w' := by
  subst hn hn'
  obtain ⟨i0, hi, hz0, hz1, hz2⟩ := info_parts info_u8
  obtain ⟨D, hD⟩ : ∃ D, partsL t = D := ⟨_, rfl⟩
  have hDl : D.length = 11 := by rw [← hD]; exact partsL_len t
  have hDb : ∀ x ∈ D, 0 ≤ x ∧ x ≤ 3 := by rw [← hD]; exact partsL_bd t
  obtain ⟨C, hC⟩ : ∃ C, chs ps D = C := ⟨_, rfl⟩
  have hCl : C.length = 11 := by rw [← hC, chs_len, hp, hDl]; rfl
  have hC8 : ∀ x ∈ C, x.size = 8 := by rw [← hC]; exact chs_eight h8
  have hCg : ∀ (i : Nat) (p : ByteArray) (d : Int), ps[i]? = some p → D[i]? = some d → C[i]? = some (chF p (3 - d).toNat) := fun i p d h1 h2 => by rw [← hC]; exact chs_get h1 h2
  have hfin : openF t ps = shS (C.flatMap bl) := by unfold openF; rw [hD, hC]
  have hpart := refparts_calls t A t.length c w B rfl hl hr
  rw [hD] at hpart
  have hfl : (C.flatMap bl).length = 88 := by rw [flat8 hC8, hCl]
  have HPART := Lib.hid hpart
  have HDL := Lib.hid hDl
  have HDB := Lib.hid hDb
  have HCL := Lib.hid hCl
  have HCG := Lib.hid hCg
  have HF := Lib.hid hfin
  have HFL := Lib.hid hfl
  have H8 := Lib.hid h8
  have HPL := Lib.hid hp
  have hD11 : D.length ≤ 11 := by omega
  clear hD hDl hDb hC hCl hC8 hCg hfin hpart h8 hp hr hfl
  go_enter Tryz.func23, Tryz.ntmps23
  go_wp2_with ((go_at_call 41; refine (HPART.out).mono ?_; rintro e w1 ⟨⟨v1, rfl, own1⟩, b1⟩; obtain ⟨A1, c1, rfl, _, _, r1, _⟩ := Kd.own_row own1))
  have own0 : Kd.u8.Own 5 w1.heap.size w1 w1.heap.size (.slice none 0 0) ((C.take 0).flatMap bl) := Kd.own_nil _ _ _ _ _
  clear own1
  go_loopw [6, 7] (fun ov kv w' => ∃ k : Nat, k ≤ 11 ∧ kv = .int .i64 k ∧ Kd.u8.Own 5 w1.heap.size w' w1.heap.size ov ((C.take k).flatMap bl) ∧ Below w1.heap.size w1 w') (fun _ kv _ => 11 - (intOf kv).toNat)
  case atStart => exact ⟨0, by omega, rfl, own0, Below.refl _ _⟩
  case round =>
    clear own0
    obtain ⟨k, hk, rfl, own, bel⟩ := hrel
    have bel2 : Below w.heap.size w wr := bl_trans b1 bel
    by_cases h : k < 11
    · obtain ⟨d, hd⟩ : ∃ x, D[k]? = some x := ⟨_, List.getElem?_eq_getElem (by rw [HDL.out]; omega)⟩
      obtain ⟨x, hx⟩ : ∃ x, ps[k]? = some x := ⟨_, List.getElem?_eq_getElem (by rw [HPL.out]; omega)⟩
      obtain ⟨ad, rfl, c0, _⟩ := int_at (Kd.row_below bel r1) hd
      obtain ⟨ae, rfl, e0⟩ := str_at (Kd.row_below bel2 hr') hx
      have hdb := HDB.out d (List.mem_of_getElem? hd)
      have hx8 := H8.out x (List.mem_of_getElem? hx)
      have hxb : ((x.size : Int) != 8) = false := by rw [hx8]; rfl
      have hCk := HCG.out k x d hx hd
      obtain ⟨m, hm⟩ : ∃ m : Nat, (3 - d) = (m : Int) := ⟨(3 - d).toNat, by omega⟩
      rw [hm, Int.toNat_natCast] at hCk
      have hs : (C.take (k + 1)).flatMap bl = (C.take k).flatMap bl ++ bl (chF x m) := flatm_take bl hCk
      have hm3 : m ≤ 3 := by omega
      have hw : IntKind.i64.wrap (3 - d) = (m : Int) := by rw [hm]; exact IntWalk.i64_in _ (by omega)
      have hch := fun W => refchain_calls x m W hm3 (by omega)
      obtain ⟨Y, hY⟩ : ∃ Y, chF x m = Y := ⟨_, rfl⟩
      rw [hY] at hs hch
      have hle := flatm_le bl C (k + 1)
      rw [hs, List.length_append, bl_len, HFL.out] at hle
      obtain ⟨T, hT⟩ : ∃ T, (C.take k).flatMap bl = T := ⟨_, rfl⟩
      rw [hT] at hs hle own
      have HT := Lib.hid hs
      have HCH := Lib.hid hch
      have HM := Lib.hid hw
      have hle2 : T.length + Y.size ≤ 88 := by omega
      have hk0 : (0 : Int) ≤ (k : Int) := by omega
      have hkI : (k : Int) < 11 := by omega
      have hkD : (k : Int) < (D.length : Int) := by rw [HDL.out]; omega
      have hd0 : 0 ≤ d := hdb.1
      have hd3 : d ≤ 3 := hdb.2
      clear hs hT hx hd hx8 hCk hY hch hdb hm hw hle
      obtain ⟨Ao, no, co, rfl⟩ := k_some (k_own own)
      go_upto_region 10 with fail
      refine wp_region_any (by kernel_rfl) ?_
      refine wpAny_invt' [true, true, true, true, true, true, true, true, true, true, true, false, false] [11, 12] (by kernel_rfl) (by kernel_rfl) Rb (ropG ae ad (.slice Ao no co) k c' c1 D.length x Y d m) rb_refl rb_trans ⟨?_, ?_, ?_, ?_, ?_, ?_, ?_, ?_, ?_, ?_, ?_, trivial⟩ ?_
      · intro u w1 hR hdep K hK
        rw [if_pos (by rfl)]
        simp only [frameM, frameM_nil, Act.put, List.setIfInBounds_toArray, List.set_cons_zero, List.set_cons_succ, Nat.reduceAdd] at hK ⊢
        clear hdep
        go_simp
        refine hK _ _ (rb_refl _) fun w3 h3 => ?_
        exact rfl
      · intro u w1 hR hdep K hK
        rw [if_pos (by rfl)]
        simp only [frameM, frameM_nil, Act.put, List.setIfInBounds_toArray, List.set_cons_zero, List.set_cons_succ, Nat.reduceAdd] at hK ⊢
        clear hdep
        go_simp
        refine hK _ _ (rb_refl _) fun w3 h3 => ?_
        exact rfl
      · intro u w1 hR hdep K hK
        rw [if_pos (by rfl)]
        simp only [frameM, frameM_nil, Act.put, List.setIfInBounds_toArray, List.set_cons_zero, List.set_cons_succ, Nat.reduceAdd] at hK ⊢
        clear hdep
        go_simp
        refine hK _ _ (rb_refl _) fun w3 h3 => ?_
        exact rfl
      · intro u w1 hR hdep K hK
        rw [if_pos (by rfl)]
        simp only [frameM, frameM_nil, Act.put, List.setIfInBounds_toArray, List.set_cons_zero, List.set_cons_succ, Nat.reduceAdd] at hK ⊢
        have u1 : u 1 = .slice (some ae) 11 c' := hdep 1 (by kernel_rfl) w1 (rb_refl _)
        have u2 : u 2 = .int .i64 (k : Nat) := hdep 2 (by kernel_rfl) w1 (rb_refl _)
        simp only [u1, u2] at hK ⊢
        clear u1 u2 hdep
        go_simp
        refine hK _ _ (rb_refl _) fun w3 h3 => ?_
        exact rfl
      · intro u w1 hR hdep K hK
        rw [if_pos (by rfl)]
        simp only [frameM, frameM_nil, Act.put, List.setIfInBounds_toArray, List.set_cons_zero, List.set_cons_succ, Nat.reduceAdd] at hK ⊢
        have u3 : u 3 = .pointer (some (ae.add k)) := hdep 3 (by kernel_rfl) w1 (rb_refl _)
        have cr := cell_below hR e0
        simp only [u3] at hK ⊢
        clear u3 hdep
        go_simp
        refine hK _ _ (rb_refl _) fun w3 h3 => ?_
        exact rfl
      · intro u w1 hR hdep K hK
        rw [if_pos (by rfl)]
        simp only [frameM, frameM_nil, Act.put, List.setIfInBounds_toArray, List.set_cons_zero, List.set_cons_succ, Nat.reduceAdd] at hK ⊢
        clear hdep
        go_simp
        refine hK _ _ (rb_refl _) fun w3 h3 => ?_
        exact rfl
      · intro u w1 hR hdep K hK
        rw [if_pos (by rfl)]
        simp only [frameM, frameM_nil, Act.put, List.setIfInBounds_toArray, List.set_cons_zero, List.set_cons_succ, Nat.reduceAdd] at hK ⊢
        clear hdep
        go_simp
        refine hK _ _ (rb_refl _) fun w3 h3 => ?_
        exact rfl
      · intro u w1 hR hdep K hK
        rw [if_pos (by rfl)]
        simp only [frameM, frameM_nil, Act.put, List.setIfInBounds_toArray, List.set_cons_zero, List.set_cons_succ, Nat.reduceAdd] at hK ⊢
        have u5 : u 5 = .slice (some ad) D.length c1 := hdep 5 (by kernel_rfl) w1 (rb_refl _)
        have u6 : u 6 = .int .i64 (k : Nat) := hdep 6 (by kernel_rfl) w1 (rb_refl _)
        simp only [u5, u6] at hK ⊢
        clear u5 u6 hdep
        go_simp
        refine hK _ _ (rb_refl _) fun w3 h3 => ?_
        exact rfl
      · intro u w1 hR hdep K hK
        rw [if_pos (by rfl)]
        simp only [frameM, frameM_nil, Act.put, List.setIfInBounds_toArray, List.set_cons_zero, List.set_cons_succ, Nat.reduceAdd] at hK ⊢
        have u7 : u 7 = .pointer (some (ad.add k)) := hdep 7 (by kernel_rfl) w1 (rb_refl _)
        have cr := cell_below hR c0
        simp only [u7] at hK ⊢
        clear u7 hdep
        go_simp
        refine hK _ _ (rb_refl _) fun w3 h3 => ?_
        exact rfl
      · intro u w1 hR hdep K hK
        rw [if_pos (by rfl)]
        simp only [frameM, frameM_nil, Act.put, List.setIfInBounds_toArray, List.set_cons_zero, List.set_cons_succ, Nat.reduceAdd] at hK ⊢
        have u8 : u 8 = .int .i64 d := hdep 8 (by kernel_rfl) w1 (rb_refl _)
        have hsub : IntKind.i64.wrap (3 - d) = (m : Int) := HM.out
        simp only [u8] at hK ⊢
        clear u8 hdep
        go_simp
        refine hK _ _ (rb_refl _) fun w3 h3 => ?_
        exact rfl
      · intro u w1 hR hdep K hK
        rw [if_pos (by rfl)]
        simp only [frameM, frameM_nil, Act.put, List.setIfInBounds_toArray, List.set_cons_zero, List.set_cons_succ, Nat.reduceAdd] at hK ⊢
        have u4 : u 4 = .string x := hdep 4 (by kernel_rfl) w1 (rb_refl _)
        have u9 : u 9 = .int .i64 (m : Nat) := hdep 9 (by kernel_rfl) w1 (rb_refl _)
        simp only [u4, u9] at hK ⊢
        clear u4 u9 hdep
        go_simp
        refine (HCH.out _).mono ?_
        rintro e w2 ⟨rfl, b2⟩
        refine hK _ _ b2 fun w3 h3 => ?_
        exact rfl
      · intro u w2 hR hall
        have h0 : u 0 = .slice Ao no co := hall 0 rfl
        have h10 : u 10 = .string Y := hall 10 rfl
        have hb2 : Below wr.heap.size wr w2 := bl_trans (bl_drew (Below.refl _ _)) hR
        have own2 := Kd.own_below own hb2
        have belx := bl_trans bel hb2
        change wpList _ _ _ (_ :: [_]) _ _
        simp only [frameM, frameM_nil, Act.put, List.setIfInBounds_toArray, List.set_cons_zero, List.set_cons_succ, Nat.reduceAdd, h0, h10]
        clear hall h0 h10 c0 e0
        go_wp2_with ((at_builtin; refine wpList_append_str rfl (.tmp 23) (.tmp 33) 41 9 rfl w1.heap.size w1.heap.size 5 i0 Tryz.underlying41 Tryz.underlying9 hi hz0 hz1 hz2 _ T rfl own2 Y rfl (by omega) belx.size (Nat.le_refl _) ?_; intro v4 w4 own4 grw4; have bel4 := Kd.own_step belx own2 grw4))
        go_roundw
        case rel => exact ⟨k + 1, by omega, by go_num, (by rw [HT.out]; exact own4), bel4⟩
        case measure => simp [intOf]; omega
    · obtain rfl : k = 11 := by omega
      rw [List.take_of_length_le (by rw [HCL.out]; omega)] at own
      have hfl : (C.flatMap bl).length ≤ 1048576 := by rw [HFL.out]; omega
      obtain ⟨T, hT⟩ : ∃ T, C.flatMap bl = T := ⟨_, rfl⟩
      rw [hT] at own hfl
      have hend : ∀ (W : World) (Ao : Option Addr) (co : Nat), Kd.u8.Row 5 w1.heap.size W Ao T → Calls Tryz.prog 40 #[.slice Ao T.length co] W fun e w' => e = .returned (.string (openF t ps)) ∧ Below W.heap.size W w' := fun W Ao co h => by
        rw [HF.out, hT]
        exact refshort_calls T Ao T.length co W _ rfl hfl h
      have HEND := Lib.hid hend
      clear hend hfl hT
      obtain ⟨Ao, co, rfl, _, _, rO, _⟩ := Kd.own_row own
      go_wp2_with ((go_at_call 40; refine (HEND.out _ Ao co rO).mono ?_; rintro e w5 ⟨rfl, b5⟩))
      go_ret
      exact ⟨rfl, bl_trans bel2 b5⟩
set_option maxHeartbeats 3200000 in
set_option maxRecDepth 100000 in
theorem refclimb_calls (leaf : ByteArray) (a : Nat) (path : List ByteArray) (A : Option Addr) (n c : Nat) (w : World) (B : Nat) (hn : n = path.length) (hl : path.length ≤ 1048576) (hz : leaf.size ≤ 4096) (ha : a ≤ 65536) (hp : ∀ x ∈ path, x.size ≤ 4096) (hr : Kd.str.Row 9 B w A path) :
    Calls Tryz.prog 22 #[.string leaf, .int .i64 (a : Int), .slice A n c] w fun e w' => e = .returned (.string (climbF leaf a path)) ∧ Below w.heap.size w w' := by
  subst hn
  have hmx : ∀ w : World, (Builtin.max_ #[3, 3] 3 #[.int .i64 (a : Int), .int .i64 0]).run Tryz.prog w = .ok (.int .i64 (a : Int)) w := fun w => by rw [run_max2, Int.max_eq_left (by omega)]
  have HP := Lib.hid hp
  clear hp
  go_enter Tryz.func22, Tryz.ntmps22
  go_wp2_with fail
  clear hmx
  go_loopw [0, 1, 7] (fun sv av kv w' => ∃ k : Nat, k ≤ path.length ∧ kv = .int .i64 k ∧ sv = .string (climbS leaf a (path.take k)).1 ∧ av = .int .i64 ((climbS leaf a (path.take k)).2 : Nat) ∧ Below w.heap.size w w') (fun _ _ kv _ => path.length - (intOf kv).toNat)
  case atStart => exact ⟨0, by omega, rfl, rfl, rfl, Below.refl _ _⟩
  case round =>
    obtain ⟨k, hk, rfl, rfl, rfl, bel⟩ := hrel
    by_cases h : k < path.length
    · obtain ⟨x, hx⟩ : ∃ x, path[k]? = some x := ⟨_, List.getElem?_eq_getElem h⟩
      obtain ⟨ad, rfl, c0⟩ := str_at (Kd.row_below bel hr) hx
      have hx4 := HP.out x (List.mem_of_getElem? hx)
      have hnx := climbS_take leaf a hx
      have hbd := climbS_bd leaf a hz (path.take k)
      obtain ⟨st, hst⟩ : ∃ st, climbS leaf a (path.take k) = st := ⟨_, rfl⟩
      rw [hst] at hnx hbd
      simp only [hst]
      obtain ⟨S, b⟩ := st
      obtain ⟨hb1, hb2⟩ := hbd
      dsimp only at hb1 hb2 ⊢
      have hkI : (k : Int) < (path.length : Int) := by omega
      have hk0 : (0 : Int) ≤ (k : Int) := by omega
      have hb3 : b ≤ 65536 := by omega
      obtain ⟨h2, hh2⟩ : ∃ h2, b / 2 = h2 := ⟨_, rfl⟩
      have hd2 : (b : Int) / 2 = (h2 : Int) := by omega
      have lS : (bl S).length ≤ 4096 := hb1
      have lx : (bl x).length ≤ 4096 := hx4
      by_cases hodd : b % 2 = 1
      · have hm : (b : Int) % 2 = 1 := by omega
        obtain ⟨Z, hZ⟩ : ∃ Z, x ++ S = Z := ⟨_, rfl⟩
        have hblZ : bl Z = bl x ++ bl S := by rw [← hZ]; show (x ++ S).data.toList = _; rw [ByteArray.data_append, Array.toList_append]; rfl
        have hZs : Z.size ≤ 1048576 := by rw [← bl_len, hblZ, List.length_append]; omega
        have hnx2 : climbS leaf a (path.take (k + 1)) = (shS (bl Z), h2) := by rw [hnx]; unfold stepC; rw [if_pos hodd, hh2, hblZ]
        have HN := Lib.hid hnx2
        obtain ⟨c1, W1, hrun, l1, m1, bw1, rw1⟩ := oct_law Tryz.underlying9 Tryz.underlying41 Tryz.underlying5 wr Z hZs
        have hzl : (bl Z).length ≤ 1048576 := hZs
        clear hnx hnx2 hst hx hodd hb2 hh2 hblZ
        go_wp2_with (go_at_call 40; refine (refshort_calls (bl Z) _ _ c1 W1 0 rfl hzl (rw1 0)).mono ?_; rintro e w3 ⟨rfl, b3⟩)
        go_roundw
        case rel => exact ⟨k + 1, by omega, by go_num, by rw [HN.out], by rw [HN.out], bl_trans (bl_trans bel bw1) b3⟩
        case measure => simp [intOf]; omega
      · have hm : (b : Int) % 2 = 0 := by omega
        obtain ⟨Z, hZ⟩ : ∃ Z, S ++ x = Z := ⟨_, rfl⟩
        have hblZ : bl Z = bl S ++ bl x := by rw [← hZ]; show (S ++ x).data.toList = _; rw [ByteArray.data_append, Array.toList_append]; rfl
        have hZs : Z.size ≤ 1048576 := by rw [← bl_len, hblZ, List.length_append]; omega
        have hnx2 : climbS leaf a (path.take (k + 1)) = (shS (bl Z), h2) := by rw [hnx]; unfold stepC; rw [if_neg hodd, hh2, hblZ]
        have HN := Lib.hid hnx2
        obtain ⟨c1, W1, hrun, l1, m1, bw1, rw1⟩ := oct_law Tryz.underlying9 Tryz.underlying41 Tryz.underlying5 wr Z hZs
        have hzl : (bl Z).length ≤ 1048576 := hZs
        clear hnx hnx2 hst hx hodd hb2 hh2 hblZ
        go_wp2_with (go_at_call 40; refine (refshort_calls (bl Z) _ _ c1 W1 0 rfl hzl (rw1 0)).mono ?_; rintro e w3 ⟨rfl, b3⟩)
        go_roundw
        case rel => exact ⟨k + 1, by omega, by go_num, by rw [HN.out], by rw [HN.out], bl_trans (bl_trans bel bw1) b3⟩
        case measure => simp [intOf]; omega
    · have hk' : k = path.length := by omega
      subst hk'
      have hnI : ¬ ((path.length : Int) < (path.length : Int)) := by omega
      rw [List.take_of_length_le (Nat.le_refl _)]
      obtain ⟨S, hS⟩ : ∃ S, (climbS leaf a path).1 = S := ⟨_, rfl⟩
      obtain ⟨S2, hS2⟩ : ∃ S, (climbS leaf a path).2 = S := ⟨_, rfl⟩
      have HF : Hid (climbF leaf a path = S) := Lib.hid hS
      simp only [hS, hS2]
      clear hS hS2
      go_wp2_with fail
      go_ret
      exact ⟨by rw [HF.out]; rfl, bel⟩
end Go.Proofs.YtglneailkgminaaGreat
