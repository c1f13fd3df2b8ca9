/- Package mootref03: Verify. No claim of its own; no condition. -/
import Derived.Test.YtglneailkgminaaGreatRefE
namespace Go.Proofs.YtglneailkgminaaGreat
open Go.ChangeShapes Go.WideShapes Go.ChangeAt Go.RowKit
set_option linter.unusedVariables false
set_option linter.unusedSimpArgs false
theorem run_slice_str {P : Program} (w : World) (t : TypeId) (s : ByteArray) (ht : P.underlying t = some .string) (kl kh : IntKind) (l h : Int) (h0 : 0 ≤ l) (h1 : l ≤ h) (h2 : h ≤ s.size) :
    (Instr.slice t (.string s) (some (.int kl l)) (some (.int kh h)) none).run P w = .ok (.string (s.extract l.toNat h.toNat)) w := by
  obtain ⟨k, rfl⟩ : ∃ k : Nat, h = (k : Int) := ⟨h.toNat, by omega⟩
  have e1 := run_sliceBound (P := P) (w := w) kl l k .sliceB h0 h1
  simp [Instr.slice, run_underlying ht, Instr.sliceBounds, run_sliceBound, sliced, *]
theorem leafN_two {sig : ByteArray} {x0 x1 : UInt8} (h0 : (bl sig)[0]? = some x0) (h1 : (bl sig)[1]? = some x1) : leafN sig = x0.toNat * 256 + x1.toNat := by
  unfold leafN
  match hb : bl sig, h0, h1 with
  | a :: b :: l, h0, h1 =>
    cases h0
    cases h1
    have := x0.toNat_lt
    have := x1.toNat_lt
    simp [getU]
    omega
def rverG (B leaf : Nat) (t : List UInt8) (A : Option Addr) (a3 : Addr) (c c3 : Nat) (P1 P2 : List ByteArray) (g : Bool) (root X : ByteArray) : Nat → Value → World → Prop
  | 0, v, w => v = .int .i64 (leaf : Nat)
  | 1, v, w => v = .int .i64 4
  | 2, v, w => v = .int .u64 4
  | 3, v, w => v = .int .i64 16
  | 4, v, w => v = .bool g
  | 5, v, w => v = .bool g
  | 6, v, w => g = false → v = .slice A t.length c ∧ Kd.u8.Row 5 B w A t
  | 7, v, w => g = false → v = .slice (some a3) 15 c3
  | 8, v, w => g = false → v = .slice (some a3) 11 c3 ∧ Kd.str.Row 9 B w (some a3) P1
  | 9, v, w => g = false → v = .string (openF t P1)
  | 10, v, w => g = false → v = .int .i64 (leaf : Nat)
  | 11, v, w => g = false → v = .slice (some a3) 15 c3
  | 12, v, w => g = false → v = .slice (some ⟨a3.block, a3.off + 11, none⟩) 4 (c3 - 11) ∧ Kd.str.Row 9 B w (some ⟨a3.block, a3.off + 11, none⟩) P2
  | 13, v, w => g = false → v = .string X
  | 14, v, w => g = false → v = .string root
  | 15, v, w => g = false → v = .bool (!decide (X = root))
  | 16, v, w => v = .bool (g || !decide (X = root))
  | _, _, _ => True
set_option maxHeartbeats 6400000 in
set_option maxRecDepth 100000 in
theorem refverify4_calls (root sig : ByteArray) (t : List UInt8) (A : Option Addr) (n c : Nat) (w : World) (B : Nat) (hn : n = t.length) (hl : t.length ≤ 1048576) (hr : Kd.u8.Row 5 B w A t) (hsz : sig.size ≤ 140737488351232) :
    Calls Tryz.prog 10 #[.string root, .int .i64 4, .slice A n c, .string sig] w fun e w' =>
      e = .returned (.tuple #[.int .i64 (((verF root 4 t sig).getD 0 : Nat) : Int), .bool (verF root 4 t sig).isSome]) ∧ Below w.heap.size w w' := by
  subst hn
  by_cases h1 : sig.size = 122
  case neg =>
    have hv : verF root 4 t sig = none := by unfold verF; rw [if_neg (fun h => h1 h.1)]
    rw [hv]
    have hb : ((sig.size : Int) != 122) = true := by rw [bne_iff_ne]; omega
    clear hv
    go_enter Tryz.func10, Tryz.ntmps10
    go_wp2_with fail
    go_ret2
    exact ⟨rfl, Below.refl _ _⟩
  case pos =>
    obtain ⟨i0, hi, hz0, hz1, hz2⟩ := info_parts info_str
    obtain ⟨x0, hx0⟩ : ∃ x, (bl sig)[0]? = some x := ⟨_, List.getElem?_eq_getElem (by rw [bl_len]; omega)⟩
    obtain ⟨x1, hx1⟩ : ∃ x, (bl sig)[1]? = some x := ⟨_, List.getElem?_eq_getElem (by rw [bl_len]; omega)⟩
    obtain ⟨leaf, hleaf⟩ : ∃ leaf, leafN sig = leaf := ⟨_, rfl⟩
    have hlf : leaf < 65536 := by rw [← hleaf]; exact leafN_lt sig
    have hlx : (x0.toNat : Int) * 256 + (x1.toNat : Int) = (leaf : Int) := by have := leafN_two hx0 hx1; omega
    obtain ⟨C, hC⟩ : ∃ C, sigP 4 sig = C := ⟨_, rfl⟩
    have hCl : C.length = 15 := by rw [← hC]; exact pcs_len _ _
    have hCg : ∀ k, k < 15 → C[k]? = some (sb (((bl sig).drop (2 + 8 * k)).take 8)) := fun k h => by
      rw [← hC]
      have := pcs_get ((bl sig).drop 2) (m := 15) h
      rw [List.drop_drop] at this
      exact this
    obtain ⟨P1, hP1⟩ : ∃ P, C.take 11 = P := ⟨_, rfl⟩
    obtain ⟨P2, hP2⟩ : ∃ P, C.drop 11 = P := ⟨_, rfl⟩
    have hP : C = P1 ++ P2 := by rw [← hP1, ← hP2, List.take_append_drop]
    have h8 : ∀ x ∈ P1 ++ P2, x.size = 8 := by rw [← hP, ← hC]; exact pcs_eight (m := 15) (by rw [List.length_drop, bl_len]; omega)
    have hl1 : P1.length = 11 := by rw [← hP1, List.length_take, hCl]; rfl
    have hl2 : P2.length = 4 := by rw [← hP2, List.length_drop, hCl]
    have hver : verF root 4 t sig = if leaf < 16 ∧ climbF (openF t P1) leaf P2 = root then some leaf else none := by
      unfold verF
      rw [hleaf, hC, hP1, hP2]
      by_cases hx : leaf < 16 ∧ climbF (openF t P1) leaf P2 = root
      · rw [if_pos hx, if_pos ⟨h1, hx⟩]
      · rw [if_neg hx, if_neg fun h => hx h.2]
    have hex : ∀ k, k < 15 → sig.extract (2 + 8 * k) (2 + 8 * k + 8) = sb (((bl sig).drop (2 + 8 * k)).take 8) := fun k h => by rw [extract_sb, List.drop_take, Nat.add_sub_cancel_left]
    have HEX := Lib.hid hex
    have HCG := Lib.hid hCg
    have HCL := Lib.hid hCl
    have HP := Lib.hid hP
    have HV := Lib.hid hver
    have H8 := Lib.hid h8
    have HL1 := Lib.hid hl1
    have HL2 := Lib.hid hl2
    have HLX := Lib.hid hlx
    have hlen : (P1 ++ P2).length = 15 := by rw [List.length_append, hl1, hl2]
    have HLN := Lib.hid hlen
    have H1 := Lib.hid h1
    have y0 : sig[0]'(by omega) = x0 := by
      have h : (bl sig)[0]? = some (sig[0]'(by omega)) := by rw [List.getElem?_eq_getElem (by rw [bl_len]; omega)]; rfl
      rw [hx0] at h
      exact (Option.some.inj h).symm
    have y1 : sig[1]'(by omega) = x1 := by
      have h : (bl sig)[1]? = some (sig[1]'(by omega)) := by rw [List.getElem?_eq_getElem (by rw [bl_len]; omega)]; rfl
      rw [hx1] at h
      exact (Option.some.inj h).symm
    have hb0 := x0.toNat_lt
    have hb1 := x1.toNat_lt
    clear hleaf hlx hC hCl hCg hP1 hP2 hP h8 hl1 hl2 hver hex hlen hx0 hx1
    go_enter Tryz.func10, Tryz.ntmps10
    go_upto_region 3 with fail
    go_quiet (fail)
    simp only [HLX.out]
    clear y0 y1 hb0 hb1
    have B1 : Below w.heap.size w (w.drewN nq) := bl_drewN (Below.refl _ _) nq
    generalize w.drewN nq = W1 at *
    have own0 : Kd.str.Own 9 w.heap.size W1 w.heap.size (.slice none 0 0) (C.take 0) := Kd.own_nil _ _ _ _ _
    go_wp2_with fail
    go_loopw [11, 12] (fun ov kv w' => ∃ k : Nat, k ≤ 15 ∧ kv = .int .i64 ((2 + 8 * k : Nat) : Int) ∧ Kd.str.Own 9 w.heap.size w' w.heap.size ov (C.take k) ∧ Below w.heap.size w w') (fun _ kv _ => 122 - (intOf kv).toNat)
    case atStart => exact ⟨0, by omega, rfl, own0, B1⟩
    case round =>
      clear own0 B1
      obtain ⟨k, hk, rfl, own, bel⟩ := hrel
      by_cases h : k < 15
      · obtain ⟨p, hp⟩ : ∃ p, 2 + 8 * k = p := ⟨_, rfl⟩
        have he := HEX.out k h
        have hg := HCG.out k h
        rw [hp] at he hg
        simp only [hp]
        obtain ⟨Y, hY⟩ : ∃ Y, sb (((bl sig).drop p).take 8) = Y := ⟨_, rfl⟩
        rw [hY] at he hg
        have hy8 : Y.size ≤ 140737488351232 := by rw [← hY, sb_size, List.length_take]; omega
        have ht : C.take (k + 1) = C.take k ++ [Y] := by rw [List.take_add_one, hg]; rfl
        have hlo : (C.take k).length ≤ 15 := by rw [List.length_take, HCL.out]; omega
        obtain ⟨T, hT⟩ : ∃ T, C.take k = T := ⟨_, rfl⟩
        rw [hT] at own ht hlo
        have hpI : (p : Int) < 122 := by omega
        have hp8 : (p : Int) + 8 ≤ 122 := by omega
        have hp8n : p + 8 ≤ 122 := by omega
        have hnx : (p : Int) + 8 = ((2 + 8 * (k + 1) : Nat) : Int) := by omega
        have HT := Lib.hid ht
        have HY := Lib.hid hy8
        have HN := Lib.hid hnx
        have hpb : 2 ≤ p := by omega
        have hrs : ∀ W : World, (Instr.slice 9 (.string sig) (some (.int .i64 (p : Int))) (some (.int .i64 ((p : Int) + 8))) none).run Tryz.prog W = .ok (.string Y) W := fun W => by
          have := run_slice_str W 9 sig Tryz.underlying9 .i64 .i64 (p : Int) ((p : Int) + 8) (by omega) (by omega) (by omega)
          rwa [show (p : Int).toNat = p by omega, show ((p : Int) + 8).toNat = p + 8 by omega, he] at this
        clear hY hy8 ht hT hg hp hnx
        have al := bl_alloc (Below.refl wr.heap.size wr) (.cells #[.string Y] 9)
        have ownA := Kd.own_below own al
        have belA := bl_trans bel al
        have row1 : Kd.str.Row 9 w.heap.size (wr.alloc (.cells #[.string Y] 9)) (some ⟨wr.heap.size, 0, none⟩) [Y] := Kd.row_fresh1 (show Kd.str.K _ _ _ [_] from ⟨rfl, HY.out⟩)
        obtain ⟨Ao, no, co, rfl⟩ := k_some (k_own own)
        go_wp2_with ((at_builtin; refine wpList_append_row _ rfl (.tmp 41) (.tmp 47) 25 rfl Kd.str w.heap.size w.heap.size 9 i0 _ 16 Tryz.underlying25 hi hz0 hz1 hz2 rfl (by decide) _ T rfl ownA _ _ _ [Y] rfl rfl row1 (by simp only [List.length_cons, List.length_nil]; omega) (by decide) belA.size (Nat.le_refl _) (by decide) ?_; intro v4 w4 own4 grw4 at4; have bel4 := Kd.own_step belA ownA grw4))
        go_roundw
        case rel => exact ⟨k + 1, by omega, by rw [HN.out], (by rw [HT.out]; exact own4), bel4⟩
        case measure => simp [intOf]; omega
      · obtain rfl : k = 15 := by omega
        rw [List.take_of_length_le (by rw [HCL.out]; omega), HP.out] at own
        obtain ⟨A3, c3, hv3, l3, m3, _, _⟩ := Kd.own_row own
        rw [HLN.out] at hv3 l3
        subst hv3
        have r3 := own_rows Kd.flat_str own
        have hne3 : P1 ++ P2 ≠ [] := by intro e; have := HLN.out; rw [e] at this; simp at this
        obtain ⟨a3, rfl, _, _⟩ := r3 0 hne3
        have rP1 : ∀ B, Kd.str.Row 9 B wr (some a3) P1 := fun B => by
          have := row_take 11 (r3 B)
          rwa [List.take_left' HL1.out] at this
        have rP2 : ∀ B, Kd.str.Row 9 B wr (some ⟨a3.block, a3.off + 11, none⟩) P2 := fun B => by
          have := row_drop 11 (r3 B)
          rw [List.drop_left' HL1.out] at this
          have e : (⟨a3.block, a3.off + 11, none⟩ : Addr) = a3.add (11 * Kd.str.sz) := by rw [show 11 * Kd.str.sz = 10 + 1 from rfl]; unfold Addr.add; simp
          rw [e]; exact this
        have rT : Kd.u8.Row 5 w.heap.size wr A t := Kd.row_below bel (Kd.row_flat Kd.flat_u8 hr (Nat.le_refl _))
        have hc15 : (15 : Int) ≤ (c3 : Int) := by omega
        have hc11 : (11 : Int) ≤ (c3 : Int) := by omega
        have hcne : ¬ (c3 = 11) := by omega
        obtain ⟨X, hX⟩ : ∃ X, climbF (openF t P1) leaf P2 = X := ⟨_, rfl⟩
        have hclimb : ∀ (W : World), Kd.str.Row 9 w.heap.size W (some ⟨a3.block, a3.off + 11, none⟩) P2 → Calls Tryz.prog 22 #[.string (openF t P1), .int .i64 (leaf : Nat), .slice (some ⟨a3.block, a3.off + 11, none⟩) 4 (c3 - 11)] W fun e w' => e = .returned (.string X) ∧ Below W.heap.size W w' := fun W h => by
          rw [← hX]
          exact refclimb_calls (openF t P1) leaf P2 _ 4 (c3 - 11) W _ HL2.out.symm (by rw [HL2.out]; omega) (by rw [openF_size]; omega) (by omega) (fun x hx => by have := H8.out x (by simp [hx]); omega) h
        have hopen : ∀ (W : World), Kd.u8.Row 5 w.heap.size W A t → Kd.str.Row 9 w.heap.size W (some a3) P1 → Calls Tryz.prog 23 #[.slice A t.length c, .slice (some a3) 11 c3] W fun e w' => e = .returned (.string (openF t P1)) ∧ Below W.heap.size W w' := fun W h h' =>
          refopen_calls t P1 A (some a3) t.length 11 c c3 W _ _ rfl hl h rfl HL1.out (fun x hx => H8.out x (by simp [hx])) h'
        rw [hX] at HV
        have HCL2 := Lib.hid hclimb
        have HOP := Lib.hid hopen
        have hB1 := bel
        clear hclimb hopen hX own
        by_cases h16 : leaf < 16
        · have hge : ¬ (16 ≤ (leaf : Int)) := by omega
          go_upto_region 9 with fail
          refine wp_region_inv (by kernel_rfl) (by kernel_rfl) Rb (rverG w.heap.size leaf t A a3 c c3 P1 P2 false root X) rb_refl rb_trans ⟨?_, ?_, ?_, ?_, ?_, ?_, ?_, ?_, ?_, ?_, ?_, ?_, ?_, ?_, ?_, ?_, ?_, trivial⟩ ?_
          · intro u w1 hR hdep K hK
            rw [if_pos (by rfl)]
            simp only [frameF, Act.put, List.setIfInBounds_toArray, List.set_cons_zero, List.set_cons_succ, Nat.reduceAdd] at hK ⊢
            clear hdep
            go_simp
            refine hK _ _ (rb_refl _) fun w3 h3 => ?_
            exact rfl
          · intro u w1 hR hdep K hK
            rw [if_pos (by rfl)]
            simp only [frameF, Act.put, List.setIfInBounds_toArray, List.set_cons_zero, List.set_cons_succ, Nat.reduceAdd] at hK ⊢
            clear hdep
            go_simp
            refine hK _ _ (rb_refl _) fun w3 h3 => ?_
            exact rfl
          · intro u w1 hR hdep K hK
            rw [if_pos (by rfl)]
            simp only [frameF, Act.put, List.setIfInBounds_toArray, List.set_cons_zero, List.set_cons_succ, Nat.reduceAdd] at hK ⊢
            have u1 : u 1 = .int .i64 4 := hdep 1 (by kernel_rfl) w1 (rb_refl _)
            simp only [u1] at hK ⊢
            clear u1 hdep
            go_simp
            refine hK _ _ (rb_refl _) fun w3 h3 => ?_
            exact rfl
          · intro u w1 hR hdep K hK
            rw [if_pos (by rfl)]
            simp only [frameF, Act.put, List.setIfInBounds_toArray, List.set_cons_zero, List.set_cons_succ, Nat.reduceAdd] at hK ⊢
            have u2 : u 2 = .int .u64 4 := hdep 2 (by kernel_rfl) w1 (rb_refl _)
            simp only [u2] at hK ⊢
            clear u2 hdep
            go_simp
            refine hK _ _ (rb_refl _) fun w3 h3 => ?_
            exact rfl
          · intro u w1 hR hdep K hK
            rw [if_pos (by rfl)]
            simp only [frameF, Act.put, List.setIfInBounds_toArray, List.set_cons_zero, List.set_cons_succ, Nat.reduceAdd] at hK ⊢
            have u0 : u 0 = .int .i64 (leaf : Nat) := hdep 0 (by kernel_rfl) w1 (rb_refl _)
            have u3 : u 3 = .int .i64 16 := hdep 3 (by kernel_rfl) w1 (rb_refl _)
            simp only [u0, u3] at hK ⊢
            clear u0 u3 hdep
            go_simp
            refine hK _ _ (rb_refl _) fun w3 h3 => ?_
            exact rfl
          · intro u w1 hR hdep K hK
            rw [if_pos (by rfl)]
            simp only [frameF, Act.put, List.setIfInBounds_toArray, List.set_cons_zero, List.set_cons_succ, Nat.reduceAdd] at hK ⊢
            have u4 : u 4 = .bool false := hdep 4 (by kernel_rfl) w1 (rb_refl _)
            simp only [u4] at hK ⊢
            clear u4 hdep
            go_simp
            refine hK _ _ (rb_refl _) fun w3 h3 => ?_
            exact rfl
          · intro u w1 hR hdep K hK
            have h5 : u 5 = .bool false := hdep 5 (by kernel_rfl) w1 (rb_refl _)
            rw [if_pos (by simp [Region.wanted, yielded, frameF, Act.put, h5])]
            simp only [frameF, Act.put, List.setIfInBounds_toArray, List.set_cons_zero, List.set_cons_succ, Nat.reduceAdd] at hK ⊢
            clear h5
            clear hdep
            go_simp
            refine hK _ _ (rb_refl _) fun w3 h3 => ?_
            exact fun _ => ⟨rfl, Kd.row_below (rb_trans _ _ _ hR h3) rT⟩
          · intro u w1 hR hdep K hK
            have h5 : u 5 = .bool false := hdep 5 (by kernel_rfl) w1 (rb_refl _)
            rw [if_pos (by simp [Region.wanted, yielded, frameF, Act.put, h5])]
            simp only [frameF, Act.put, List.setIfInBounds_toArray, List.set_cons_zero, List.set_cons_succ, Nat.reduceAdd] at hK ⊢
            clear h5
            clear hdep
            go_simp
            refine hK _ _ (rb_refl _) fun w3 h3 => ?_
            exact fun _ => rfl
          · intro u w1 hR hdep K hK
            have h5 : u 5 = .bool false := hdep 5 (by kernel_rfl) w1 (rb_refl _)
            rw [if_pos (by simp [Region.wanted, yielded, frameF, Act.put, h5])]
            simp only [frameF, Act.put, List.setIfInBounds_toArray, List.set_cons_zero, List.set_cons_succ, Nat.reduceAdd] at hK ⊢
            have u7 : u 7 = .slice (some a3) 15 c3 := hdep 7 (by kernel_rfl) w1 (rb_refl _) rfl
            simp only [u7] at hK ⊢
            clear h5 u7
            clear hdep
            go_simp
            refine hK _ _ (rb_refl _) fun w3 h3 => ?_
            exact fun _ => ⟨rfl, Kd.row_below (rb_trans _ _ _ hR h3) (rP1 _)⟩
          · intro u w1 hR hdep K hK
            have h5 : u 5 = .bool false := hdep 5 (by kernel_rfl) w1 (rb_refl _)
            rw [if_pos (by simp [Region.wanted, yielded, frameF, Act.put, h5])]
            simp only [frameF, Act.put, List.setIfInBounds_toArray, List.set_cons_zero, List.set_cons_succ, Nat.reduceAdd] at hK ⊢
            have u6 : _ ∧ _ := hdep 6 (by kernel_rfl) w1 (rb_refl _) rfl
            have u8 : _ ∧ _ := hdep 8 (by kernel_rfl) w1 (rb_refl _) rfl
            simp only [u6.1, u8.1] at hK ⊢
            have hO := HOP.out w1 u6.2 u8.2
            clear h5 u6 u8 hdep
            go_simp
            refine hO.mono ?_
            rintro e w2 ⟨rfl, b2'⟩
            refine hK _ _ b2' fun w3 h3 => ?_
            exact fun _ => rfl
          · intro u w1 hR hdep K hK
            have h5 : u 5 = .bool false := hdep 5 (by kernel_rfl) w1 (rb_refl _)
            rw [if_pos (by simp [Region.wanted, yielded, frameF, Act.put, h5])]
            simp only [frameF, Act.put, List.setIfInBounds_toArray, List.set_cons_zero, List.set_cons_succ, Nat.reduceAdd] at hK ⊢
            clear h5
            clear hdep
            go_simp
            refine hK _ _ (rb_refl _) fun w3 h3 => ?_
            exact fun _ => rfl
          · intro u w1 hR hdep K hK
            have h5 : u 5 = .bool false := hdep 5 (by kernel_rfl) w1 (rb_refl _)
            rw [if_pos (by simp [Region.wanted, yielded, frameF, Act.put, h5])]
            simp only [frameF, Act.put, List.setIfInBounds_toArray, List.set_cons_zero, List.set_cons_succ, Nat.reduceAdd] at hK ⊢
            clear h5
            clear hdep
            go_simp
            refine hK _ _ (rb_refl _) fun w3 h3 => ?_
            exact fun _ => rfl
          · intro u w1 hR hdep K hK
            have h5 : u 5 = .bool false := hdep 5 (by kernel_rfl) w1 (rb_refl _)
            rw [if_pos (by simp [Region.wanted, yielded, frameF, Act.put, h5])]
            simp only [frameF, Act.put, List.setIfInBounds_toArray, List.set_cons_zero, List.set_cons_succ, Nat.reduceAdd] at hK ⊢
            have u11 : u 11 = .slice (some a3) 15 c3 := hdep 11 (by kernel_rfl) w1 (rb_refl _) rfl
            simp only [u11] at hK ⊢
            clear h5 u11
            clear hdep
            go_simp
            refine hK _ _ (rb_refl _) fun w3 h3 => ?_
            exact fun _ => ⟨rfl, Kd.row_below (rb_trans _ _ _ hR h3) (rP2 _)⟩
          · intro u w1 hR hdep K hK
            have h5 : u 5 = .bool false := hdep 5 (by kernel_rfl) w1 (rb_refl _)
            rw [if_pos (by simp [Region.wanted, yielded, frameF, Act.put, h5])]
            simp only [frameF, Act.put, List.setIfInBounds_toArray, List.set_cons_zero, List.set_cons_succ, Nat.reduceAdd] at hK ⊢
            have u9 : u 9 = .string (openF t P1) := hdep 9 (by kernel_rfl) w1 (rb_refl _) rfl
            have u10 : u 10 = .int .i64 (leaf : Nat) := hdep 10 (by kernel_rfl) w1 (rb_refl _) rfl
            have u12 : _ ∧ _ := hdep 12 (by kernel_rfl) w1 (rb_refl _) rfl
            simp only [u9, u10, u12.1] at hK ⊢
            have hO := HCL2.out w1 u12.2
            clear h5 u9 u10 u12 hdep
            go_simp
            refine hO.mono ?_
            rintro e w2 ⟨rfl, b2'⟩
            refine hK _ _ b2' fun w3 h3 => ?_
            exact fun _ => rfl
          · intro u w1 hR hdep K hK
            have h5 : u 5 = .bool false := hdep 5 (by kernel_rfl) w1 (rb_refl _)
            rw [if_pos (by simp [Region.wanted, yielded, frameF, Act.put, h5])]
            simp only [frameF, Act.put, List.setIfInBounds_toArray, List.set_cons_zero, List.set_cons_succ, Nat.reduceAdd] at hK ⊢
            clear h5
            clear hdep
            go_simp
            refine hK _ _ (rb_refl _) fun w3 h3 => ?_
            exact fun _ => rfl
          · intro u w1 hR hdep K hK
            have h5 : u 5 = .bool false := hdep 5 (by kernel_rfl) w1 (rb_refl _)
            rw [if_pos (by simp [Region.wanted, yielded, frameF, Act.put, h5])]
            simp only [frameF, Act.put, List.setIfInBounds_toArray, List.set_cons_zero, List.set_cons_succ, Nat.reduceAdd] at hK ⊢
            have u13 : u 13 = .string X := hdep 13 (by kernel_rfl) w1 (rb_refl _) rfl
            have u14 : u 14 = .string root := hdep 14 (by kernel_rfl) w1 (rb_refl _) rfl
            simp only [u13, u14] at hK ⊢
            clear h5 u13 u14
            clear hdep
            go_simp
            refine hK _ _ (rb_refl _) fun w3 h3 => ?_
            exact fun _ => by show Value.bool _ = Value.bool _; rw [bytes_beq]
          · intro u w1 hR hdep K hK
            rw [if_pos (by rfl)]
            simp only [frameF, Act.put, List.setIfInBounds_toArray, List.set_cons_zero, List.set_cons_succ, Nat.reduceAdd] at hK ⊢
            have h5 : u 5 = .bool false := hdep 5 (by kernel_rfl) w1 (rb_refl _)
            have u15 : u 15 = .bool (!decide (X = root)) := hdep 15 (by kernel_rfl) w1 (rb_refl _) rfl
            simp only [h5, u15] at hK ⊢
            clear h5 u15
            clear hdep
            go_simp
            refine hK _ _ (rb_refl _) fun w3 h3 => ?_
            exact by show Value.bool _ = Value.bool (false || _); rw [Bool.false_or]
          · intro u w' hR hall
            have h16' : u 16 = .bool (false || !decide (X = root)) := hall 16 (by decide)
            have bw' := bl_trans (bl_drew hB1) hR
            by_cases hX : X = root
            · have e16 : u 16 = .bool false := by rw [h16', decide_eq_true hX]; rfl
              have hv : verF root 4 t sig = some leaf := by rw [HV.out, if_pos ⟨h16, hX⟩]
              have HVV := Lib.hid hv
              clear hall h16' hX hv
              simp only [frameF, Act.put, List.setIfInBounds_toArray, List.set_cons_zero, List.set_cons_succ, Nat.reduceAdd, e16]
              clear e16
              go_wp2_with fail
              go_ret2
              exact ⟨by rw [HVV.out]; rfl, bw'⟩
            · have e16 : u 16 = .bool true := by rw [h16', decide_eq_false hX]; rfl
              have hv : verF root 4 t sig = none := by rw [HV.out, if_neg fun h => hX h.2]
              have HVV := Lib.hid hv
              clear hall h16' hX hv
              simp only [frameF, Act.put, List.setIfInBounds_toArray, List.set_cons_zero, List.set_cons_succ, Nat.reduceAdd, e16]
              clear e16
              go_wp2_with fail
              go_ret2
              exact ⟨by rw [HVV.out]; rfl, bw'⟩
        · have hge : 16 ≤ (leaf : Int) := by omega
          go_upto_region 9 with fail
          refine wp_region_inv (by kernel_rfl) (by kernel_rfl) Rb (rverG w.heap.size leaf t A a3 c c3 P1 P2 true root X) rb_refl rb_trans ⟨?_, ?_, ?_, ?_, ?_, ?_, ?_, ?_, ?_, ?_, ?_, ?_, ?_, ?_, ?_, ?_, ?_, trivial⟩ ?_
          · intro u w1 hR hdep K hK
            rw [if_pos (by rfl)]
            simp only [frameF, Act.put, List.setIfInBounds_toArray, List.set_cons_zero, List.set_cons_succ, Nat.reduceAdd] at hK ⊢
            clear hdep
            go_simp
            refine hK _ _ (rb_refl _) fun w3 h3 => ?_
            exact rfl
          · intro u w1 hR hdep K hK
            rw [if_pos (by rfl)]
            simp only [frameF, Act.put, List.setIfInBounds_toArray, List.set_cons_zero, List.set_cons_succ, Nat.reduceAdd] at hK ⊢
            clear hdep
            go_simp
            refine hK _ _ (rb_refl _) fun w3 h3 => ?_
            exact rfl
          · intro u w1 hR hdep K hK
            rw [if_pos (by rfl)]
            simp only [frameF, Act.put, List.setIfInBounds_toArray, List.set_cons_zero, List.set_cons_succ, Nat.reduceAdd] at hK ⊢
            have u1 : u 1 = .int .i64 4 := hdep 1 (by kernel_rfl) w1 (rb_refl _)
            simp only [u1] at hK ⊢
            clear u1 hdep
            go_simp
            refine hK _ _ (rb_refl _) fun w3 h3 => ?_
            exact rfl
          · intro u w1 hR hdep K hK
            rw [if_pos (by rfl)]
            simp only [frameF, Act.put, List.setIfInBounds_toArray, List.set_cons_zero, List.set_cons_succ, Nat.reduceAdd] at hK ⊢
            have u2 : u 2 = .int .u64 4 := hdep 2 (by kernel_rfl) w1 (rb_refl _)
            simp only [u2] at hK ⊢
            clear u2 hdep
            go_simp
            refine hK _ _ (rb_refl _) fun w3 h3 => ?_
            exact rfl
          · intro u w1 hR hdep K hK
            rw [if_pos (by rfl)]
            simp only [frameF, Act.put, List.setIfInBounds_toArray, List.set_cons_zero, List.set_cons_succ, Nat.reduceAdd] at hK ⊢
            have u0 : u 0 = .int .i64 (leaf : Nat) := hdep 0 (by kernel_rfl) w1 (rb_refl _)
            have u3 : u 3 = .int .i64 16 := hdep 3 (by kernel_rfl) w1 (rb_refl _)
            simp only [u0, u3] at hK ⊢
            clear u0 u3 hdep
            go_simp
            refine hK _ _ (rb_refl _) fun w3 h3 => ?_
            exact rfl
          · intro u w1 hR hdep K hK
            rw [if_pos (by rfl)]
            simp only [frameF, Act.put, List.setIfInBounds_toArray, List.set_cons_zero, List.set_cons_succ, Nat.reduceAdd] at hK ⊢
            have u4 : u 4 = .bool true := hdep 4 (by kernel_rfl) w1 (rb_refl _)
            simp only [u4] at hK ⊢
            clear u4 hdep
            go_simp
            refine hK _ _ (rb_refl _) fun w3 h3 => ?_
            exact rfl
          · intro u w1 hR hdep K hK
            have h5 : u 5 = .bool true := hdep 5 (by kernel_rfl) w1 (rb_refl _)
            rw [if_neg (by simp [Region.wanted, yielded, frameF, Act.put, h5])]
            exact hK _ _ (rb_refl _) fun w3 h3 => fun hg => by cases hg
          · intro u w1 hR hdep K hK
            have h5 : u 5 = .bool true := hdep 5 (by kernel_rfl) w1 (rb_refl _)
            rw [if_neg (by simp [Region.wanted, yielded, frameF, Act.put, h5])]
            exact hK _ _ (rb_refl _) fun w3 h3 => fun hg => by cases hg
          · intro u w1 hR hdep K hK
            have h5 : u 5 = .bool true := hdep 5 (by kernel_rfl) w1 (rb_refl _)
            rw [if_neg (by simp [Region.wanted, yielded, frameF, Act.put, h5])]
            exact hK _ _ (rb_refl _) fun w3 h3 => fun hg => by cases hg
          · intro u w1 hR hdep K hK
            have h5 : u 5 = .bool true := hdep 5 (by kernel_rfl) w1 (rb_refl _)
            rw [if_neg (by simp [Region.wanted, yielded, frameF, Act.put, h5])]
            exact hK _ _ (rb_refl _) fun w3 h3 => fun hg => by cases hg
          · intro u w1 hR hdep K hK
            have h5 : u 5 = .bool true := hdep 5 (by kernel_rfl) w1 (rb_refl _)
            rw [if_neg (by simp [Region.wanted, yielded, frameF, Act.put, h5])]
            exact hK _ _ (rb_refl _) fun w3 h3 => fun hg => by cases hg
          · intro u w1 hR hdep K hK
            have h5 : u 5 = .bool true := hdep 5 (by kernel_rfl) w1 (rb_refl _)
            rw [if_neg (by simp [Region.wanted, yielded, frameF, Act.put, h5])]
            exact hK _ _ (rb_refl _) fun w3 h3 => fun hg => by cases hg
          · intro u w1 hR hdep K hK
            have h5 : u 5 = .bool true := hdep 5 (by kernel_rfl) w1 (rb_refl _)
            rw [if_neg (by simp [Region.wanted, yielded, frameF, Act.put, h5])]
            exact hK _ _ (rb_refl _) fun w3 h3 => fun hg => by cases hg
          · intro u w1 hR hdep K hK
            have h5 : u 5 = .bool true := hdep 5 (by kernel_rfl) w1 (rb_refl _)
            rw [if_neg (by simp [Region.wanted, yielded, frameF, Act.put, h5])]
            exact hK _ _ (rb_refl _) fun w3 h3 => fun hg => by cases hg
          · intro u w1 hR hdep K hK
            have h5 : u 5 = .bool true := hdep 5 (by kernel_rfl) w1 (rb_refl _)
            rw [if_neg (by simp [Region.wanted, yielded, frameF, Act.put, h5])]
            exact hK _ _ (rb_refl _) fun w3 h3 => fun hg => by cases hg
          · intro u w1 hR hdep K hK
            have h5 : u 5 = .bool true := hdep 5 (by kernel_rfl) w1 (rb_refl _)
            rw [if_neg (by simp [Region.wanted, yielded, frameF, Act.put, h5])]
            exact hK _ _ (rb_refl _) fun w3 h3 => fun hg => by cases hg
          · intro u w1 hR hdep K hK
            rw [if_pos (by rfl)]
            simp only [frameF, Act.put, List.setIfInBounds_toArray, List.set_cons_zero, List.set_cons_succ, Nat.reduceAdd] at hK ⊢
            have u5 : u 5 = .bool true := hdep 5 (by kernel_rfl) w1 (rb_refl _)
            simp only [u5] at hK ⊢
            clear u5 hdep
            go_simp
            refine hK _ _ (rb_refl _) fun w3 h3 => ?_
            exact rfl
          · intro u w' hR hall
            have e16 : u 16 = .bool true := hall 16 (by decide)
            have bw' := bl_trans (bl_drew hB1) hR
            have hv : verF root 4 t sig = none := by rw [HV.out, if_neg fun h => h16 h.1]
            have HVV := Lib.hid hv
            clear hall hv
            simp only [frameF, Act.put, List.setIfInBounds_toArray, List.set_cons_zero, List.set_cons_succ, Nat.reduceAdd, e16]
            clear e16
            go_wp2_with fail
            go_ret2
            exact ⟨by rw [HVV.out]; rfl, bw'⟩
end Go.Proofs.YtglneailkgminaaGreat
