/- Package signer: Verify at a client's height. No claim of its own; no condition. Turned by program out of SigB. -/
import Derived.Test.YtcbfpdenjdgnlaaGreatQt13
namespace Go.Proofs.YtcbfpdenjdgnlaaGreat
open Go.ChangeShapes Go.WideShapes Go.ChangeAt Go.RowKit
set_option linter.unusedVariables false
set_option linter.unusedSimpArgs false
def verG2 (B leaf : Nat) (t : List UInt8) (A : Option Addr) (a3 : Addr) (c c3 : Nat) (P1 P2 : List ByteArray) (g : Bool) (root X : ByteArray) : Nat → Value → World → Prop
  | 0, v, w => v = .int .i64 (leaf : Nat)
  | 1, v, w => v = .int .i64 2
  | 2, v, w => v = .int .i64 4
  | 3, v, w => v = .bool g
  | 4, v, w => v = .bool g
  | 5, v, w => g = false → v = .slice A t.length c ∧ Kd.u8.Row 5 B w A t
  | 6, v, w => g = false → v = .slice (some a3) 13 c3
  | 7, v, w => g = false → v = .slice (some a3) 11 c3 ∧ Kd.str.Row 9 B w (some a3) P1
  | 8, v, w => g = false → v = .string (openF t P1)
  | 9, v, w => g = false → v = .int .i64 (leaf : Nat)
  | 10, v, w => g = false → v = .slice (some a3) 13 c3
  | 11, v, w => g = false → v = .slice (some ⟨a3.block, a3.off + 11, none⟩) 2 (c3 - 11) ∧ Kd.str.Row 9 B w (some ⟨a3.block, a3.off + 11, none⟩) P2
  | 12, v, w => g = false → v = .string X
  | 13, v, w => g = false → v = .string root
  | 14, v, w => g = false → v = .bool (!decide (X = root))
  | 15, v, w => v = .bool (g || !decide (X = root))
  | _, _, _ => True
set_option maxHeartbeats 6400000 in
set_option maxRecDepth 100000 in
theorem verify2_calls (root sig : ByteArray) (t : List UInt8) (A : Option Addr) (n c : Nat) (w : World) (B : Nat) (hn : n = t.length) (hl : t.length ≤ 1048576) (hc : t.length ≤ c) (hm : c ≤ maxLen) (hr : Kd.u8.Row 5 B w A t) (hsz : sig.size ≤ 140737488351232) :
    Calls Tryz.prog 171 #[.string root, .int .i64 2, .slice A n c, .string sig] w fun e w' =>
      e = .returned (.tuple #[.int .i64 (((verF root 2 t sig).getD 0 : Nat) : Int), .bool (verF root 2 t sig).isSome]) ∧ Below w.heap.size w w' := by
  subst hn
  have hsize : ∀ W : World, Calls Tryz.prog 230 #[.int .i64 2] W fun e w' => e = .returned (.int .i64 106) ∧ W = w' := fun W => size_calls 2 W (by omega)
  by_cases h1 : sig.size = 106
  case neg =>
    have hv : verF root 2 t sig = none := by unfold verF; rw [if_neg (fun h => h1 h.1)]
    rw [hv]
    have hb : ((sig.size : Int) != 106) = true := by rw [bne_iff_ne]; omega
    clear hv
    go_enter Tryz.func171, Tryz.ntmps171
    go_wp2_with ((go_at_call 230; refine (hsize _).mono ?_; rintro e w' ⟨rfl, rfl⟩))
    go_ret2
    exact ⟨rfl, Below.refl _ _⟩
  case pos =>
    obtain ⟨S2, hS2⟩ : ∃ S, sb ((bl sig).take 2) = S := ⟨_, rfl⟩
    obtain ⟨S3, hS3⟩ : ∃ S, sb ((bl sig).drop 2) = S := ⟨_, rfl⟩
    have he0 : sig.extract 0 2 = S2 := by rw [← hS2, extract_sb]; rfl
    have he1 : sig.extract 2 106 = S3 := by rw [← hS3, extract_sb, List.take_of_length_le (by rw [bl_len]; omega)]
    have hz2 : S2.size = 2 := by rw [← hS2, sb_size, List.length_take, bl_len]; omega
    have hz3 : S3.size = 8 * 13 := by rw [← hS3, sb_size, List.length_drop, bl_len]; omega
    have hE : sig.toList.isEmpty = false := by
      rw [ByteArray.toList_eq]
      have : (bl sig).length = 106 := h1
      unfold bl at this
      cases hh : sig.data.toList with
      | nil => rw [hh] at this; cases this
      | cons x y => rfl
    obtain ⟨leaf, hleaf⟩ : ∃ leaf, leafN sig = leaf := ⟨_, rfl⟩
    have hlf : leaf < 65536 := by rw [← hleaf]; exact leafN_lt sig
    have hget : ∀ (W : World) (A2 : Option Addr) (c2 : Nat), Kd.u8.Row 5 0 W A2 (bl S2) → Calls Tryz.prog 223 #[.slice A2 S2.size c2] W fun e w' => e = .returned (.int .i64 (leaf : Nat)) ∧ Below W.heap.size W w' := fun W A2 c2 h => by
      have h2 := get_calls (bl S2) A2 S2.size c2 W 0 rfl (by rw [bl_len]; omega) h
      have e : getU (bl S2) % 4611686018427387904 = leaf := by rw [← hleaf, ← hS2]; rfl
      rwa [e] at h2
    obtain ⟨P1, hP1⟩ : ∃ P, (sigP 2 sig).take 11 = P := ⟨_, rfl⟩
    obtain ⟨P2, hP2⟩ : ∃ P, (sigP 2 sig).drop 11 = P := ⟨_, rfl⟩
    have hP : pcs (bl S3) 13 = P1 ++ P2 := by rw [← hP1, ← hP2, List.take_append_drop, ← hS3]; rfl
    have h8 : ∀ x ∈ P1 ++ P2, x.size = 8 := by rw [← hP]; exact pcs_eight hz3
    have hl1 : P1.length = 11 := by rw [← hP1, List.length_take]; unfold sigP; rw [pcs_len]; rfl
    have hl2 : P2.length = 2 := by rw [← hP2, List.length_drop]; unfold sigP; rw [pcs_len]
    have htx : ∀ W : World, Calls Tryz.prog 231 #[.string S3] W fun e w' => (∃ v, e = .returned v ∧ Kd.str.Own 9 W.heap.size w' W.heap.size v (P1 ++ P2)) ∧ Below W.heap.size W w' := fun W => by
      have := texts_calls S3 13 W hz3 (by omega)
      rwa [hP] at this
    have hver : verF root 2 t sig = if leaf < 4 ∧ climbF (openF t P1) leaf P2 = root then some leaf else none := by
      unfold verF
      rw [hleaf, hP1, hP2]
      by_cases hx : leaf < 4 ∧ climbF (openF t P1) leaf P2 = root
      · rw [if_pos hx, if_pos ⟨h1, hx⟩]
      · rw [if_neg hx, if_neg fun h => hx h.2]
    have HGET := Lib.hid hget
    have HSIZE := Lib.hid hsize
    clear hsize
    have HTX := Lib.hid htx
    have HV := Lib.hid hver
    have H8 := Lib.hid h8
    have HL1 := Lib.hid hl1
    have HL2 := Lib.hid hl2
    have hz2' : S2.size ≤ 1048576 := by omega
    have hlen : (P1 ++ P2).length = 13 := by rw [List.length_append, hl1, hl2]
    have HLN := Lib.hid hlen
    clear hS2 hS3 hleaf hget htx hver h8 hP1 hP2 hP hl1 hl2 hlen hz2 hz3
    obtain ⟨c1, W1, hrun1, l1, m1, bw1, rw1⟩ := oct_law Tryz.underlying9 Tryz.underlying60 Tryz.underlying5 w S2 hz2'
    go_enter Tryz.func171, Tryz.ntmps171
    go_upto_region 5 with (first
      | (go_at_call 230; refine (HSIZE.out _).mono ?_; rintro e w' ⟨rfl, rfl⟩)
      | (go_at_call 223; refine (HGET.out _ _ c1 (rw1 0)).mono ?_; rintro e w2 ⟨rfl, b2⟩)
      | (go_at_call 231; refine (HTX.out _).mono ?_; rintro e w3 ⟨⟨v3, rfl, own3⟩, b3⟩; obtain ⟨A3, c3, hv3, l3, m3, _, _⟩ := Kd.own_row own3; rw [HLN.out] at hv3 l3; subst hv3))
    have r3 := own_rows Kd.flat_str own3
    have hne3 : P1 ++ P2 ≠ [] := by intro e; have := HLN.out; rw [e] at this; simp at this
    obtain ⟨a3, rfl, _, _⟩ := r3 0 hne3
    have rP1 : ∀ B, Kd.str.Row 9 B w3 (some a3) P1 := fun B => by
      have := row_take 11 (r3 B)
      rwa [List.take_left' HL1.out] at this
    have rP2 : ∀ B, Kd.str.Row 9 B w3 (some ⟨a3.block, a3.off + 11, none⟩) P2 := fun B => by
      have := row_drop 11 (r3 B)
      rw [List.drop_left' HL1.out] at this
      have e : (⟨a3.block, a3.off + 11, none⟩ : Addr) = a3.add (11 * Kd.str.sz) := by rw [show 11 * Kd.str.sz = 10 + 1 from rfl]; unfold Addr.add; simp
      rw [e]; exact this
    have b13 := bl_trans (bl_trans bw1 b2) b3
    have rT : Kd.u8.Row 5 w.heap.size w3 A t := Kd.row_below b13 (Kd.row_flat Kd.flat_u8 hr (Nat.le_refl _))
    have hc15 : (13 : Int) ≤ (c3 : Int) := by omega
    have hc11 : (11 : Int) ≤ (c3 : Int) := by omega
    have hcne : ¬ (c3 = 11) := by omega
    obtain ⟨X, hX⟩ : ∃ X, climbF (openF t P1) leaf P2 = X := ⟨_, rfl⟩
    have hclimb : ∀ (W : World), Kd.str.Row 9 w.heap.size W (some ⟨a3.block, a3.off + 11, none⟩) P2 → Calls Tryz.prog 232 #[.string (openF t P1), .int .i64 (leaf : Nat), .slice (some ⟨a3.block, a3.off + 11, none⟩) 2 (c3 - 11)] W fun e w' => e = .returned (.string X) ∧ Below W.heap.size W w' := fun W h => by
      rw [← hX]
      exact climb_calls (openF t P1) leaf P2 _ 2 (c3 - 11) W _ HL2.out.symm (by rw [HL2.out]; omega) (by rw [openF_size]; omega) (by omega) (fun x hx => by have := H8.out x (by simp [hx]); omega) h
    have hopen : ∀ (W : World), Kd.u8.Row 5 w.heap.size W A t → Kd.str.Row 9 w.heap.size W (some a3) P1 → Calls Tryz.prog 233 #[.slice A t.length c, .slice (some a3) 11 c3] W fun e w' => e = .returned (.string (openF t P1)) ∧ Below W.heap.size W w' := fun W h h' =>
      open_calls t P1 A (some a3) t.length 11 c c3 W _ _ rfl hl hc hm h rfl HL1.out (fun x hx => H8.out x (by simp [hx])) h'
    obtain ⟨O, hO⟩ : ∃ O, openF t P1 = O := ⟨_, rfl⟩
    rw [hX] at HV
    have HCL := Lib.hid hclimb
    have HOP := Lib.hid hopen
    have HO := Lib.hid hO
    have HC := Lib.hid hc
    have HM := Lib.hid hm
    clear hclimb hopen hX hO hm own3
    by_cases h16 : leaf < 4
    · have hge : ¬ (4 ≤ (leaf : Int)) := by omega
      refine wp_region_inv (by kernel_rfl) (by kernel_rfl) Rb (verG2 w.heap.size leaf t A a3 c c3 P1 P2 false root X) rb_refl rb_trans ⟨?_, ?_, ?_, ?_, ?_, ?_, ?_, ?_, ?_, ?_, ?_, ?_, ?_, ?_, ?_, ?_, trivial⟩ ?_
      · intro u w1 hR hdep K hK
        rw [if_pos (by rfl)]
        simp only [frameF, Act.put, List.setIfInBounds_toArray, List.set_cons_zero, List.set_cons_succ, Nat.reduceAdd] at hK ⊢
        clear hdep
        go_simp
        refine hK _ _ (rb_refl _) fun w3 h3 => ?_
        exact rfl
      · intro u w1 hR hdep K hK
        rw [if_pos (by rfl)]
        simp only [frameF, Act.put, List.setIfInBounds_toArray, List.set_cons_zero, List.set_cons_succ, Nat.reduceAdd] at hK ⊢
        clear hdep
        go_simp
        refine hK _ _ (rb_refl _) fun w3 h3 => ?_
        exact rfl
      · intro u w1 hR hdep K hK
        rw [if_pos (by rfl)]
        simp only [frameF, Act.put, List.setIfInBounds_toArray, List.set_cons_zero, List.set_cons_succ, Nat.reduceAdd] at hK ⊢
        have h1 : u 1 = .int .i64 2 := hdep 1 (by kernel_rfl) w1 (rb_refl _)
        simp only [h1] at hK ⊢
        clear h1 hdep
        go_simp
        refine hK _ _ (rb_refl _) fun w3 h3 => ?_
        exact rfl
      · intro u w1 hR hdep K hK
        rw [if_pos (by rfl)]
        simp only [frameF, Act.put, List.setIfInBounds_toArray, List.set_cons_zero, List.set_cons_succ, Nat.reduceAdd] at hK ⊢
        have h0 : u 0 = .int .i64 (leaf : Nat) := hdep 0 (by kernel_rfl) w1 (rb_refl _)
        have h2 : u 2 = .int .i64 4 := hdep 2 (by kernel_rfl) w1 (rb_refl _)
        simp only [h0, h2] at hK ⊢
        clear h0 h2 hdep
        go_simp
        refine hK _ _ (rb_refl _) fun w3 h3 => ?_
        exact rfl
      · intro u w1 hR hdep K hK
        rw [if_pos (by rfl)]
        simp only [frameF, Act.put, List.setIfInBounds_toArray, List.set_cons_zero, List.set_cons_succ, Nat.reduceAdd] at hK ⊢
        have h3' : u 3 = .bool false := hdep 3 (by kernel_rfl) w1 (rb_refl _)
        simp only [h3'] at hK ⊢
        clear h3' hdep
        go_simp
        refine hK _ _ (rb_refl _) fun w3 h3 => ?_
        exact rfl
      · intro u w1 hR hdep K hK
        have h4 : u 4 = .bool false := hdep 4 (by kernel_rfl) w1 (rb_refl _)
        rw [if_pos (by simp [Region.wanted, yielded, frameF, Act.put, h4])]
        simp only [frameF, Act.put, List.setIfInBounds_toArray, List.set_cons_zero, List.set_cons_succ, Nat.reduceAdd] at hK ⊢
        clear h4
        clear hdep
        go_simp
        refine hK _ _ (rb_refl _) fun w3 h3 => ?_
        exact fun _ => ⟨rfl, Kd.row_below (rb_trans _ _ _ hR h3) rT⟩
      · intro u w1 hR hdep K hK
        have h4 : u 4 = .bool false := hdep 4 (by kernel_rfl) w1 (rb_refl _)
        rw [if_pos (by simp [Region.wanted, yielded, frameF, Act.put, h4])]
        simp only [frameF, Act.put, List.setIfInBounds_toArray, List.set_cons_zero, List.set_cons_succ, Nat.reduceAdd] at hK ⊢
        clear h4
        clear hdep
        go_simp
        refine hK _ _ (rb_refl _) fun w3 h3 => ?_
        exact fun _ => rfl
      · intro u w1 hR hdep K hK
        have h4 : u 4 = .bool false := hdep 4 (by kernel_rfl) w1 (rb_refl _)
        rw [if_pos (by simp [Region.wanted, yielded, frameF, Act.put, h4])]
        simp only [frameF, Act.put, List.setIfInBounds_toArray, List.set_cons_zero, List.set_cons_succ, Nat.reduceAdd] at hK ⊢
        have h6 : u 6 = .slice (some a3) 13 c3 := hdep 6 (by kernel_rfl) w1 (rb_refl _) rfl
        simp only [h6] at hK ⊢
        clear h4 h6
        clear hdep
        go_simp
        refine hK _ _ (rb_refl _) fun w3 h3 => ?_
        exact fun _ => ⟨rfl, Kd.row_below (rb_trans _ _ _ hR h3) (rP1 _)⟩
      · intro u w1 hR hdep K hK
        have h4 : u 4 = .bool false := hdep 4 (by kernel_rfl) w1 (rb_refl _)
        rw [if_pos (by simp [Region.wanted, yielded, frameF, Act.put, h4])]
        simp only [frameF, Act.put, List.setIfInBounds_toArray, List.set_cons_zero, List.set_cons_succ, Nat.reduceAdd] at hK ⊢
        have h5 : _ ∧ _ := hdep 5 (by kernel_rfl) w1 (rb_refl _) rfl
        have h7 : _ ∧ _ := hdep 7 (by kernel_rfl) w1 (rb_refl _) rfl
        simp only [h5.1, h7.1] at hK ⊢
        have hO := HOP.out w1 h5.2 h7.2
        clear h4 h5 h7 hdep
        go_simp
        refine hO.mono ?_
        rintro e w2 ⟨rfl, b2'⟩
        refine hK _ _ b2' fun w3 h3 => ?_
        exact fun _ => rfl
      · intro u w1 hR hdep K hK
        have h4 : u 4 = .bool false := hdep 4 (by kernel_rfl) w1 (rb_refl _)
        rw [if_pos (by simp [Region.wanted, yielded, frameF, Act.put, h4])]
        simp only [frameF, Act.put, List.setIfInBounds_toArray, List.set_cons_zero, List.set_cons_succ, Nat.reduceAdd] at hK ⊢
        clear h4
        clear hdep
        go_simp
        refine hK _ _ (rb_refl _) fun w3 h3 => ?_
        exact fun _ => rfl
      · intro u w1 hR hdep K hK
        have h4 : u 4 = .bool false := hdep 4 (by kernel_rfl) w1 (rb_refl _)
        rw [if_pos (by simp [Region.wanted, yielded, frameF, Act.put, h4])]
        simp only [frameF, Act.put, List.setIfInBounds_toArray, List.set_cons_zero, List.set_cons_succ, Nat.reduceAdd] at hK ⊢
        clear h4
        clear hdep
        go_simp
        refine hK _ _ (rb_refl _) fun w3 h3 => ?_
        exact fun _ => rfl
      · intro u w1 hR hdep K hK
        have h4 : u 4 = .bool false := hdep 4 (by kernel_rfl) w1 (rb_refl _)
        rw [if_pos (by simp [Region.wanted, yielded, frameF, Act.put, h4])]
        simp only [frameF, Act.put, List.setIfInBounds_toArray, List.set_cons_zero, List.set_cons_succ, Nat.reduceAdd] at hK ⊢
        have h10 : u 10 = .slice (some a3) 13 c3 := hdep 10 (by kernel_rfl) w1 (rb_refl _) rfl
        simp only [h10] at hK ⊢
        clear h4 h10
        clear hdep
        go_simp
        refine hK _ _ (rb_refl _) fun w3 h3 => ?_
        exact fun _ => ⟨rfl, Kd.row_below (rb_trans _ _ _ hR h3) (rP2 _)⟩
      · intro u w1 hR hdep K hK
        have h4 : u 4 = .bool false := hdep 4 (by kernel_rfl) w1 (rb_refl _)
        rw [if_pos (by simp [Region.wanted, yielded, frameF, Act.put, h4])]
        simp only [frameF, Act.put, List.setIfInBounds_toArray, List.set_cons_zero, List.set_cons_succ, Nat.reduceAdd] at hK ⊢
        have h8 : u 8 = .string (openF t P1) := hdep 8 (by kernel_rfl) w1 (rb_refl _) rfl
        have h9 : u 9 = .int .i64 (leaf : Nat) := hdep 9 (by kernel_rfl) w1 (rb_refl _) rfl
        have h11 : _ ∧ _ := hdep 11 (by kernel_rfl) w1 (rb_refl _) rfl
        simp only [h8, h9, h11.1] at hK ⊢
        have hO := HCL.out w1 h11.2
        clear h4 h8 h9 h11 hdep
        go_simp
        refine hO.mono ?_
        rintro e w2 ⟨rfl, b2'⟩
        refine hK _ _ b2' fun w3 h3 => ?_
        exact fun _ => rfl
      · intro u w1 hR hdep K hK
        have h4 : u 4 = .bool false := hdep 4 (by kernel_rfl) w1 (rb_refl _)
        rw [if_pos (by simp [Region.wanted, yielded, frameF, Act.put, h4])]
        simp only [frameF, Act.put, List.setIfInBounds_toArray, List.set_cons_zero, List.set_cons_succ, Nat.reduceAdd] at hK ⊢
        clear h4
        clear hdep
        go_simp
        refine hK _ _ (rb_refl _) fun w3 h3 => ?_
        exact fun _ => rfl
      · intro u w1 hR hdep K hK
        have h4 : u 4 = .bool false := hdep 4 (by kernel_rfl) w1 (rb_refl _)
        rw [if_pos (by simp [Region.wanted, yielded, frameF, Act.put, h4])]
        simp only [frameF, Act.put, List.setIfInBounds_toArray, List.set_cons_zero, List.set_cons_succ, Nat.reduceAdd] at hK ⊢
        have h12 : u 12 = .string X := hdep 12 (by kernel_rfl) w1 (rb_refl _) rfl
        have h13 : u 13 = .string root := hdep 13 (by kernel_rfl) w1 (rb_refl _) rfl
        simp only [h12, h13] at hK ⊢
        clear h4 h12 h13
        clear hdep
        go_simp
        refine hK _ _ (rb_refl _) fun w3 h3 => ?_
        exact fun _ => by show Value.bool _ = Value.bool _; rw [bytes_beq]
      · intro u w1 hR hdep K hK
        have h4 : u 4 = .bool false := hdep 4 (by kernel_rfl) w1 (rb_refl _)
        rw [if_pos (by rfl)]
        simp only [frameF, Act.put, List.setIfInBounds_toArray, List.set_cons_zero, List.set_cons_succ, Nat.reduceAdd] at hK ⊢
        have h14 : u 14 = .bool (!decide (X = root)) := hdep 14 (by kernel_rfl) w1 (rb_refl _) rfl
        simp only [h4, h14] at hK ⊢
        clear h4 h14 hdep
        go_simp
        refine hK _ _ (rb_refl _) fun w3 h3 => ?_
        exact by show Value.bool _ = Value.bool (false || _); rw [Bool.false_or]
      · intro u w' hR hall
        have h15 : u 15 = .bool (false || !decide (X = root)) := hall 15 (by decide)
        have bw' := bl_trans (bl_drew b13) hR
        by_cases hX : X = root
        · have e15 : u 15 = .bool false := by rw [h15, decide_eq_true hX]; rfl
          have hv : verF root 2 t sig = some leaf := by rw [HV.out, if_pos ⟨h16, hX⟩]
          have HVV := Lib.hid hv
          clear hall h15 hX hv
          simp only [frameF, Act.put, List.setIfInBounds_toArray, List.set_cons_zero, List.set_cons_succ, Nat.reduceAdd, e15]
          clear e15
          go_wp2_with fail
          go_ret2
          exact ⟨by rw [HVV.out]; rfl, bw'⟩
        · have e15 : u 15 = .bool true := by rw [h15, decide_eq_false hX]; rfl
          have hv : verF root 2 t sig = none := by rw [HV.out, if_neg fun h => hX h.2]
          have HVV := Lib.hid hv
          clear hall h15 hX hv
          simp only [frameF, Act.put, List.setIfInBounds_toArray, List.set_cons_zero, List.set_cons_succ, Nat.reduceAdd, e15]
          clear e15
          go_wp2_with fail
          go_ret2
          exact ⟨by rw [HVV.out]; rfl, bw'⟩
    · have hge : 4 ≤ (leaf : Int) := by omega
      refine wp_region_inv (by kernel_rfl) (by kernel_rfl) Rb (verG2 w.heap.size leaf t A a3 c c3 P1 P2 true root X) rb_refl rb_trans ⟨?_, ?_, ?_, ?_, ?_, ?_, ?_, ?_, ?_, ?_, ?_, ?_, ?_, ?_, ?_, ?_, trivial⟩ ?_
      · intro u w1 hR hdep K hK
        rw [if_pos (by rfl)]
        simp only [frameF, Act.put, List.setIfInBounds_toArray, List.set_cons_zero, List.set_cons_succ, Nat.reduceAdd] at hK ⊢
        clear hdep
        go_simp
        refine hK _ _ (rb_refl _) fun w3 h3 => ?_
        exact rfl
      · intro u w1 hR hdep K hK
        rw [if_pos (by rfl)]
        simp only [frameF, Act.put, List.setIfInBounds_toArray, List.set_cons_zero, List.set_cons_succ, Nat.reduceAdd] at hK ⊢
        clear hdep
        go_simp
        refine hK _ _ (rb_refl _) fun w3 h3 => ?_
        exact rfl
      · intro u w1 hR hdep K hK
        rw [if_pos (by rfl)]
        simp only [frameF, Act.put, List.setIfInBounds_toArray, List.set_cons_zero, List.set_cons_succ, Nat.reduceAdd] at hK ⊢
        have h1 : u 1 = .int .i64 2 := hdep 1 (by kernel_rfl) w1 (rb_refl _)
        simp only [h1] at hK ⊢
        clear h1 hdep
        go_simp
        refine hK _ _ (rb_refl _) fun w3 h3 => ?_
        exact rfl
      · intro u w1 hR hdep K hK
        rw [if_pos (by rfl)]
        simp only [frameF, Act.put, List.setIfInBounds_toArray, List.set_cons_zero, List.set_cons_succ, Nat.reduceAdd] at hK ⊢
        have h0 : u 0 = .int .i64 (leaf : Nat) := hdep 0 (by kernel_rfl) w1 (rb_refl _)
        have h2 : u 2 = .int .i64 4 := hdep 2 (by kernel_rfl) w1 (rb_refl _)
        simp only [h0, h2] at hK ⊢
        clear h0 h2 hdep
        go_simp
        refine hK _ _ (rb_refl _) fun w3 h3 => ?_
        exact rfl
      · intro u w1 hR hdep K hK
        rw [if_pos (by rfl)]
        simp only [frameF, Act.put, List.setIfInBounds_toArray, List.set_cons_zero, List.set_cons_succ, Nat.reduceAdd] at hK ⊢
        have h3' : u 3 = .bool true := hdep 3 (by kernel_rfl) w1 (rb_refl _)
        simp only [h3'] at hK ⊢
        clear h3' hdep
        go_simp
        refine hK _ _ (rb_refl _) fun w3 h3 => ?_
        exact rfl
      · intro u w1 hR hdep K hK
        have h4 : u 4 = .bool true := hdep 4 (by kernel_rfl) w1 (rb_refl _)
        rw [if_neg (by simp [Region.wanted, yielded, frameF, Act.put, h4])]
        exact hK _ _ (rb_refl _) fun w3 h3 => fun hg => by cases hg
      · intro u w1 hR hdep K hK
        have h4 : u 4 = .bool true := hdep 4 (by kernel_rfl) w1 (rb_refl _)
        rw [if_neg (by simp [Region.wanted, yielded, frameF, Act.put, h4])]
        exact hK _ _ (rb_refl _) fun w3 h3 => fun hg => by cases hg
      · intro u w1 hR hdep K hK
        have h4 : u 4 = .bool true := hdep 4 (by kernel_rfl) w1 (rb_refl _)
        rw [if_neg (by simp [Region.wanted, yielded, frameF, Act.put, h4])]
        exact hK _ _ (rb_refl _) fun w3 h3 => fun hg => by cases hg
      · intro u w1 hR hdep K hK
        have h4 : u 4 = .bool true := hdep 4 (by kernel_rfl) w1 (rb_refl _)
        rw [if_neg (by simp [Region.wanted, yielded, frameF, Act.put, h4])]
        exact hK _ _ (rb_refl _) fun w3 h3 => fun hg => by cases hg
      · intro u w1 hR hdep K hK
        have h4 : u 4 = .bool true := hdep 4 (by kernel_rfl) w1 (rb_refl _)
        rw [if_neg (by simp [Region.wanted, yielded, frameF, Act.put, h4])]
        exact hK _ _ (rb_refl _) fun w3 h3 => fun hg => by cases hg
      · intro u w1 hR hdep K hK
        have h4 : u 4 = .bool true := hdep 4 (by kernel_rfl) w1 (rb_refl _)
        rw [if_neg (by simp [Region.wanted, yielded, frameF, Act.put, h4])]
        exact hK _ _ (rb_refl _) fun w3 h3 => fun hg => by cases hg
      · intro u w1 hR hdep K hK
        have h4 : u 4 = .bool true := hdep 4 (by kernel_rfl) w1 (rb_refl _)
        rw [if_neg (by simp [Region.wanted, yielded, frameF, Act.put, h4])]
        exact hK _ _ (rb_refl _) fun w3 h3 => fun hg => by cases hg
      · intro u w1 hR hdep K hK
        have h4 : u 4 = .bool true := hdep 4 (by kernel_rfl) w1 (rb_refl _)
        rw [if_neg (by simp [Region.wanted, yielded, frameF, Act.put, h4])]
        exact hK _ _ (rb_refl _) fun w3 h3 => fun hg => by cases hg
      · intro u w1 hR hdep K hK
        have h4 : u 4 = .bool true := hdep 4 (by kernel_rfl) w1 (rb_refl _)
        rw [if_neg (by simp [Region.wanted, yielded, frameF, Act.put, h4])]
        exact hK _ _ (rb_refl _) fun w3 h3 => fun hg => by cases hg
      · intro u w1 hR hdep K hK
        have h4 : u 4 = .bool true := hdep 4 (by kernel_rfl) w1 (rb_refl _)
        rw [if_neg (by simp [Region.wanted, yielded, frameF, Act.put, h4])]
        exact hK _ _ (rb_refl _) fun w3 h3 => fun hg => by cases hg
      · intro u w1 hR hdep K hK
        have h4 : u 4 = .bool true := hdep 4 (by kernel_rfl) w1 (rb_refl _)
        rw [if_pos (by rfl)]
        simp only [frameF, Act.put, List.setIfInBounds_toArray, List.set_cons_zero, List.set_cons_succ, Nat.reduceAdd] at hK ⊢
        simp only [h4] at hK ⊢
        clear h4 hdep
        go_simp
        refine hK _ _ (rb_refl _) fun w3 h3 => ?_
        exact rfl
      · intro u w' hR hall
        have e15 : u 15 = .bool true := hall 15 (by decide)
        have bw' := bl_trans (bl_drew b13) hR
        have hv : verF root 2 t sig = none := by rw [HV.out, if_neg fun h => h16 h.1]
        have HVV := Lib.hid hv
        clear hall hv
        simp only [frameF, Act.put, List.setIfInBounds_toArray, List.set_cons_zero, List.set_cons_succ, Nat.reduceAdd, e15]
        clear e15
        go_wp2_with fail
        go_ret2
        exact ⟨by rw [HVV.out]; rfl, bw'⟩
end Go.Proofs.YtcbfpdenjdgnlaaGreat
