/- Package mootref06: Vote. No claim of its own; no condition. -/
import Derived.Test.YtglneailkgminaaGreatRefH
namespace Go.Proofs.YtglneailkgminaaGreat
open Go.ChangeShapes Go.WideShapes Go.ChangeAt Go.RowKit
set_option linter.unusedVariables false
set_option linter.unusedSimpArgs false
set_option maxHeartbeats 6400000 in
set_option maxRecDepth 100000 in
theorem refvote_calls (v : Vote) (w : World) : Calls Tryz.prog 9 #[.agg (vcs v)] w fun x w' => x = .returned (.int .i64 (chkV v)) ∧ Below w.heap.size w w' := by
  have q0 := bl_alloc (Below.refl w.heap.size w) (.cells (vcs v) 29)
  have a0 : (w.alloc (.cells (vcs v) 29)).heap[w.heap.size]? = some (.cells (vcs v) 29 (0, 0)) := alloc_new w _
  have HC : Hid (chkV v = if (decide (1 ≤ v.kind) && (decide (v.kind ≤ 4) && (decide (0 ≤ v.view) && (decide (v.view ≤ 1048576) && ((if (v.kind == 4) = true then (v.height == 0) && v.block.toList.isEmpty else decide (0 ≤ v.height) && decide (v.height ≤ 1048576) && ((v.block.size : Int) == 32)) && ((if (v.kind == 3) = true then decide (1 ≤ v.ticks) && decide (v.ticks ≤ 1048576) else v.ticks == 0) && ((decide (0 ≤ v.signer) && decide (v.signer < 7)) && decide (v.sig.size ≤ 4096)))))))) = true then 0 else 9) := Lib.hid rfl
  go_enter Tryz.func9, Tryz.ntmps9
  go_upto_region 1 with fail
  generalize w.alloc (.cells (vcs v) 29) = W at *
  obtain ⟨r0, r1, r2, r3, r4, r5, r6⟩ := vcells a0
  go_wp2_with fail
  all_goals (go_ret; refine ⟨?_, q0⟩)
  all_goals first
    | exact ret_int (a := 9) (by
        rw [HC.out, if_neg]
        intro hh
        simp only [Bool.and_eq_true, decide_eq_true_eq] at hh
        obtain ⟨c1, c2, c3, c4, c5, c6, ⟨c7, c8⟩, c9⟩ := hh
        clear HC
        first
          | omega
          | (simp_all; done)
          | (split at c5 <;> split at c6 <;> simp_all <;> omega))
    | exact ret_int (a := 0) (by
        rw [HC.out, if_pos]
        simp only [Bool.and_eq_true, decide_eq_true_eq]
        clear HC
        refine ⟨by omega, by omega, by omega, by omega, ?_, ?_, ⟨by omega, by omega⟩, by omega⟩
        · split <;> (simp_all <;> omega)
        · split <;> (simp_all <;> omega))
end Go.Proofs.YtglneailkgminaaGreat
/- Package mootref06: VoteText, VoteValid. No claim of its own; no condition. -/
namespace Go.Proofs.YtglneailkgminaaGreat
open Go.ChangeShapes Go.WideShapes Go.ChangeAt Go.RowKit
set_option linter.unusedVariables false
set_option linter.unusedSimpArgs false
set_option maxHeartbeats 1600000 in
set_option maxRecDepth 100000 in
theorem refText_calls (v : Vote) (w : World) (h : voteOk v = true) : Calls Tryz.prog 11 #[.agg (vcs v)] w fun x w' => (∃ u, x = .returned u ∧ kBB.K 0 w' (vtB v) [u]) ∧ Below w.heap.size w w' := by
  have hz : v.block.size ≤ 1048576 := by have := voteOk_bd h; omega
  have hck := fun W => refvote_calls v W
  have h0 : chkV v = 0 := by unfold chkV; rw [if_pos h]
  rw [h0] at hck
  have q0 := bl_alloc (Below.refl w.heap.size w) (.cells (vcs v) 29)
  have a0 : (w.alloc (.cells (vcs v) 29)).heap[w.heap.size]? = some (.cells (vcs v) 29 (0, 0)) := alloc_new w _
  have hvt := fun (W : World) => reffields_calls 0 ([], 0) v (.agg #[.slice none 0 0, .int .i64 0]) W ⟨none, 0, 0, rfl, ⟨none, 0, rfl, by simp, by simp [maxLen], Kd.row_nil _ _ _ _ _⟩⟩ (Nat.zero_le _) (by simp) hz
  have hvb : (vfW ([], 0) v).1 = vtB v := rfl
  have hf : ∀ (W : World) (A : Option Addr) (n c : Nat) (e : Int), (Instr.field 56 (.agg #[.slice A n c, .int .i64 e]) 0).run Tryz.prog W = .ok (.slice A n c) W := fun W A n c e => by kernel_rfl
  have HCK := Lib.hid hck
  have HVT := Lib.hid hvt
  clear hck h0 hvt
  unfold vcs at *
  go_enter Tryz.func11, Tryz.ntmps11
  go_upto_region 1 with fail
  change Code.wp _ _ _ _ (w.alloc (.cells (vcs v) 29))
  have a0' : (w.alloc (.cells (vcs v) 29)).heap[w.heap.size]? = some (.cells (vcs v) 29 (0, 0)) := a0
  have q0' : Below w.heap.size w (w.alloc (.cells (vcs v) 29)) := q0
  clear a0 q0
  generalize w.alloc (.cells (vcs v) 29) = W at *
  obtain ⟨r0, r1, r2, r3, r4, r5, r6⟩ := vcells a0'
  go_wp2_with (first
    | (go_at_call 9; refine (HCK.out _).mono ?_; rintro x w1 ⟨rfl, b1⟩; have a1 := block_below b1 a0'; obtain ⟨p0, p1, p2, p3, p4, p5, p6⟩ := vcells a1)
    | (go_at_call 24; refine (HVT.out _).mono ?_; rintro x w2 ⟨⟨z, rfl, A, n, c, rfl, kk⟩, b2⟩))
  go_ret
  exact ⟨⟨_, rfl, by rw [← hvb]; exact kk⟩, bl_trans q0' (bl_trans b1 b2)⟩
set_option maxHeartbeats 3200000 in
set_option maxRecDepth 100000 in
theorem refvalid_calls (v : Vote) (roots : List ByteArray) (A : Option Addr) (n c B : Nat) (w : World) (hn : n = roots.length) (hr : Kd.str.Row 9 B w A roots) (hz : v.sig.size ≤ 140737488351232) (hl : roots.length ≤ 1048576) :
    Calls Tryz.prog 5 #[.agg (vcs v), .slice A n c] w fun x w' => x = .returned (.bool (validV v roots)) ∧ Below w.heap.size w w' := by
  subst hn
  have hck := fun W => refvote_calls v W
  have q0 := bl_alloc (Below.refl w.heap.size w) (.cells (vcs v) 29)
  have a0 : (w.alloc (.cells (vcs v) 29)).heap[w.heap.size]? = some (.cells (vcs v) 29 (0, 0)) := alloc_new w _
  cases hok : voteOk v with
  | false =>
    have hv : validV v roots = false := by unfold validV; rw [hok]; rfl
    have h0 : chkV v = 9 := by unfold chkV; rw [if_neg (by rw [hok]; simp)]
    rw [hv]
    rw [h0] at hck
    have HCK := Lib.hid hck
    clear hck h0 hv hok
    go_enter Tryz.func5, Tryz.ntmps5
    go_upto_region 1 with fail
    generalize w.alloc (.cells (vcs v) 29) = W at *
    obtain ⟨r0, r1, r2, r3, r4, r5, r6⟩ := vcells a0
    go_wp2_with (go_at_call 9; refine (HCK.out _).mono ?_; rintro x w1 ⟨rfl, b1⟩)
    go_ret
    exact ⟨rfl, bl_trans q0 b1⟩
  | true =>
    have h0 : chkV v = 0 := by unfold chkV; rw [if_pos hok]
    rw [h0] at hck
    have HCK := Lib.hid hck
    clear hck h0
    by_cases hs : v.signer < (roots.length : Int)
    · have hbd := (voteOk_bd hok).2.2.2.2.2.1
      obtain ⟨k, hk⟩ : ∃ k : Nat, v.signer.toNat = k := ⟨_, rfl⟩
      obtain ⟨root, hroot⟩ : ∃ x, roots[k]? = some x := ⟨_, List.getElem?_eq_getElem (by omega)⟩
      obtain ⟨ad, rfl, c0⟩ := str_at hr hroot
      rw [← hk] at c0
      have hgd : roots.getD v.signer.toNat ⟨#[]⟩ = root := by rw [hk, List.getD_eq_getElem?_getD, hroot]; rfl
      obtain ⟨tb, htb⟩ : ∃ t, vtB v = t := ⟨_, rfl⟩
      have htl : tb.length ≤ 16384 := by rw [← htb]; exact (vfW_ok hok).2
      obtain ⟨r, hrr⟩ : ∃ r, verF root 4 tb v.sig = r := ⟨_, rfl⟩
      have hv : validV v roots = r.isSome := by unfold validV; rw [hok, decide_eq_true hs, hgd, htb, hrr]; rfl
      obtain ⟨x, hx⟩ : ∃ x : Int, ((r.getD 0 : Nat) : Int) = x := ⟨_, rfl⟩
      obtain ⟨ok, hokk⟩ : ∃ ok, r.isSome = ok := ⟨_, rfl⟩
      have hver := fun (W : World) (A6 : Option Addr) (c6 : Nat) (h : Kd.u8.Row 5 0 W A6 tb) => refverify4_calls root v.sig tb A6 tb.length c6 W 0 rfl (by omega) h hz
      rw [hrr, hx, hokk] at hver
      rw [hv, hokk]
      have ht := fun W => refText_calls v W hok
      rw [htb] at ht
      have HVER := Lib.hid hver
      have HT := Lib.hid ht
      have hs0 : 0 ≤ v.signer := hbd.1
      have HA := Lib.hid a0
      have c0 := cell_below q0 c0
      clear hver ht hv hx hokk hrr htb htl hgd hroot hk hok hbd
      go_enter Tryz.func5, Tryz.ntmps5
      go_upto_region 1 with fail
      obtain ⟨G, hG⟩ : ∃ G, w.heap.size = G := ⟨_, rfl⟩
      have hG' := Lib.hid hG
      generalize w.alloc (.cells (vcs v) 29) = W at *
      simp only [hG] at a0 HA ⊢
      clear hG
      obtain ⟨r0, r1, r2, r3, r4, r5, r6⟩ := vcells a0
      go_upto_region 3 with (go_at_call 9; refine (HCK.out _).mono ?_; rintro x w1 ⟨rfl, b1⟩; have a1 := block_below b1 a0; obtain ⟨p0, p1, p2, p3, p4, p5, p6⟩ := vcells a1)
      clear r0 r1 r2 r3 r4 r5 r6 p0 p1 p2 p3 p4 p5 p6
      have c0 := cell_below b1 c0
      have HA := Lib.hid a1
      have B1 := bl_trans q0 b1
      clear a0 a1
      refine wp_region_inv (by kernel_rfl) (by kernel_rfl) Rb (valG G ad roots.length c v root tb x ok) rb_refl rb_trans ⟨?_, ?_, ?_, ?_, ?_, ?_, ?_, ?_, ?_, ?_, ?_, ?_, ?_, ?_, ?_, trivial⟩ ?_
      · intro u w1 hR hdep K hK
        rw [if_pos (by rfl)]
        simp only [frameF, Act.put, List.setIfInBounds_toArray, List.set_cons_zero, List.set_cons_succ, Nat.reduceAdd] at hK ⊢
        clear hdep
        go_simp
        refine hK _ _ (rb_refl _) fun w3 h3 => ?_
        exact rfl
      · intro u w1 hR hdep K hK
        rw [if_pos (by rfl)]
        simp only [frameF, Act.put, List.setIfInBounds_toArray, List.set_cons_zero, List.set_cons_succ, Nat.reduceAdd] at hK ⊢
        clear hdep
        go_simp
        refine hK _ _ (rb_refl _) fun w3 h3 => ?_
        exact rfl
      · intro u w1 hR hdep K hK
        rw [if_pos (by rfl)]
        simp only [frameF, Act.put, List.setIfInBounds_toArray, List.set_cons_zero, List.set_cons_succ, Nat.reduceAdd] at hK ⊢
        have u1 : u 1 = .pointer (some ⟨G, 5, none⟩) := hdep 1 (by kernel_rfl) w1 (rb_refl _)
        obtain ⟨r0, r1, r2, r3, r4, r5, r6⟩ := vcells (block_below hR HA.out)
        simp only [u1] at hK ⊢
        clear u1 hdep
        go_simp
        refine hK _ _ (rb_refl _) fun w3 h3 => ?_
        exact rfl
      · intro u w1 hR hdep K hK
        rw [if_pos (by rfl)]
        simp only [frameF, Act.put, List.setIfInBounds_toArray, List.set_cons_zero, List.set_cons_succ, Nat.reduceAdd] at hK ⊢
        have u0 : u 0 = .slice (some ad) roots.length c := hdep 0 (by kernel_rfl) w1 (rb_refl _)
        have u2 : u 2 = .int .i64 v.signer := hdep 2 (by kernel_rfl) w1 (rb_refl _)
        simp only [u0, u2] at hK ⊢
        clear u0 u2 hdep
        go_simp
        refine hK _ _ (rb_refl _) fun w3 h3 => ?_
        exact rfl
      · intro u w1 hR hdep K hK
        rw [if_pos (by rfl)]
        simp only [frameF, Act.put, List.setIfInBounds_toArray, List.set_cons_zero, List.set_cons_succ, Nat.reduceAdd] at hK ⊢
        have u3 : u 3 = .pointer (some (ad.add v.signer.toNat)) := hdep 3 (by kernel_rfl) w1 (rb_refl _)
        have cr := cell_below hR c0
        simp only [u3] at hK ⊢
        clear u3 hdep
        go_simp
        refine hK _ _ (rb_refl _) fun w3 h3 => ?_
        exact rfl
      · intro u w1 hR hdep K hK
        rw [if_pos (by rfl)]
        simp only [frameF, Act.put, List.setIfInBounds_toArray, List.set_cons_zero, List.set_cons_succ, Nat.reduceAdd] at hK ⊢
        obtain ⟨r0, r1, r2, r3, r4, r5, r6⟩ := vcells (block_below hR HA.out)
        clear hdep
        go_simp
        refine hK _ _ (rb_refl _) fun w3 h3 => ?_
        exact rfl
      · intro u w1 hR hdep K hK
        rw [if_pos (by rfl)]
        simp only [frameF, Act.put, List.setIfInBounds_toArray, List.set_cons_zero, List.set_cons_succ, Nat.reduceAdd] at hK ⊢
        have u5 : u 5 = .agg (vcs v) := hdep 5 (by kernel_rfl) w1 (rb_refl _)
        simp only [u5] at hK ⊢
        clear u5 hdep
        go_simp
        refine (HT.out _).mono ?_
        rintro x w2 ⟨⟨y, rfl, ky⟩, b2⟩
        refine hK _ _ b2 fun w3 h3 => ?_
        exact k_rb h3 ky
      · intro u w1 hR hdep K hK
        rw [if_pos (by rfl)]
        simp only [frameF, Act.put, List.setIfInBounds_toArray, List.set_cons_zero, List.set_cons_succ, Nat.reduceAdd] at hK ⊢
        clear hdep
        go_simp
        refine hK _ _ (rb_refl _) fun w3 h3 => ?_
        exact rfl
      · intro u w1 hR hdep K hK
        rw [if_pos (by rfl)]
        simp only [frameF, Act.put, List.setIfInBounds_toArray, List.set_cons_zero, List.set_cons_succ, Nat.reduceAdd] at hK ⊢
        have u7 : u 7 = .pointer (some ⟨G, 6, none⟩) := hdep 7 (by kernel_rfl) w1 (rb_refl _)
        obtain ⟨r0, r1, r2, r3, r4, r5, r6⟩ := vcells (block_below hR HA.out)
        simp only [u7] at hK ⊢
        clear u7 hdep
        go_simp
        refine hK _ _ (rb_refl _) fun w3 h3 => ?_
        exact rfl
      · intro u w1 hR hdep K hK
        rw [if_pos (by rfl)]
        simp only [frameF, Act.put, List.setIfInBounds_toArray, List.set_cons_zero, List.set_cons_succ, Nat.reduceAdd] at hK ⊢
        have u4 : u 4 = .string root := hdep 4 (by kernel_rfl) w1 (rb_refl _)
        have u6 : kBB.K 0 w1 tb [u 6] := hdep 6 (by kernel_rfl) w1 (rb_refl _)
        have u8 : u 8 = .string v.sig := hdep 8 (by kernel_rfl) w1 (rb_refl _)
        obtain ⟨A6, c6, e6, l6, m6, r6⟩ := k_form u6
        simp only [u4, e6, u8] at hK ⊢
        clear u4 u6 u8 e6 hdep
        go_simp
        refine (HVER.out _ A6 c6 r6).mono ?_
        rintro x w2 ⟨rfl, b2⟩
        refine hK _ _ b2 fun w3 h3 => ?_
        exact rfl
      · intro u w1 hR hdep K hK
        rw [if_pos (by rfl)]
        simp only [frameF, Act.put, List.setIfInBounds_toArray, List.set_cons_zero, List.set_cons_succ, Nat.reduceAdd] at hK ⊢
        have u9 : u 9 = .tuple #[.int .i64 x, .bool ok] := hdep 9 (by kernel_rfl) w1 (rb_refl _)
        simp only [u9] at hK ⊢
        clear u9 hdep
        go_simp
        refine hK _ _ (rb_refl _) fun w3 h3 => ?_
        exact rfl
      · intro u w1 hR hdep K hK
        rw [if_pos (by rfl)]
        simp only [frameF, Act.put, List.setIfInBounds_toArray, List.set_cons_zero, List.set_cons_succ, Nat.reduceAdd] at hK ⊢
        have u10 : u 10 = .tuple #[.int .i64 x, .bool ok] := hdep 10 (by kernel_rfl) w1 (rb_refl _)
        simp only [u10] at hK ⊢
        clear u10 hdep
        go_simp
        refine hK _ _ (rb_refl _) fun w3 h3 => ?_
        exact rfl
      · intro u w1 hR hdep K hK
        rw [if_pos (by rfl)]
        simp only [frameF, Act.put, List.setIfInBounds_toArray, List.set_cons_zero, List.set_cons_succ, Nat.reduceAdd] at hK ⊢
        have u10 : u 10 = .tuple #[.int .i64 x, .bool ok] := hdep 10 (by kernel_rfl) w1 (rb_refl _)
        simp only [u10] at hK ⊢
        clear u10 hdep
        go_simp
        refine hK _ _ (rb_refl _) fun w3 h3 => ?_
        exact rfl
      · intro u w1 hR hdep K hK
        rw [if_pos (by rfl)]
        simp only [frameF, Act.put, List.setIfInBounds_toArray, List.set_cons_zero, List.set_cons_succ, Nat.reduceAdd] at hK ⊢
        have u11 : u 11 = .int .i64 x := hdep 11 (by kernel_rfl) w1 (rb_refl _)
        simp only [u11] at hK ⊢
        clear u11 hdep
        go_simp
        refine hK _ _ (rb_refl _) fun w3 h3 => ?_
        exact rfl
      · intro u w1 hR hdep K hK
        rw [if_pos (by rfl)]
        simp only [frameF, Act.put, List.setIfInBounds_toArray, List.set_cons_zero, List.set_cons_succ, Nat.reduceAdd] at hK ⊢
        have u12 : u 12 = .bool ok := hdep 12 (by kernel_rfl) w1 (rb_refl _)
        simp only [u12] at hK ⊢
        clear u12 hdep
        go_simp
        refine hK _ _ (rb_refl _) fun w3 h3 => ?_
        exact rfl
      · intro u w' hR hall
        have h14 : u 14 = .bool ok := hall 14 (by decide)
        have bw' := bl_trans (bl_drew B1) hR
        clear hall
        simp only [frameF, Act.put, List.setIfInBounds_toArray, List.set_cons_zero, List.set_cons_succ, Nat.reduceAdd, h14]
        clear h14
        go_wp2_with fail
        go_ret
        exact ⟨rfl, bw'⟩
    · have hv : validV v roots = false := by unfold validV; rw [hok, decide_eq_false hs]; rfl
      rw [hv]
      have hge : v.signer ≥ (roots.length : Int) := by omega
      clear hv hok
      go_enter Tryz.func5, Tryz.ntmps5
      go_upto_region 1 with fail
      generalize w.alloc (.cells (vcs v) 29) = W at *
      obtain ⟨r0, r1, r2, r3, r4, r5, r6⟩ := vcells a0
      go_upto_region 1 with fail
      go_wp2_with (go_at_call 9; refine (HCK.out _).mono ?_; rintro x w1 ⟨rfl, b1⟩; have a1 := block_below b1 a0; obtain ⟨p0, p1, p2, p3, p4, p5, p6⟩ := vcells a1)
      go_ret
      exact ⟨rfl, bl_trans q0 b1⟩
end Go.Proofs.YtglneailkgminaaGreat
