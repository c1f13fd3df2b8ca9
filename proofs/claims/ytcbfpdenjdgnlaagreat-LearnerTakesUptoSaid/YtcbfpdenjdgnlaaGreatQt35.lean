/- Package tx: Text, Valid. No claim of its own; no condition. Turned by program out of VotC. -/
import Derived.Test.YtcbfpdenjdgnlaaGreatQt33
import Derived.Test.YtcbfpdenjdgnlaaGreatQt34
namespace Go.Proofs.YtcbfpdenjdgnlaaGreat
open Go.ChangeShapes Go.WideShapes Go.ChangeAt Go.RowKit
set_option linter.unusedVariables false
set_option linter.unusedSimpArgs false
/-- A transaction's octets that are signed. -/
def ttB (t : Tx) : List UInt8 := (tfW ([], 0) t).1
theorem txOk_bd {t : Tx} (h : txOk t = true) : (0 ≤ t.frm ∧ t.frm < 4) ∧ (0 ≤ t.to ∧ t.to < 4) ∧ (1 ≤ t.amount ∧ t.amount ≤ 1000) ∧ (0 ≤ t.nonce ∧ t.nonce ≤ 1099511627776) ∧ t.sig.size ≤ 4096 := by
  unfold txOk clientB at h
  simp only [Bool.and_eq_true, decide_eq_true_eq] at h
  obtain ⟨h1, h2, _, h3, h4, h5, h6, h7⟩ := h
  exact ⟨h1, h2, ⟨h3, h4⟩, ⟨h5, h6⟩, h7⟩
theorem tfW_ok {t : Tx} (h : txOk t = true) : tfW ([], 0) t = (ttB t, 0) ∧ (ttB t).length ≤ 16384 := by
  obtain ⟨h1, h2, h3, h4, _⟩ := txOk_bd h
  have n_st : ∀ {s : List UInt8 × Int} {n : Int} {L : Nat}, s.2 = 0 ∧ s.1.length ≤ L → L ≤ 16384 → 0 ≤ n → n ≤ 1099511627776 → (numW s n).2 = 0 ∧ (numW s n).1.length ≤ L + 6 := by
    intro s n L ⟨a, b⟩ c d e
    rw [numW_in d e (by omega)]
    refine ⟨a, ?_⟩
    rw [List.length_append, putB_len]
    omega
  have s1 : (textW ([], 0) txWord).2 = 0 ∧ (textW ([], 0) txWord).1.length ≤ 34 := by
    rw [textW_in (by decide) (by simp)]
    refine ⟨rfl, ?_⟩
    rw [List.length_append, List.length_append, putB_len, bl_len]
    decide
  have s2 := n_st (n := t.frm) s1 (by omega) (by omega) (by omega)
  have s3 := n_st (n := t.to) s2 (by omega) (by omega) (by omega)
  have s4 := n_st (n := t.amount) s3 (by omega) (by omega) (by omega)
  have s5 := n_st (n := t.nonce) s4 (by omega) (by omega) (by omega)
  have key : ∃ l : List UInt8, tfW ([], 0) t = (l, 0) ∧ l.length ≤ 16384 := ⟨(tfW ([], 0) t).1, Prod.ext rfl s5.1, Nat.le_trans s5.2 (by omega)⟩
  obtain ⟨l, h7, h8⟩ := key
  have h9 : ttB t = l := by unfold ttB; rw [h7]
  rw [h9]
  exact ⟨h7, h8⟩
set_option maxHeartbeats 1600000 in
set_option maxRecDepth 100000 in
theorem tText_calls (v : Tx) (w : World) (h : txOk v = true) : Calls Tryz.prog 197 #[.agg (tcs v)] w fun x w' => (∃ u, x = .returned u ∧ Kd.u8.Own 5 w.heap.size w' w.heap.size u (ttB v)) ∧ Below w.heap.size w w' := by
  have hck := fun W => tcheck_calls v W
  have h0 : chkT v = 0 := by unfold chkT; rw [if_pos h]
  rw [h0] at hck
  have hd : doneW (tfW ([], 0) v) = (ttB v, 0) := by
    obtain ⟨h1, h2⟩ := tfW_ok h
    rw [h1]
    show (if ((0 : Int) == 0) = true then (if 16384 < (ttB v).length then (([] : List UInt8), (5 : Int)) else (ttB v, 0)) else ([], 0)) = _
    rw [if_pos (by decide), if_neg (by omega)]
  have q0 := bl_alloc (Below.refl w.heap.size w) (.cells (tcs v) 77)
  have a0 : (w.alloc (.cells (tcs v) 77)).heap[w.heap.size]? = some (.cells (tcs v) 77 (0, 0)) := alloc_new w _
  have hvt := fun (M N : Nat) (W : World) (hW : WrS M W N [] 0) => ttext_calls M N ([], 0) v W hW (by simp)
  have hdn := fun (M N : Nat) (W : World) (hW : WrS M W N (tfW ([], 0) v).1 (tfW ([], 0) v).2) => done_calls M N (tfW ([], 0) v) W hW (by have := tfW_bd (s := ([], 0)) (by simp) v; omega)
  rw [hd] at hdn
  have HCK := Lib.hid hck
  have HVT := Lib.hid hvt
  have HDN := Lib.hid hdn
  clear hck h0 hd hvt hdn
  unfold tcs at *
  go_enter Tryz.func197, Tryz.ntmps197
  go_upto_region 1 with fail
  change Code.wp _ _ _ _ (w.alloc (.cells (tcs v) 77))
  have a0' : (w.alloc (.cells (tcs v) 77)).heap[w.heap.size]? = some (.cells (tcs v) 77 (0, 0)) := a0
  have q0' : Below w.heap.size w (w.alloc (.cells (tcs v) 77)) := q0
  clear a0 q0
  generalize w.alloc (.cells (tcs v) 77) = W at *
  obtain ⟨r0, r1, r2, r3, r4⟩ := tcells a0'
  go_upto_region 4 with (first
    | (go_at_call 189; refine (HCK.out _).mono ?_; rintro x w1 ⟨rfl, b1⟩)
    | (go_at_call 80; refine (new_calls _).mono ?_; rintro x w2 ⟨rfl, W2, b2⟩))
  have b12 := bl_trans b1 b2
  have a2 := block_below b12 a0'
  have hsz := Nat.le_trans q0'.size b1.size
  clear r0 r1 r2 r3 r4
  obtain ⟨r0, r1, r2, r3, r4⟩ := tcells a2
  go_wp2_with (first
    | (go_at_call 156; refine (HVT.out _ _ _ W2).mono ?_; rintro x w3 ⟨⟨x3, rfl⟩, W3, k3⟩)
    | (go_at_call 87; refine (HDN.out _ _ _ W3).mono ?_; rintro x w4 ⟨⟨v4, rfl, own4⟩, b4⟩))
  go_ret
  have B3 : Below w.heap.size w w3 := (bl_trans q0' b12).trans (k3.1.mono hsz)
  exact ⟨⟨_, rfl, Kd.own_flat (B' := w.heap.size) Kd.flat_u8 own4 B3.size⟩, bl_trans B3 b4⟩
/-- Whether a vote is its signer's own. -/
def validT (v : Tx) (roots : List ByteArray) : Bool := txOk v && (decide (v.frm < (roots.length : Int)) && (verF (roots.getD v.frm.toNat ⟨#[]⟩) 2 (ttB v) v.sig).isSome)
def valGT (G : Nat) (ad : Addr) (n c : Nat) (v : Tx) (root : ByteArray) (tb : List UInt8) (x : Int) (ok : Bool) : Nat → Value → World → Prop
  | 0, y, _ => y = .slice (some ad) n c
  | 1, y, _ => y = .pointer (some ⟨G, 0, none⟩)
  | 2, y, _ => y = .int .i64 v.frm
  | 3, y, _ => y = .pointer (some (ad.add v.frm.toNat))
  | 4, y, _ => y = .string root
  | 5, y, _ => y = .agg (tcs v)
  | 6, y, w => kBB.K 0 w tb [y]
  | 7, y, _ => y = .pointer (some ⟨G, 4, none⟩)
  | 8, y, _ => y = .string v.sig
  | 9, y, _ => y = .tuple #[.int .i64 x, .bool ok]
  | 10, y, _ => y = .tuple #[.int .i64 x, .bool ok]
  | 11, y, _ => y = .int .i64 x
  | 12, y, _ => y = .bool ok
  | 13, y, _ => y = .int .i64 x
  | 14, y, _ => y = .bool ok
  | _, _, _ => True
set_option maxHeartbeats 3200000 in
set_option maxRecDepth 100000 in
theorem tvalid_calls (v : Tx) (roots : List ByteArray) (A : Option Addr) (n c B : Nat) (w : World) (hn : n = roots.length) (hr : Kd.str.Row 9 B w A roots) (hl : roots.length ≤ 1048576) :
    Calls Tryz.prog 131 #[.agg (tcs v), .slice A n c] w fun x w' => x = .returned (.bool (validT v roots)) ∧ Below w.heap.size w w' := by
  subst hn
  have hck := fun W => tcheck_calls v W
  have q0 := bl_alloc (Below.refl w.heap.size w) (.cells (tcs v) 77)
  have a0 : (w.alloc (.cells (tcs v) 77)).heap[w.heap.size]? = some (.cells (tcs v) 77 (0, 0)) := alloc_new w _
  cases hok : txOk v with
  | false =>
    have hv : validT v roots = false := by unfold validT; rw [hok]; rfl
    have h0 : chkT v = 9 := by unfold chkT; rw [if_neg (by rw [hok]; simp)]
    rw [hv]
    rw [h0] at hck
    have HCK := Lib.hid hck
    clear hck h0 hv hok
    go_enter Tryz.func131, Tryz.ntmps131
    go_upto_region 1 with fail
    generalize w.alloc (.cells (tcs v) 77) = W at *
    obtain ⟨r0, r1, r2, r3, r4⟩ := tcells a0
    go_wp2_with (go_at_call 189; refine (HCK.out _).mono ?_; rintro x w1 ⟨rfl, b1⟩)
    go_ret
    exact ⟨rfl, bl_trans q0 b1⟩
  | true =>
    have hz : v.sig.size ≤ 140737488351232 := by have := (txOk_bd hok).2.2.2.2; omega
    have h0 : chkT v = 0 := by unfold chkT; rw [if_pos hok]
    rw [h0] at hck
    have HCK := Lib.hid hck
    clear hck h0
    by_cases hs : v.frm < (roots.length : Int)
    · have hbd := (txOk_bd hok).1
      obtain ⟨k, hk⟩ : ∃ k : Nat, v.frm.toNat = k := ⟨_, rfl⟩
      obtain ⟨root, hroot⟩ : ∃ x, roots[k]? = some x := ⟨_, List.getElem?_eq_getElem (by omega)⟩
      obtain ⟨ad, rfl, c0⟩ := str_at hr hroot
      rw [← hk] at c0
      have hgd : roots.getD v.frm.toNat ⟨#[]⟩ = root := by rw [hk, List.getD_eq_getElem?_getD, hroot]; rfl
      obtain ⟨tb, htb⟩ : ∃ t, ttB v = t := ⟨_, rfl⟩
      have htl : tb.length ≤ 16384 := by rw [← htb]; exact (tfW_ok hok).2
      obtain ⟨r, hrr⟩ : ∃ r, verF root 2 tb v.sig = r := ⟨_, rfl⟩
      have hv : validT v roots = r.isSome := by unfold validT; rw [hok, decide_eq_true hs, hgd, htb, hrr]; rfl
      obtain ⟨x, hx⟩ : ∃ x : Int, ((r.getD 0 : Nat) : Int) = x := ⟨_, rfl⟩
      obtain ⟨ok, hokk⟩ : ∃ ok, r.isSome = ok := ⟨_, rfl⟩
      have hver := fun (W : World) (A6 : Option Addr) (c6 : Nat) (l6 : tb.length ≤ c6) (m6 : c6 ≤ maxLen) (h : Kd.u8.Row 5 0 W A6 tb) => verify2_calls root v.sig tb A6 tb.length c6 W 0 rfl (by omega) l6 m6 h hz
      rw [hrr, hx, hokk] at hver
      rw [hv, hokk]
      have ht := fun W => tText_calls v W hok
      rw [htb] at ht
      have HVER := Lib.hid hver
      have HT := Lib.hid ht
      have hs0 : 0 ≤ v.frm := hbd.1
      have HA := Lib.hid a0
      have c0 := cell_below q0 c0
      clear hver ht hv hx hokk hrr htb htl hgd hroot hk hok hbd
      go_enter Tryz.func131, Tryz.ntmps131
      go_upto_region 1 with fail
      obtain ⟨G, hG⟩ : ∃ G, w.heap.size = G := ⟨_, rfl⟩
      have hG' := Lib.hid hG
      generalize w.alloc (.cells (tcs v) 77) = W at *
      simp only [hG] at a0 HA ⊢
      clear hG
      obtain ⟨r0, r1, r2, r3, r4⟩ := tcells a0
      go_upto_region 3 with (go_at_call 189; refine (HCK.out _).mono ?_; rintro x w1 ⟨rfl, b1⟩; have a1 := block_below b1 a0; obtain ⟨p0, p1, p2, p3, p4⟩ := tcells a1)
      clear r0 r1 r2 r3 r4 p0 p1 p2 p3 p4
      have c0 := cell_below b1 c0
      have HA := Lib.hid a1
      have B1 := bl_trans q0 b1
      clear a0 a1
      refine wp_region_inv (by kernel_rfl) (by kernel_rfl) Rb (valGT G ad roots.length c v root tb x ok) rb_refl rb_trans ⟨?_, ?_, ?_, ?_, ?_, ?_, ?_, ?_, ?_, ?_, ?_, ?_, ?_, ?_, ?_, trivial⟩ ?_
      · intro u w1 hR hdep K hK
        rw [if_pos (by rfl)]
        simp only [frameF, Act.put, List.setIfInBounds_toArray, List.set_cons_zero, List.set_cons_succ, Nat.reduceAdd] at hK ⊢
        clear hdep
        go_simp
        refine hK _ _ (rb_refl _) fun w3 h3 => ?_
        exact rfl
      · intro u w1 hR hdep K hK
        rw [if_pos (by rfl)]
        simp only [frameF, Act.put, List.setIfInBounds_toArray, List.set_cons_zero, List.set_cons_succ, Nat.reduceAdd] at hK ⊢
        clear hdep
        go_simp
        refine hK _ _ (rb_refl _) fun w3 h3 => ?_
        exact rfl
      · intro u w1 hR hdep K hK
        rw [if_pos (by rfl)]
        simp only [frameF, Act.put, List.setIfInBounds_toArray, List.set_cons_zero, List.set_cons_succ, Nat.reduceAdd] at hK ⊢
        have u1 : u 1 = .pointer (some ⟨G, 0, none⟩) := hdep 1 (by kernel_rfl) w1 (rb_refl _)
        obtain ⟨r0, r1, r2, r3, r4⟩ := tcells (block_below hR HA.out)
        simp only [u1] at hK ⊢
        clear u1 hdep
        go_simp
        refine hK _ _ (rb_refl _) fun w3 h3 => ?_
        exact rfl
      · intro u w1 hR hdep K hK
        rw [if_pos (by rfl)]
        simp only [frameF, Act.put, List.setIfInBounds_toArray, List.set_cons_zero, List.set_cons_succ, Nat.reduceAdd] at hK ⊢
        have u0 : u 0 = .slice (some ad) roots.length c := hdep 0 (by kernel_rfl) w1 (rb_refl _)
        have u2 : u 2 = .int .i64 v.frm := hdep 2 (by kernel_rfl) w1 (rb_refl _)
        simp only [u0, u2] at hK ⊢
        clear u0 u2 hdep
        go_simp
        refine hK _ _ (rb_refl _) fun w3 h3 => ?_
        exact rfl
      · intro u w1 hR hdep K hK
        rw [if_pos (by rfl)]
        simp only [frameF, Act.put, List.setIfInBounds_toArray, List.set_cons_zero, List.set_cons_succ, Nat.reduceAdd] at hK ⊢
        have u3 : u 3 = .pointer (some (ad.add v.frm.toNat)) := hdep 3 (by kernel_rfl) w1 (rb_refl _)
        have cr := cell_below hR c0
        simp only [u3] at hK ⊢
        clear u3 hdep
        go_simp
        refine hK _ _ (rb_refl _) fun w3 h3 => ?_
        exact rfl
      · intro u w1 hR hdep K hK
        rw [if_pos (by rfl)]
        simp only [frameF, Act.put, List.setIfInBounds_toArray, List.set_cons_zero, List.set_cons_succ, Nat.reduceAdd] at hK ⊢
        obtain ⟨r0, r1, r2, r3, r4⟩ := tcells (block_below hR HA.out)
        clear hdep
        go_simp
        refine hK _ _ (rb_refl _) fun w3 h3 => ?_
        exact rfl
      · intro u w1 hR hdep K hK
        rw [if_pos (by rfl)]
        simp only [frameF, Act.put, List.setIfInBounds_toArray, List.set_cons_zero, List.set_cons_succ, Nat.reduceAdd] at hK ⊢
        have u5 : u 5 = .agg (tcs v) := hdep 5 (by kernel_rfl) w1 (rb_refl _)
        simp only [u5] at hK ⊢
        clear u5 hdep
        go_simp
        refine (HT.out _).mono ?_
        rintro x w2 ⟨⟨y, rfl, own⟩, b2⟩
        refine hK _ _ b2 fun w3 h3 => ?_
        exact k_rb h3 (k_own (Kd.own_flat (B' := 0) Kd.flat_u8 own (Nat.le_refl _)))
      · intro u w1 hR hdep K hK
        rw [if_pos (by rfl)]
        simp only [frameF, Act.put, List.setIfInBounds_toArray, List.set_cons_zero, List.set_cons_succ, Nat.reduceAdd] at hK ⊢
        clear hdep
        go_simp
        refine hK _ _ (rb_refl _) fun w3 h3 => ?_
        exact rfl
      · intro u w1 hR hdep K hK
        rw [if_pos (by rfl)]
        simp only [frameF, Act.put, List.setIfInBounds_toArray, List.set_cons_zero, List.set_cons_succ, Nat.reduceAdd] at hK ⊢
        have u7 : u 7 = .pointer (some ⟨G, 4, none⟩) := hdep 7 (by kernel_rfl) w1 (rb_refl _)
        obtain ⟨r0, r1, r2, r3, r4⟩ := tcells (block_below hR HA.out)
        simp only [u7] at hK ⊢
        clear u7 hdep
        go_simp
        refine hK _ _ (rb_refl _) fun w3 h3 => ?_
        exact rfl
      · intro u w1 hR hdep K hK
        rw [if_pos (by rfl)]
        simp only [frameF, Act.put, List.setIfInBounds_toArray, List.set_cons_zero, List.set_cons_succ, Nat.reduceAdd] at hK ⊢
        have u4 : u 4 = .string root := hdep 4 (by kernel_rfl) w1 (rb_refl _)
        have u6 : kBB.K 0 w1 tb [u 6] := hdep 6 (by kernel_rfl) w1 (rb_refl _)
        have u8 : u 8 = .string v.sig := hdep 8 (by kernel_rfl) w1 (rb_refl _)
        obtain ⟨A6, c6, e6, l6, m6, r6⟩ := k_form u6
        simp only [u4, e6, u8] at hK ⊢
        clear u4 u6 u8 e6 hdep
        go_simp
        refine (HVER.out _ A6 c6 l6 m6 r6).mono ?_
        rintro x w2 ⟨rfl, b2⟩
        refine hK _ _ b2 fun w3 h3 => ?_
        exact rfl
      · intro u w1 hR hdep K hK
        rw [if_pos (by rfl)]
        simp only [frameF, Act.put, List.setIfInBounds_toArray, List.set_cons_zero, List.set_cons_succ, Nat.reduceAdd] at hK ⊢
        have u9 : u 9 = .tuple #[.int .i64 x, .bool ok] := hdep 9 (by kernel_rfl) w1 (rb_refl _)
        simp only [u9] at hK ⊢
        clear u9 hdep
        go_simp
        refine hK _ _ (rb_refl _) fun w3 h3 => ?_
        exact rfl
      · intro u w1 hR hdep K hK
        rw [if_pos (by rfl)]
        simp only [frameF, Act.put, List.setIfInBounds_toArray, List.set_cons_zero, List.set_cons_succ, Nat.reduceAdd] at hK ⊢
        have u10 : u 10 = .tuple #[.int .i64 x, .bool ok] := hdep 10 (by kernel_rfl) w1 (rb_refl _)
        simp only [u10] at hK ⊢
        clear u10 hdep
        go_simp
        refine hK _ _ (rb_refl _) fun w3 h3 => ?_
        exact rfl
      · intro u w1 hR hdep K hK
        rw [if_pos (by rfl)]
        simp only [frameF, Act.put, List.setIfInBounds_toArray, List.set_cons_zero, List.set_cons_succ, Nat.reduceAdd] at hK ⊢
        have u10 : u 10 = .tuple #[.int .i64 x, .bool ok] := hdep 10 (by kernel_rfl) w1 (rb_refl _)
        simp only [u10] at hK ⊢
        clear u10 hdep
        go_simp
        refine hK _ _ (rb_refl _) fun w3 h3 => ?_
        exact rfl
      · intro u w1 hR hdep K hK
        rw [if_pos (by rfl)]
        simp only [frameF, Act.put, List.setIfInBounds_toArray, List.set_cons_zero, List.set_cons_succ, Nat.reduceAdd] at hK ⊢
        have u11 : u 11 = .int .i64 x := hdep 11 (by kernel_rfl) w1 (rb_refl _)
        simp only [u11] at hK ⊢
        clear u11 hdep
        go_simp
        refine hK _ _ (rb_refl _) fun w3 h3 => ?_
        exact rfl
      · intro u w1 hR hdep K hK
        rw [if_pos (by rfl)]
        simp only [frameF, Act.put, List.setIfInBounds_toArray, List.set_cons_zero, List.set_cons_succ, Nat.reduceAdd] at hK ⊢
        have u12 : u 12 = .bool ok := hdep 12 (by kernel_rfl) w1 (rb_refl _)
        simp only [u12] at hK ⊢
        clear u12 hdep
        go_simp
        refine hK _ _ (rb_refl _) fun w3 h3 => ?_
        exact rfl
      · intro u w' hR hall
        have h14 : u 14 = .bool ok := hall 14 (by decide)
        have bw' := bl_trans (bl_drew B1) hR
        clear hall
        simp only [frameF, Act.put, List.setIfInBounds_toArray, List.set_cons_zero, List.set_cons_succ, Nat.reduceAdd, h14]
        clear h14
        go_wp2_with fail
        go_ret
        exact ⟨rfl, bw'⟩
    · have hv : validT v roots = false := by unfold validT; rw [hok, decide_eq_false hs]; rfl
      rw [hv]
      have hge : v.frm ≥ (roots.length : Int) := by omega
      clear hv hok
      go_enter Tryz.func131, Tryz.ntmps131
      go_upto_region 1 with fail
      generalize w.alloc (.cells (tcs v) 77) = W at *
      obtain ⟨r0, r1, r2, r3, r4⟩ := tcells a0
      go_upto_region 1 with fail
      go_wp2_with (go_at_call 189; refine (HCK.out _).mono ?_; rintro x w1 ⟨rfl, b1⟩; have a1 := block_below b1 a0; obtain ⟨p0, p1, p2, p3, p4⟩ := tcells a1)
      go_ret
      exact ⟨rfl, bl_trans q0 b1⟩
end Go.Proofs.YtcbfpdenjdgnlaaGreat
/- Package block: text. No claim of its own; no condition. Printed by a program of this session. -/
namespace Go.Proofs.YtcbfpdenjdgnlaaGreat
open Go.ChangeShapes Go.WideShapes Go.ChangeAt Go.RowKit
set_option linter.unusedVariables false
set_option linter.unusedSimpArgs false
/-- A block's fields, of which its name is. -/
def bfW (s : List UInt8 × Int) (b : Block) : List UInt8 × Int := b.txs.foldl tpW (numW (numW (textW (numW (numW (textW s blockWord) b.view) b.height) b.parent) b.justify.view) (b.txs.length : Nat))
theorem tps_succ (s : List UInt8 × Int) {l : List Tx} {k : Nat} {v : Tx} (h : l[k]? = some v) : (l.take (k + 1)).foldl tpW s = tpW ((l.take k).foldl tpW s) v := by
  rw [List.take_add_one, h]
  simp [List.foldl_append]
theorem tps_bd {s : List UInt8 × Int} (l : List Tx) (h : s.1.length ≤ 20482) : (l.foldl tpW s).1.length ≤ 20482 := by
  induction l generalizing s with
  | nil => exact h
  | cons v l ih => exact ih (tpW_bd h v)
theorem bfW_bd {s : List UInt8 × Int} (h : s.1.length ≤ 20482) (b : Block) : (bfW s b).1.length ≤ 20482 :=
  tps_bd _ (numW_bd (numW_bd (textW_bd (numW_bd (numW_bd (textW_bd h _) _) _) _) _) _)
theorem wk_rowT {M : Nat} {w w' : World} {A : Option Addr} {l : List Tx} (h : Wk M w w') (r : kTx.Row 77 M w A l) : kTx.Row 77 M w' A l :=
  Kd.row_keep (h.2 _ (by decide) (by decide)) r
set_option maxHeartbeats 3200000 in
set_option maxRecDepth 100000 in
theorem btext_calls (M N : Nat) (s : List UInt8 × Int) (b : Block) (v1 : Value) (A : Option Addr) (n c : Nat) (w : World) (hn : n = b.txs.length) (hl : b.txs.length ≤ 1048576) (hr : kTx.Row 77 M w A b.txs) (h : WrS M w N s.1 s.2) (hs : s.1.length ≤ 20482)
    (hz : b.parent.size ≤ 1048576) (hv : ∀ t ∈ b.txs, t.sig.size ≤ 1048576) :
    Calls Tryz.prog 154 #[.pointer (some ⟨N, 0, none⟩), .agg (bcs b v1 (.slice A n c))] w fun x w' => (∃ u, x = .returned u) ∧ WrS M w' N (bfW s b).1 (bfW s b).2 ∧ Wk M w w' := by
  subst hn
  have q0 := bl_alloc (Below.refl w.heap.size w) (.cells (bcs b v1 (.slice A b.txs.length c)) 40)
  have a0 := alloc_new w (.cells (bcs b v1 (.slice A b.txs.length c)) 40)
  have W0 := wrs_below h q0
  have k0 := wk_below q0 (wrs_size h)
  have row0 := Kd.row_below q0 hr
  have HVS := Lib.hid hv
  have HLL := Lib.hid hl
  have hV : bfW s b = b.txs.foldl tpW (numW (numW (textW (numW (numW (textW s blockWord) b.view) b.height) b.parent) b.justify.view) (b.txs.length : Nat)) := rfl
  have HV := Lib.hid hV
  obtain ⟨l, hl2⟩ : ∃ l, b.txs = l := ⟨_, rfl⟩
  obtain ⟨G, hG⟩ : ∃ G, w.heap.size = G := ⟨_, rfl⟩
  rw [hG] at a0
  rw [hl2] at a0 q0 W0 k0 row0 HVS HV HLL ⊢
  clear hV hv hl hr h hl2
  go_enter Tryz.func154, Tryz.ntmps154
  go_upto_region 1 with fail
  generalize w.alloc (.cells _ 40) = W at *
  have l0 := hs
  have hzw : blockWord.size ≤ 1048576 := by decide
  go_upto_region 2 with (go_at_call 85; refine (text_calls M N s blockWord _ W0 (by omega) hzw).mono ?_; rintro x w1 ⟨⟨x1, rfl⟩, W1, k1'⟩)
  have k1 := wk_trans k0 k1'
  have row1 := wk_rowT k1' row0
  have a1 := wk_block k1' a0 (by decide) (by decide)
  obtain ⟨s1, hs1⟩ : ∃ z, textW s blockWord = z := ⟨_, rfl⟩
  have l1 : s1.1.length ≤ 20482 := by rw [← hs1]; exact textW_bd l0 _
  have HV' := HV.out
  rw [hs1] at W1 HV'
  clear HV hs1 k1' W0 row0 a0
  have HV := Lib.hid HV'
  clear HV'
  have r1 := block_cell a1 (i := 0) (v := .int .i64 b.view) rfl
  go_upto_region 3 with (go_at_call 81; refine (num_calls M N s1 b.view _ W1 (by omega)).mono ?_; rintro x w2 ⟨⟨x2, rfl⟩, W2, k2'⟩)
  have k2 := wk_trans k1 k2'
  have row2 := wk_rowT k2' row1
  have a2 := wk_block k2' a1 (by decide) (by decide)
  obtain ⟨s2, hs2⟩ : ∃ z, numW s1 b.view = z := ⟨_, rfl⟩
  have l2 : s2.1.length ≤ 20482 := by rw [← hs2]; exact numW_bd l1 _
  have HV' := HV.out
  rw [hs2] at W2 HV'
  clear HV hs2 k2' W1 row1 a1 r1
  have HV := Lib.hid HV'
  clear HV'
  have r2 := block_cell a2 (i := 1) (v := .int .i64 b.height) rfl
  go_upto_region 4 with (go_at_call 81; refine (num_calls M N s2 b.height _ W2 (by omega)).mono ?_; rintro x w3 ⟨⟨x3, rfl⟩, W3, k3'⟩)
  have k3 := wk_trans k2 k3'
  have row3 := wk_rowT k3' row2
  have a3 := wk_block k3' a2 (by decide) (by decide)
  obtain ⟨s3, hs3⟩ : ∃ z, numW s2 b.height = z := ⟨_, rfl⟩
  have l3 : s3.1.length ≤ 20482 := by rw [← hs3]; exact numW_bd l2 _
  have HV' := HV.out
  rw [hs3] at W3 HV'
  clear HV hs3 k3' W2 row2 a2 r2
  have HV := Lib.hid HV'
  clear HV'
  have r3 := block_cell a3 (i := 2) (v := .string b.parent) rfl
  go_upto_region 5 with (go_at_call 85; refine (text_calls M N s3 b.parent _ W3 (by omega) hz).mono ?_; rintro x w4 ⟨⟨x4, rfl⟩, W4, k4'⟩)
  have k4 := wk_trans k3 k4'
  have row4 := wk_rowT k4' row3
  have a4 := wk_block k4' a3 (by decide) (by decide)
  obtain ⟨s4, hs4⟩ : ∃ z, textW s3 b.parent = z := ⟨_, rfl⟩
  have l4 : s4.1.length ≤ 20482 := by rw [← hs4]; exact textW_bd l3 _
  have HV' := HV.out
  rw [hs4] at W4 HV'
  clear HV hs4 k4' W3 row3 a3 r3
  have HV := Lib.hid HV'
  clear HV'
  have r4 := block_cell a4 (i := 3) (v := .int .i64 b.justify.view) rfl
  go_upto_region 6 with (go_at_call 81; refine (num_calls M N s4 b.justify.view _ W4 (by omega)).mono ?_; rintro x w5 ⟨⟨x5, rfl⟩, W5, k5'⟩)
  have k5 := wk_trans k4 k5'
  have row5 := wk_rowT k5' row4
  have a5 := wk_block k5' a4 (by decide) (by decide)
  obtain ⟨s5, hs5⟩ : ∃ z, numW s4 b.justify.view = z := ⟨_, rfl⟩
  have l5 : s5.1.length ≤ 20482 := by rw [← hs5]; exact numW_bd l4 _
  have HV' := HV.out
  rw [hs5] at W5 HV'
  clear HV hs5 k5' W4 row4 a4 r4
  have HV := Lib.hid HV'
  clear HV'
  have r5 := block_cell a5 (i := 7) (v := .slice A l.length c) rfl
  go_upto_region 7 with (go_at_call 81; refine (num_calls M N s5 (l.length : Nat) _ W5 (by omega)).mono ?_; rintro x w6 ⟨⟨x6, rfl⟩, W6, k6'⟩)
  have k6 := wk_trans k5 k6'
  have row6 := wk_rowT k6' row5
  have a6 := wk_block k6' a5 (by decide) (by decide)
  obtain ⟨s6, hs6⟩ : ∃ z, numW s5 (l.length : Nat) = z := ⟨_, rfl⟩
  have l6 : s6.1.length ≤ 20482 := by rw [← hs6]; exact numW_bd l5 _
  have HV' := HV.out
  rw [hs6] at W6 HV'
  clear HV hs6 k6' W5 row5 a5 r5
  have HV := Lib.hid HV'
  clear HV'
  have r3 := block_cell a6 (i := 7) (v := .slice A l.length c) rfl
  clear a6
  go_upto_region 8 with fail
  clear r3
  go_loopw [33] (fun kv w' => ∃ k : Nat, k ≤ l.length ∧ kv = .int .i64 k ∧ WrS M w' N ((l.take k).foldl tpW s6).1 ((l.take k).foldl tpW s6).2 ∧ Wk M w6 w') (fun kv _ => l.length - (intOf kv).toNat)
  case atStart => exact ⟨0, by omega, rfl, W6, wk_refl _ _⟩
  case round =>
    obtain ⟨k, hk, rfl, WK, kk⟩ := hrel
    by_cases hlt : k < l.length
    case neg =>
      obtain rfl : k = l.length := by omega
      have hnI : ¬ ((l.length : Int) < (l.length : Int)) := by omega
      rw [List.take_length] at WK
      go_wp2_with fail
      go_end0
      exact ⟨⟨_, rfl⟩, by rw [HV.out]; exact WK, wk_trans k6 kk⟩
    case pos =>
      obtain ⟨v, hv⟩ : ∃ v, l[k]? = some v := ⟨_, List.getElem?_eq_getElem hlt⟩
      have row5 := wk_rowT kk row6
      obtain ⟨ad, rfl, e0, e1, e2, e3, e4, g0, g1, g2, g3, g4⟩ := kTx_at row5 hv
      have hzv := HVS.out v (List.mem_of_getElem? hv)
      have hst := tps_succ s6 hv
      obtain ⟨sk, hsk⟩ : ∃ z, (l.take k).foldl tpW s6 = z := ⟨_, rfl⟩
      have lk : sk.1.length ≤ 20482 := by rw [← hsk]; exact tps_bd _ l6
      rw [hsk] at WK hst
      have HS := Lib.hid hst
      clear hst hsk
      have hvp := fun (W : World) (hW : WrS M W N sk.1 sk.2) => tput_calls M N sk v W hW lk hzv
      unfold tcs at hvp
      have HVP := Lib.hid hvp
      clear hvp
      have hkI : (k : Int) < (l.length : Int) := by omega
      have hk0 : (0 : Int) ≤ (k : Int) := by omega
      have hkb : (k : Int) < 1048576 := by have := HLL.out; omega
      have bt := bl_alloc (Below.refl wr.heap.size wr) (.cells (tcs v) 77)
      have bb : (wr.alloc (.cells (tcs v) 77)).heap[wr.heap.size]? = some (.cells (tcs v) 77 (0, 0)) := alloc_new wr _
      have WT := wrs_below WK bt
      have kt := wk_trans kk (wk_below bt (wrs_size WK))
      go_upto_region 10 with fail
      change Code.wp _ _ _ _ (wr.alloc (.cells (tcs v) 77))
      obtain ⟨V9, hV9⟩ : ∃ V9, wr.heap.size = V9 := ⟨_, rfl⟩
      generalize wr.alloc (.cells (tcs v) 77) = V at *
      simp only [hV9] at bb ⊢
      clear hV9 e0 e1 e2 e3 e4 g0 g1 g2 g3 g4 bt row5
      obtain ⟨r0, r1, r2, r3, r4⟩ := tcells bb
      go_wp2_with (go_at_call 86; refine (HVP.out _ WT).mono ?_; rintro x w6x ⟨⟨x6, rfl⟩, W6x, k6x⟩)
      have hlb : l.length ≤ 1048576 := HLL.out
      first
        | exact ⟨⟨k + 1, by omega, by go_num, by rw [HS.out]; exact W6x, wk_trans kt k6x⟩, by simp [intOf]; omega⟩
        | (go_roundw; case rel => exact ⟨k + 1, by omega, by go_num, by rw [HS.out]; exact W6x, wk_trans kt k6x⟩; case measure => simp [intOf]; omega)
end Go.Proofs.YtcbfpdenjdgnlaaGreat
