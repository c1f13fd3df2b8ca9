/- Package block: Text, Name, Leader. No claim of its own; no condition. -/
import Derived.Test.YtcbfpdenjdgnlaaGreatQt35
import Derived.Test.YtcbfpdenjdgnlaaGreatQt26
import Derived.Test.YtcbfpdenjdgnlaaGreatQt29
import Derived.Deep.RegionHeld3
import Derived.Test.YtcbfpdenjdgnlaaGreatQt17
namespace Go.Proofs.YtcbfpdenjdgnlaaGreat
open Go.ChangeShapes Go.WideShapes Go.ChangeAt Go.RowKit
set_option linter.unusedVariables false
set_option linter.unusedSimpArgs false
/-- A block's text: what its name is of. -/
def btB (b : Block) : List UInt8 := (doneW (bfW ([], 0) b)).1
def bname (b : Block) : ByteArray := if blockOk b = true then sb (shaB (btB b)) else ⟨#[]⟩
theorem btB_len (b : Block) : (btB b).length ≤ 16384 := by
  unfold btB doneW
  split
  · split
    · simp
    · dsimp only; omega
  · simp
theorem blockOk_bd {b : Block} (h : blockOk b = true) : b.parent.size = 32 ∧ b.txs.length ≤ 4 ∧ (∀ t ∈ b.txs, txOk t = true) ∧ b.sig.size ≤ 4096 ∧ (0 ≤ b.view ∧ b.view ≤ 1048576) ∧ (1 ≤ b.height ∧ b.height ≤ 1048576) := by
  unfold blockOk at h
  simp only [Bool.and_eq_true, decide_eq_true_eq, List.all_eq_true] at h
  obtain ⟨⟨h1, h2, h3, h4, h5⟩, _, h6, h7, h8⟩ := h
  exact ⟨by omega, h6, h7, h8, ⟨h1, h2⟩, ⟨h3, h4⟩⟩
set_option maxHeartbeats 1600000 in
set_option maxRecDepth 100000 in
theorem bText_calls (b : Block) (A1 A : Option Addr) (n1 c1 n c B : Nat) (w : World) (hn : n = b.txs.length) (hr : kTx.Row 77 B w A b.txs) (h : blockOk b = true) :
    Calls Tryz.prog 126 #[.agg (bcs b (.slice A1 n1 c1) (.slice A n c))] w fun x w' => (∃ u, x = .returned u ∧ Kd.u8.Own 5 w.heap.size w' w.heap.size u (btB b)) ∧ Below w.heap.size w w' := by
  obtain ⟨hps, htl, hto, hsg, _, _⟩ := blockOk_bd h
  have hck := fun W (hW : kTx.Row 77 B W A b.txs) => bcheck_calls b A1 A n1 c1 n c B W hn (by omega) hW
  have h0 : chkB b = 0 := by unfold chkB; rw [if_pos h]
  rw [h0] at hck
  have q0 := bl_alloc (Below.refl w.heap.size w) (.cells (bcs b (.slice A1 n1 c1) (.slice A n c)) 40)
  have a0 : (w.alloc (.cells (bcs b (.slice A1 n1 c1) (.slice A n c)) 40)).heap[w.heap.size]? = some (.cells (bcs b (.slice A1 n1 c1) (.slice A n c)) 40 (0, 0)) := alloc_new w _
  have row0 := Kd.row_below q0 hr
  have hvt := fun (M N : Nat) (W : World) (hR : kTx.Row 77 M W A b.txs) (hW : WrS M W N [] 0) => btext_calls M N ([], 0) b (.slice A1 n1 c1) A n c W hn (by omega) hR hW (by simp) (by omega) (fun t ht => by have := (txOk_bd (hto t ht)).2.2.2.2; omega)
  have hdn := fun (M N : Nat) (W : World) (hW : WrS M W N (bfW ([], 0) b).1 (bfW ([], 0) b).2) => done_calls M N (bfW ([], 0) b) W hW (by have := bfW_bd (s := ([], 0)) (by simp) b; omega)
  have hd1 : (doneW (bfW ([], 0) b)).1 = btB b := rfl
  obtain ⟨d2, hd2⟩ : ∃ x, (doneW (bfW ([], 0) b)).2 = x := ⟨_, rfl⟩
  rw [hd1, hd2] at hdn
  have HCK := Lib.hid hck
  have HVT := Lib.hid hvt
  have HDN := Lib.hid hdn
  clear hck h0 hvt hdn hd1 hd2 hn hr h hps htl hto hsg
  unfold bcs at *
  go_enter Tryz.func126, Tryz.ntmps126
  go_upto_region 1 with fail
  generalize w.alloc (.cells _ 40) = W at *
  obtain ⟨r0, r1, r2, r3, r4, r5, r6, r7, r8⟩ := bcells a0
  go_upto_region 4 with (first
    | (go_at_call 124; refine (HCK.out _ row0).mono ?_; rintro x w1 ⟨rfl, b1⟩; have row1 := Kd.row_flat (B' := w1.heap.size) flatTx (Kd.row_below b1 row0) (Nat.le_refl _))
    | (go_at_call 80; refine (new_calls _).mono ?_; rintro x w2 ⟨rfl, W2, b2⟩))
  have b12 := bl_trans b1 b2
  have a2 := block_below b12 a0
  have row2 := Kd.row_below b2 row1
  have hsz := Nat.le_trans q0.size b1.size
  clear r0 r1 r2 r3 r4 r5 r6 r7 r8
  obtain ⟨r0, r1, r2, r3, r4, r5, r6, r7, r8⟩ := bcells a2
  go_wp2_with (first
    | (go_at_call 154; refine (HVT.out _ _ _ row2 W2).mono ?_; rintro x w3 ⟨⟨x3, rfl⟩, W3, k3⟩)
    | (go_at_call 87; refine (HDN.out _ _ _ W3).mono ?_; rintro x w4 ⟨⟨v4, rfl, own4⟩, b4⟩))
  go_ret
  have B3 : Below w.heap.size w w3 := (bl_trans q0 b12).trans (k3.1.mono hsz)
  exact ⟨⟨_, rfl, Kd.own_flat (B' := w.heap.size) Kd.flat_u8 own4 B3.size⟩, bl_trans B3 b4⟩
set_option maxHeartbeats 1600000 in
set_option maxRecDepth 100000 in
theorem bName_calls (b : Block) (A1 A : Option Addr) (n1 c1 n c B : Nat) (w : World) (hn : n = b.txs.length) (hl : b.txs.length ≤ 2097152) (hr : kTx.Row 77 B w A b.txs) :
    Calls Tryz.prog 61 #[.agg (bcs b (.slice A1 n1 c1) (.slice A n c))] w fun x w' => x = .returned (.string (bname b)) ∧ Below w.heap.size w w' := by
  have hck := fun W (hW : kTx.Row 77 B W A b.txs) => bcheck_calls b A1 A n1 c1 n c B W hn hl hW
  have q0 := bl_alloc (Below.refl w.heap.size w) (.cells (bcs b (.slice A1 n1 c1) (.slice A n c)) 40)
  have a0 : (w.alloc (.cells (bcs b (.slice A1 n1 c1) (.slice A n c)) 40)).heap[w.heap.size]? = some (.cells (bcs b (.slice A1 n1 c1) (.slice A n c)) 40 (0, 0)) := alloc_new w _
  have row0 := Kd.row_below q0 hr
  cases hok : blockOk b with
  | false =>
    have h0 : chkB b = 9 := by unfold chkB; rw [if_neg (by rw [hok]; simp)]
    have hb : bname b = ⟨#[]⟩ := by unfold bname; rw [if_neg (by rw [hok]; simp)]
    rw [h0] at hck
    rw [hb]
    have HCK := Lib.hid hck
    clear hck h0 hb hn hl hr hok
    unfold bcs at *
    go_enter Tryz.func61, Tryz.ntmps61
    go_upto_region 1 with fail
    generalize w.alloc (.cells _ 40) = W at *
    obtain ⟨r0, r1, r2, r3, r4, r5, r6, r7, r8⟩ := bcells a0
    go_wp2_with (go_at_call 124; refine (HCK.out _ row0).mono ?_; rintro x w1 ⟨rfl, b1⟩)
    go_ret
    exact ⟨rfl, bl_trans q0 b1⟩
  | true =>
    have h0 : chkB b = 0 := by unfold chkB; rw [if_pos hok]
    have hb : bname b = sb (shaB [btB b].flatten) := by unfold bname; rw [if_pos hok]; simp
    rw [h0] at hck
    rw [hb]
    have htx := fun W (hW : kTx.Row 77 B W A b.txs) => bText_calls b A1 A n1 c1 n c B W hn hW hok
    have hbl := btB_len b
    have hlo := fun W A' c' (hW : kBB.Row 60 0 W A' [btB b]) => long_calls [btB b] A' 1 c' W 0 rfl (by simp) (by simp; omega) hW
    obtain ⟨T, hT⟩ : ∃ T, btB b = T := ⟨_, rfl⟩
    rw [hT] at htx hlo hbl ⊢
    obtain ⟨S, hS⟩ : ∃ S, sb (shaB [T].flatten) = S := ⟨_, rfl⟩
    rw [hS] at hlo ⊢
    have HCK := Lib.hid hck
    have HTX := Lib.hid htx
    have HLO := Lib.hid hlo
    have HR := Lib.hid row0
    clear hck h0 hb hn hl hr hok htx hlo hT hS row0 hbl
    unfold bcs at *
    go_enter Tryz.func61, Tryz.ntmps61
    go_upto_region 1 with fail
    generalize w.alloc (.cells _ 40) = W at *
    obtain ⟨r0, r1, r2, r3, r4, r5, r6, r7, r8⟩ := bcells a0
    go_upto_region 3 with (go_at_call 124; refine (HCK.out _ HR.out).mono ?_; rintro x w1 ⟨rfl, b1⟩)
    have a1 := block_below b1 a0
    have HR1 := Lib.hid (Kd.row_below b1 HR.out)
    have B1 := bl_trans q0 b1
    clear r0 r1 r2 r3 r4 r5 r6 r7 r8 HR
    obtain ⟨r0, r1, r2, r3, r4, r5, r6, r7, r8⟩ := bcells a1
    go_wp2_with (first
      | (go_at_call 126; refine (HTX.out _ HR1.out).mono ?_; rintro x w2 ⟨⟨u, rfl, own⟩, b2⟩; obtain ⟨A2, c2, rfl, l2, m2, row2, _⟩ := Kd.own_row (Kd.own_flat (B' := 0) Kd.flat_u8 own (Nat.le_refl _)); have al := bl_alloc (Below.refl w2.heap.size w2) (.cells #[.slice A2 T.length c2] 60); have rowT := Kd.row_below al row2; have rowB : kBB.Row 60 0 (w2.alloc (.cells #[.slice A2 T.length c2] 60)) (some ⟨w2.heap.size, 0, none⟩) [T] := Kd.row_fresh1 (k_slice l2 m2 rowT))
      | (go_at_call 125; refine (HLO.out _ _ _ rowB).mono ?_; rintro x w3 ⟨rfl, b3⟩))
    go_ret
    exact ⟨rfl, bl_trans (bl_trans (bl_trans B1 b2) al) b3⟩


set_option maxHeartbeats 1600000 in
set_option maxRecDepth 100000 in
theorem leader_calls (v n : Int) (w : World) (hv : 0 ≤ v ∧ v ≤ 1048576) (hn : 1 ≤ n ∧ n ≤ 1048576) : Calls Tryz.prog 192 #[.int .i64 v, .int .i64 n] w fun x w' => x = .returned (.int .i64 (v % n)) ∧ Below w.heap.size w w' := by
  obtain ⟨h0, h1⟩ := hv
  obtain ⟨h2, h3⟩ := hn
  have h4 : ¬ v < 0 := by omega
  have h5 : ¬ n < 1 := by omega
  have h6 : ¬ n = 0 := by omega
  have h7 : v.tmod n = v % n := by rw [Int.tmod_eq_emod_of_nonneg h0]
  have h8 : 0 ≤ v % n := Int.emod_nonneg _ h6
  have h9 : v % n < n := Int.emod_lt_of_pos _ (by omega)
  go_enter Tryz.func192, Tryz.ntmps192
  go_wp2_with fail
  go_ret
  all_goals first
    | exact ⟨by rw [h7], Below.refl _ _⟩
    | exact ⟨rfl, Below.refl _ _⟩
end Go.Proofs.YtcbfpdenjdgnlaaGreat
/- Package block: signed. No claim of its own; no condition. Printed by a program of this session. -/
namespace Go.Proofs.YtcbfpdenjdgnlaaGreat
open Go.ChangeShapes Go.WideShapes Go.ChangeAt Go.RowKit
set_option linter.unusedVariables false
set_option linter.unusedSimpArgs false
/-- Whether a block is signed by its view's leader. -/
def signedB (b : Block) (roots : List ByteArray) : Bool := decide (1 ≤ roots.length) && (verF (roots.getD (b.view % (roots.length : Int)).toNat ⟨#[]⟩) 4 (bl (bname b)) b.sig).isSome
theorem bname_size (b : Block) : (bname b).size ≤ 1048576 := by
  unfold bname
  split
  · rw [sb_size, shaB_len]; omega
  · decide
def sigG (G L c0 k : Nat) (ad : Addr) (vw : Int) (b : Block) (v1 v2 : Value) (root nm : ByteArray) (x : Int) (ok : Bool) : Nat → Value → World → Prop
  | 0, y, _ => y = .slice (some ad) L c0
  | 1, y, _ => y = .pointer (some ⟨G, 0, none⟩)
  | 2, y, _ => y = .int .i64 vw
  | 3, y, _ => y = .slice (some ad) L c0
  | 4, y, _ => y = .int .i64 (L : Int)
  | 5, y, _ => y = .int .i64 (vw % (L : Int))
  | 6, y, _ => y = .pointer (some (ad.add (vw % (L : Int)).toNat))
  | 7, y, _ => y = .string root
  | 8, y, _ => y = .agg (bcs b v1 v2)
  | 9, y, _ => y = .string nm
  | 10, y, w => kBB.K 0 w (bl nm) [y]
  | 11, y, _ => y = .pointer (some ⟨G, 8, none⟩)
  | 12, y, _ => y = .string b.sig
  | 13, y, _ => y = .tuple #[.int .i64 x, .bool ok]
  | 14, y, _ => y = .tuple #[.int .i64 x, .bool ok]
  | 15, y, _ => y = .int .i64 x
  | 16, y, _ => y = .bool ok
  | 17, y, _ => y = .int .i64 x
  | 18, y, _ => y = .bool ok
  | _, _, _ => True
set_option maxHeartbeats 3200000 in
set_option maxRecDepth 100000 in
theorem bsigned_calls (b : Block) (A1 A A0 : Option Addr) (n1 c1 n c L c0 B B0 : Nat) (roots : List ByteArray) (w : World) (hn : n = b.txs.length) (hr : kTx.Row 77 B w A b.txs) (hok : blockOk b = true) (hL : L = roots.length) (hr0 : Kd.str.Row 9 B0 w A0 roots) (hl : roots.length ≤ 1048576) :
    Calls Tryz.prog 127 #[.agg (bcs b (.slice A1 n1 c1) (.slice A n c)), .slice A0 L c0] w fun x w' => x = .returned (.bool (signedB b roots)) ∧ Below w.heap.size w w' := by
  subst hn
  obtain ⟨hps, htl, hto, hsg, hvb, _⟩ := blockOk_bd hok
  have q0 := bl_alloc (Below.refl w.heap.size w) (.cells (bcs b (.slice A1 n1 c1) (.slice A b.txs.length c)) 40)
  have a0 : (w.alloc (.cells (bcs b (.slice A1 n1 c1) (.slice A b.txs.length c)) 40)).heap[w.heap.size]? = some (.cells (bcs b (.slice A1 n1 c1) (.slice A b.txs.length c)) 40 (0, 0)) := alloc_new w _
  have row0 := Kd.row_below q0 hr
  by_cases h1 : 1 ≤ roots.length
  · have hnm := fun W (hW : kTx.Row 77 B W A b.txs) => bName_calls b A1 A n1 c1 b.txs.length c B W rfl (by omega) hW
    obtain ⟨nm, hnm2⟩ : ∃ x, bname b = x := ⟨_, rfl⟩
    have hns : nm.size ≤ 1048576 := by rw [← hnm2]; exact bname_size b
    rw [hnm2] at hnm
    obtain ⟨vw, hvw⟩ : ∃ x, b.view = x := ⟨_, rfl⟩
    rw [hvw] at hvb
    have hle := fun W => leader_calls vw L W hvb (by omega)
    obtain ⟨k, hk⟩ : ∃ k : Nat, (vw % (L : Int)).toNat = k := ⟨_, rfl⟩
    have hk1 : 0 ≤ vw % (L : Int) := Int.emod_nonneg _ (by omega)
    have hk2 : vw % (L : Int) < (L : Int) := Int.emod_lt_of_pos _ (by omega)
    obtain ⟨root, hroot⟩ : ∃ x, roots[k]? = some x := ⟨_, List.getElem?_eq_getElem (by omega)⟩
    obtain ⟨ad, rfl, c9⟩ := str_at hr0 hroot
    rw [← hk] at c9
    have hgd : roots.getD (b.view % (roots.length : Int)).toNat ⟨#[]⟩ = root := by rw [hvw, ← hL, hk, List.getD_eq_getElem?_getD, hroot]; rfl
    obtain ⟨r, hrr⟩ : ∃ r, verF root 4 (bl nm) b.sig = r := ⟨_, rfl⟩
    have hv : signedB b roots = r.isSome := by unfold signedB; rw [decide_eq_true h1, hgd, hnm2, hrr]; rfl
    obtain ⟨x, hx⟩ : ∃ x : Int, ((r.getD 0 : Nat) : Int) = x := ⟨_, rfl⟩
    obtain ⟨ok, hokk⟩ : ∃ ok, r.isSome = ok := ⟨_, rfl⟩
    have hver := fun (W : World) (A6 : Option Addr) (c6 : Nat) (l6 : (bl nm).length ≤ c6) (m6 : c6 ≤ maxLen) (h : Kd.u8.Row 5 0 W A6 (bl nm)) => verify4_calls root b.sig (bl nm) A6 (bl nm).length c6 W 0 rfl (by rw [bl_len]; omega) l6 m6 h (by omega)
    rw [hrr, hx, hokk] at hver
    rw [hv, hokk]
    have HVER := Lib.hid hver
    have HNM := Lib.hid hnm
    have HNS := Lib.hid hns
    have HLE := Lib.hid hle
    have HVW := Lib.hid hvw
    have HR := Lib.hid row0
    have HA := Lib.hid a0
    have c9 := cell_below q0 c9
    have hne : ((L : Int) == 0) = false := by rw [beq_eq_false_iff_ne]; omega
    obtain ⟨v1, hv1⟩ : ∃ v, Value.slice A1 n1 c1 = v := ⟨_, rfl⟩
    obtain ⟨v2, hv2⟩ : ∃ v, Value.slice A b.txs.length c = v := ⟨_, rfl⟩
    rw [hv1, hv2] at q0 HA HNM HR c9 ⊢
    clear hver hnm hle hns hv hx hokk hrr hgd hroot hk a0 hv1 hv2 hL h1 hok hr hr0 row0 hnm2 hvw hps htl hto hsg
    go_enter Tryz.func127, Tryz.ntmps127
    go_upto_region 1 with fail
    obtain ⟨G, hG⟩ : ∃ G, w.heap.size = G := ⟨_, rfl⟩
    have hG' := Lib.hid hG
    generalize w.alloc (.cells (bcs b _ _) 40) = W at *
    simp only [hG] at HA ⊢
    clear hG
    go_upto_region 3 with fail
    refine wp_region_inv (by kernel_rfl) (by kernel_rfl) Rb (sigG G L c0 k ad vw b v1 v2 root nm x ok) rb_refl rb_trans ⟨?_, ?_, ?_, ?_, ?_, ?_, ?_, ?_, ?_, ?_, ?_, ?_, ?_, ?_, ?_, ?_, ?_, ?_, ?_, trivial⟩ ?_
    · intro u w1 hR hdep K hK
      rw [if_pos (by rfl)]
      simp only [frameF, Act.put, List.setIfInBounds_toArray, List.set_cons_zero, List.set_cons_succ, Nat.reduceAdd] at hK ⊢
      clear hdep
      go_simp
      refine hK _ _ (rb_refl _) fun w3 h3 => ?_
      exact rfl
    · intro u w1 hR hdep K hK
      rw [if_pos (by rfl)]
      simp only [frameF, Act.put, List.setIfInBounds_toArray, List.set_cons_zero, List.set_cons_succ, Nat.reduceAdd] at hK ⊢
      clear hdep
      go_simp
      refine hK _ _ (rb_refl _) fun w3 h3 => ?_
      exact rfl
    · intro u w1 hR hdep K hK
      rw [if_pos (by rfl)]
      simp only [frameF, Act.put, List.setIfInBounds_toArray, List.set_cons_zero, List.set_cons_succ, Nat.reduceAdd] at hK ⊢
      have u1 : u 1 = .pointer (some ⟨G, 0, none⟩) := hdep 1 (by kernel_rfl) w1 (rb_refl _)
      obtain ⟨r0, r1, r2, r3, r4, r5, r6, r7, r8⟩ := bcells (block_below hR HA.out)
      rw [HVW.out] at r0
      simp only [u1] at hK ⊢
      clear u1
      clear hdep
      go_simp
      refine hK _ _ (rb_refl _) fun w3 h3 => ?_
      exact rfl
    · intro u w1 hR hdep K hK
      rw [if_pos (by rfl)]
      simp only [frameF, Act.put, List.setIfInBounds_toArray, List.set_cons_zero, List.set_cons_succ, Nat.reduceAdd] at hK ⊢
      clear hdep
      go_simp
      refine hK _ _ (rb_refl _) fun w3 h3 => ?_
      exact rfl
    · intro u w1 hR hdep K hK
      rw [if_pos (by rfl)]
      simp only [frameF, Act.put, List.setIfInBounds_toArray, List.set_cons_zero, List.set_cons_succ, Nat.reduceAdd] at hK ⊢
      have u3 : u 3 = .slice (some ad) L c0 := hdep 3 (by kernel_rfl) w1 (rb_refl _)
      simp only [u3] at hK ⊢
      clear u3
      clear hdep
      go_simp
      refine hK _ _ (rb_refl _) fun w3 h3 => ?_
      exact rfl
    · intro u w1 hR hdep K hK
      rw [if_pos (by rfl)]
      simp only [frameF, Act.put, List.setIfInBounds_toArray, List.set_cons_zero, List.set_cons_succ, Nat.reduceAdd] at hK ⊢
      have u2 : u 2 = .int .i64 vw := hdep 2 (by kernel_rfl) w1 (rb_refl _)
      have u4 : u 4 = .int .i64 (L : Int) := hdep 4 (by kernel_rfl) w1 (rb_refl _)
      simp only [u2, u4] at hK ⊢
      clear u2 u4
      clear hdep
      go_simp
      refine (HLE.out _).mono ?_
      rintro x w2 ⟨rfl, b2⟩
      refine hK _ _ b2 fun w3 h3 => ?_
      exact rfl
    · intro u w1 hR hdep K hK
      rw [if_pos (by rfl)]
      simp only [frameF, Act.put, List.setIfInBounds_toArray, List.set_cons_zero, List.set_cons_succ, Nat.reduceAdd] at hK ⊢
      have u0 : u 0 = .slice (some ad) L c0 := hdep 0 (by kernel_rfl) w1 (rb_refl _)
      have u5 : u 5 = .int .i64 (vw % (L : Int)) := hdep 5 (by kernel_rfl) w1 (rb_refl _)
      simp only [u0, u5] at hK ⊢
      clear u0 u5
      clear hdep
      go_simp
      refine hK _ _ (rb_refl _) fun w3 h3 => ?_
      exact rfl
    · intro u w1 hR hdep K hK
      rw [if_pos (by rfl)]
      simp only [frameF, Act.put, List.setIfInBounds_toArray, List.set_cons_zero, List.set_cons_succ, Nat.reduceAdd] at hK ⊢
      have u6 : u 6 = .pointer (some (ad.add (vw % (L : Int)).toNat)) := hdep 6 (by kernel_rfl) w1 (rb_refl _)
      have cr := cell_below hR c9
      simp only [u6] at hK ⊢
      clear u6
      clear hdep
      go_simp
      refine hK _ _ (rb_refl _) fun w3 h3 => ?_
      exact rfl
    · intro u w1 hR hdep K hK
      rw [if_pos (by rfl)]
      simp only [frameF, Act.put, List.setIfInBounds_toArray, List.set_cons_zero, List.set_cons_succ, Nat.reduceAdd] at hK ⊢
      obtain ⟨r0, r1, r2, r3, r4, r5, r6, r7, r8⟩ := bcells (block_below hR HA.out)
      clear hdep
      go_simp
      refine hK _ _ (rb_refl _) fun w3 h3 => ?_
      exact rfl
    · intro u w1 hR hdep K hK
      rw [if_pos (by rfl)]
      simp only [frameF, Act.put, List.setIfInBounds_toArray, List.set_cons_zero, List.set_cons_succ, Nat.reduceAdd] at hK ⊢
      have u8 : u 8 = .agg (bcs b v1 v2) := hdep 8 (by kernel_rfl) w1 (rb_refl _)
      simp only [u8] at hK ⊢
      clear u8
      clear hdep
      go_simp
      refine (HNM.out _ (Kd.row_below hR HR.out)).mono ?_
      rintro x w2 ⟨rfl, b2⟩
      refine hK _ _ b2 fun w3 h3 => ?_
      exact rfl
    · intro u w1 hR hdep K hK
      rw [if_pos (by rfl)]
      simp only [frameF, Act.put, List.setIfInBounds_toArray, List.set_cons_zero, List.set_cons_succ, Nat.reduceAdd] at hK ⊢
      have u9 : u 9 = .string nm := hdep 9 (by kernel_rfl) w1 (rb_refl _)
      simp only [u9] at hK ⊢
      clear u9
      clear hdep
      obtain ⟨c1x, W1, hrun1, l1, m1, bw1, rw1⟩ := oct_law Tryz.underlying9 Tryz.underlying60 Tryz.underlying5 w1 nm HNS.out
      go_simp
      refine hK _ _ bw1 fun w3 h3 => ?_
      exact k_rb h3 (k_slice l1 m1 (rw1 0))
    · intro u w1 hR hdep K hK
      rw [if_pos (by rfl)]
      simp only [frameF, Act.put, List.setIfInBounds_toArray, List.set_cons_zero, List.set_cons_succ, Nat.reduceAdd] at hK ⊢
      clear hdep
      go_simp
      refine hK _ _ (rb_refl _) fun w3 h3 => ?_
      exact rfl
    · intro u w1 hR hdep K hK
      rw [if_pos (by rfl)]
      simp only [frameF, Act.put, List.setIfInBounds_toArray, List.set_cons_zero, List.set_cons_succ, Nat.reduceAdd] at hK ⊢
      have u11 : u 11 = .pointer (some ⟨G, 8, none⟩) := hdep 11 (by kernel_rfl) w1 (rb_refl _)
      obtain ⟨r0, r1, r2, r3, r4, r5, r6, r7, r8⟩ := bcells (block_below hR HA.out)
      simp only [u11] at hK ⊢
      clear u11
      clear hdep
      go_simp
      refine hK _ _ (rb_refl _) fun w3 h3 => ?_
      exact rfl
    · intro u w1 hR hdep K hK
      rw [if_pos (by rfl)]
      simp only [frameF, Act.put, List.setIfInBounds_toArray, List.set_cons_zero, List.set_cons_succ, Nat.reduceAdd] at hK ⊢
      have u7 : u 7 = .string root := hdep 7 (by kernel_rfl) w1 (rb_refl _)
      have u10 : kBB.K 0 w1 (bl nm) [u 10] := hdep 10 (by kernel_rfl) w1 (rb_refl _)
      obtain ⟨A6, c6, e6, l6, m6, r6⟩ := k_form u10
      clear u10
      have u12 : u 12 = .string b.sig := hdep 12 (by kernel_rfl) w1 (rb_refl _)
      simp only [u7, e6, u12] at hK ⊢
      clear u7 e6 u12
      clear hdep
      go_simp
      refine (HVER.out _ A6 c6 l6 m6 r6).mono ?_
      rintro x w2 ⟨rfl, b2⟩
      refine hK _ _ b2 fun w3 h3 => ?_
      exact rfl
    · intro u w1 hR hdep K hK
      rw [if_pos (by rfl)]
      simp only [frameF, Act.put, List.setIfInBounds_toArray, List.set_cons_zero, List.set_cons_succ, Nat.reduceAdd] at hK ⊢
      have u13 : u 13 = .tuple #[.int .i64 x, .bool ok] := hdep 13 (by kernel_rfl) w1 (rb_refl _)
      simp only [u13] at hK ⊢
      clear u13
      clear hdep
      go_simp
      refine hK _ _ (rb_refl _) fun w3 h3 => ?_
      exact rfl
    · intro u w1 hR hdep K hK
      rw [if_pos (by rfl)]
      simp only [frameF, Act.put, List.setIfInBounds_toArray, List.set_cons_zero, List.set_cons_succ, Nat.reduceAdd] at hK ⊢
      have u14 : u 14 = .tuple #[.int .i64 x, .bool ok] := hdep 14 (by kernel_rfl) w1 (rb_refl _)
      simp only [u14] at hK ⊢
      clear u14
      clear hdep
      go_simp
      refine hK _ _ (rb_refl _) fun w3 h3 => ?_
      exact rfl
    · intro u w1 hR hdep K hK
      rw [if_pos (by rfl)]
      simp only [frameF, Act.put, List.setIfInBounds_toArray, List.set_cons_zero, List.set_cons_succ, Nat.reduceAdd] at hK ⊢
      have u14 : u 14 = .tuple #[.int .i64 x, .bool ok] := hdep 14 (by kernel_rfl) w1 (rb_refl _)
      simp only [u14] at hK ⊢
      clear u14
      clear hdep
      go_simp
      refine hK _ _ (rb_refl _) fun w3 h3 => ?_
      exact rfl
    · intro u w1 hR hdep K hK
      rw [if_pos (by rfl)]
      simp only [frameF, Act.put, List.setIfInBounds_toArray, List.set_cons_zero, List.set_cons_succ, Nat.reduceAdd] at hK ⊢
      have u15 : u 15 = .int .i64 x := hdep 15 (by kernel_rfl) w1 (rb_refl _)
      simp only [u15] at hK ⊢
      clear u15
      clear hdep
      go_simp
      refine hK _ _ (rb_refl _) fun w3 h3 => ?_
      exact rfl
    · intro u w1 hR hdep K hK
      rw [if_pos (by rfl)]
      simp only [frameF, Act.put, List.setIfInBounds_toArray, List.set_cons_zero, List.set_cons_succ, Nat.reduceAdd] at hK ⊢
      have u16 : u 16 = .bool ok := hdep 16 (by kernel_rfl) w1 (rb_refl _)
      simp only [u16] at hK ⊢
      clear u16
      clear hdep
      go_simp
      refine hK _ _ (rb_refl _) fun w3 h3 => ?_
      exact rfl
    · intro u w' hR hall
      have h18 : u 18 = .bool ok := hall 18 (by decide)
      have bw' := bl_trans (bl_drew q0) hR
      clear hall
      simp only [frameF, Act.put, List.setIfInBounds_toArray, List.set_cons_zero, List.set_cons_succ, Nat.reduceAdd, h18]
      clear h18
      go_wp2_with fail
      go_ret
      exact ⟨rfl, bw'⟩
  · have h0 : roots.length = 0 := by omega
    have hv : signedB b roots = false := by unfold signedB; rw [decide_eq_false h1]; rfl
    rw [hv, hL, h0]
    clear hv h1 h0 hr hr0 row0 hok
    go_enter Tryz.func127, Tryz.ntmps127
    go_upto_region 1 with fail
    generalize w.alloc (.cells (bcs b _ _) 40) = W at *
    go_wp2_with fail
    go_ret
    exact ⟨rfl, q0⟩
end Go.Proofs.YtcbfpdenjdgnlaaGreat
/- Package cert: what is about a mark, by closure. No claim of its own; no condition. -/
namespace Go.Proofs.YtcbfpdenjdgnlaaGreat
open Go.ChangeShapes Go.WideShapes Go.ChangeAt Go.RowKit Go.Sort
set_option linter.unusedVariables false
set_option linter.unusedSimpArgs false
def Vote.mk3 (v : Vote) : Mark := ⟨v.view, v.height, v.block⟩
theorem mk3_calls (v : Vote) (w : World) :
    Calls Tryz.prog 102 #[.agg #[.int .i64 v.kind, .int .i64 v.view, .int .i64 v.height, .string v.block, .int .i64 v.ticks, .int .i64 v.signer, .string v.sig]] w
      fun e w' => e = .returned (.agg #[.int .i64 v.view, .int .i64 v.height, .string v.block]) ∧ Below w.heap.size w w' := by
  go_enter Tryz.func102, Tryz.ntmps102
  go_wp2
  refine bodyPost_ret (v := .agg #[.int .i64 v.view, .int .i64 v.height, .string v.block]) (by simp [results, Tryz.results102, go_sem]) rfl ⟨rfl, ?_⟩
  repeat (first | exact Below.refl _ _ | apply bl_alloc | apply bl_drew | (refine bl_set ?_ (by simp) _))
/-- A vote of kind 1 about m. -/
def isW (m : Mark) (v : Vote) : Bool := (v.kind == 1) && decide (v.mk3 = m)
set_option maxHeartbeats 1600000 in
set_option maxRecDepth 100000 in
theorem isabout_calls (v : Vote) (m : Mark) (b : Nat) (W : World) (h0 : W.cell? ⟨b, 0, none⟩ = some (.int .i64 m.view)) (h1 : W.cell? ⟨b, 1, none⟩ = some (.int .i64 m.height)) (h2 : W.cell? ⟨b, 2, none⟩ = some (.string m.block)) :
    Calls Tryz.prog 246 #[.agg #[.int .i64 v.kind, .int .i64 v.view, .int .i64 v.height, .string v.block, .int .i64 v.ticks, .int .i64 v.signer, .string v.sig], .pointer (some ⟨b, 0, none⟩)] W fun e w' => e = .returned (.bool (isW m v)) ∧ Below W.heap.size W w' := by
  have q := bl_alloc (Below.refl W.heap.size W) (.cells #[.int .i64 v.kind, .int .i64 v.view, .int .i64 v.height, .string v.block, .int .i64 v.ticks, .int .i64 v.signer, .string v.sig] 52)
  have a0 := alloc_new W (.cells #[.int .i64 v.kind, .int .i64 v.view, .int .i64 v.height, .string v.block, .int .i64 v.ticks, .int .i64 v.signer, .string v.sig] 52)
  have c0 := cell_below q h0
  have c1 := cell_below q h1
  have c2 := cell_below q h2
  clear h0 h1 h2
  unfold isW
  cases d1 : v.kind == 1
  · rw [Bool.false_and]
    go_enter Tryz.func246, Tryz.ntmps246
    go_upto_region 1 with fail
    generalize W.alloc (.cells #[.int .i64 v.kind, .int .i64 v.view, .int .i64 v.height, .string v.block, .int .i64 v.ticks, .int .i64 v.signer, .string v.sig] 52) = V at *
    have r0 := block_cell a0 (i := 0) rfl
    go_quiet (fail)
    go_wp2_with fail
    go_ret
    exact ⟨rfl, bl_drewN q _⟩
  · rw [Bool.true_and]
    have hq : ∀ W, (binOp .eql 34 (.agg #[.int .i64 v.view, .int .i64 v.height, .string v.block]) (.agg #[.int .i64 m.view, .int .i64 m.height, .string m.block])).run Tryz.prog W = .ok (.bool (decide (v.mk3 = m))) W := fun W => eqlMark v.mk3 m W
    generalize decide (v.mk3 = m) = r at *
    go_enter Tryz.func246, Tryz.ntmps246
    go_upto_region 1 with fail
    generalize W.alloc (.cells #[.int .i64 v.kind, .int .i64 v.view, .int .i64 v.height, .string v.block, .int .i64 v.ticks, .int .i64 v.signer, .string v.sig] 52) = V at *
    have r0 := held_cell (block_cell a0 (i := 0) rfl)
    have r1 := held_cell (block_cell a0 (i := 1) rfl)
    have r2 := held_cell (block_cell a0 (i := 2) rfl)
    have r3 := held_cell (block_cell a0 (i := 3) rfl)
    have r4 := held_cell (block_cell a0 (i := 4) rfl)
    have r5 := held_cell (block_cell a0 (i := 5) rfl)
    have r6 := held_cell (block_cell a0 (i := 6) rfl)
    have e0 := held_cell c0
    have e1 := held_cell c1
    have e2 := held_cell c2
    clear c0 c1 c2 a0
    go_region_held3 (fun w' => Below V.heap.size V w') (repeat (first | exact Below.refl _ _ | assumption | apply bl_drew | apply bl_alloc | (refine bl_trans ?_ (by assumption)))) ((go_at_call 102; refine (mk3_calls v _).mono ?_; rintro e w2 ⟨rfl, hb⟩))
    all_goals
      go_wp2_with fail
      go_ret
      exact ⟨rfl, bl_trans q (by assumption)⟩
theorem about54_calls (m : Mark) (w : World) : Calls Tryz.prog 195 #[.agg #[.int .i64 m.view, .int .i64 m.height, .string m.block]] w fun e w' => e = .returned (.func (.func 246) #[] #[.pointer (some ⟨w.heap.size, 0, none⟩)]) ∧ w' = w.alloc (.cells #[.int .i64 m.view, .int .i64 m.height, .string m.block] 34) := by
  go_enter Tryz.func195, Tryz.ntmps195
  go_wp2
  go_ret
  exact ⟨rfl, rfl⟩
end Go.Proofs.YtcbfpdenjdgnlaaGreat
/- Package cert: what Check asks. No claim of its own; no condition. -/
namespace Go.Proofs.YtcbfpdenjdgnlaaGreat
open Go.ChangeShapes Go.WideShapes Go.ChangeAt Go.RowKit
set_option linter.unusedVariables false
set_option linter.unusedSimpArgs false
def markC (c : Cert) : Mark := ⟨c.view, c.height, c.block⟩
/-- The one before has no lesser signer. -/
def prevGe (l : List Vote) (i : Nat) (v : Vote) : Bool := match i with
  | 0 => false
  | k + 1 => match l[k]? with
    | some p => decide (v.signer ≤ p.signer)
    | none => false
def okAt (m : Mark) (roots : List ByteArray) (l : List Vote) (i : Nat) : Bool := match l[i]? with
  | some v => isW m v && (!prevGe l i v && validV v roots)
  | none => true
def allOk (m : Mark) (roots : List ByteArray) (l : List Vote) (k : Nat) : Bool := (List.range k).all (okAt m roots l)
theorem allOk_succ (m : Mark) (roots : List ByteArray) (l : List Vote) (k : Nat) : allOk m roots l (k + 1) = (allOk m roots l k && okAt m roots l k) := by
  unfold allOk
  rw [List.range_succ, List.all_append]
  simp
theorem allOk_le {m : Mark} {roots : List ByteArray} {l : List Vote} {k n : Nat} (h : k ≤ n) (hn : allOk m roots l n = true) : allOk m roots l k = true := by
  unfold allOk at *
  rw [List.all_eq_true] at *
  intro i hi
  exact hn i (List.mem_range.2 (Nat.lt_of_lt_of_le (List.mem_range.1 hi) h))
/-- Whether a cert is right. -/
def chkC (m : Mark) (l : List Vote) (roots : List ByteArray) (q : Int) : Int :=
  if l.length = 0 then (if m = firstM then 0 else 41) else if q < 1 ∨ (l.length : Int) ≠ q then 41 else if allOk m roots l l.length = true then 0 else 41
end Go.Proofs.YtcbfpdenjdgnlaaGreat
