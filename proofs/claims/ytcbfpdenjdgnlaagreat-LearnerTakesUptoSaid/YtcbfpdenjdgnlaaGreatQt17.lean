/- Package vote: text, Put, Text. No claim of its own; no condition. -/
import Derived.Test.YtcbfpdenjdgnlaaGreatQt15
namespace Go.Proofs.YtcbfpdenjdgnlaaGreat
open Go.ChangeShapes Go.WideShapes Go.ChangeAt Go.RowKit
set_option linter.unusedVariables false
set_option linter.unusedSimpArgs false
theorem numW_bd {s : List UInt8 × Int} (h : s.1.length ≤ 20482) (n : Int) : (numW s n).1.length ≤ 20482 := by
  unfold numW
  split
  · exact h
  · split
    · rw [List.length_append, putB_len]; omega
    · exact h
theorem textW_bd {s : List UInt8 × Int} (h : s.1.length ≤ 20482) (t : ByteArray) : (textW s t).1.length ≤ 20482 := by
  unfold textW
  split
  · exact h
  · split
    · rw [List.length_append, List.length_append, putB_len, bl_len]; omega
    · exact h
def voteWord : ByteArray := ⟨#[118, 111, 116, 101]⟩
/-- A vote's fields, but its signature. -/
def vfW (s : List UInt8 × Int) (v : Vote) : List UInt8 × Int := numW (numW (textW (numW (numW (numW (textW s voteWord) v.kind) v.view) v.height) v.block) v.ticks) v.signer
theorem vfW_bd {s : List UInt8 × Int} (h : s.1.length ≤ 20482) (v : Vote) : (vfW s v).1.length ≤ 20482 :=
  numW_bd (numW_bd (textW_bd (numW_bd (numW_bd (numW_bd (textW_bd h _) _) _) _) _) _) _
/-- A block of another kind lies on. -/
theorem wk_block {M G : Nat} {w w' : World} {c : Array Value} {t : TypeId} {f : Nat × Nat} (h : Wk M w w') (hb : w.heap[G]? = some (.cells c t f)) (h1 : t ≠ 210) (h2 : t ≠ 5) : w'.heap[G]? = some (.cells c t f) :=
  ((h.2 [t] (by simpa using fun e => h1 e.symm) (by simpa using fun e => h2 e.symm)).2 G ⟨blk_lt hb, .inr ⟨_, _, _, hb, by simp⟩⟩).trans hb
set_option maxHeartbeats 1600000 in
set_option maxRecDepth 100000 in
theorem vtext_calls (M N : Nat) (s : List UInt8 × Int) (v : Vote) (w : World) (h : WrS M w N s.1 s.2) (hl : s.1.length ≤ 20482) (hz : v.block.size ≤ 1048576) :
    Calls Tryz.prog 155 #[.pointer (some ⟨N, 0, none⟩), .agg (vcs v)] w fun x w' => (∃ u, x = .returned u) ∧ WrS M w' N (vfW s v).1 (vfW s v).2 ∧ Wk M w w' := by
  have q0 := bl_alloc (Below.refl w.heap.size w) (.cells (vcs v) 52)
  have a0 : (w.alloc (.cells (vcs v) 52)).heap[w.heap.size]? = some (.cells (vcs v) 52 (0, 0)) := alloc_new w _
  have W0 := wrs_below h q0
  have k0 := wk_below q0 (wrs_size h)
  have hv : vfW s v = numW (numW (textW (numW (numW (numW (textW s voteWord) v.kind) v.view) v.height) v.block) v.ticks) v.signer := rfl
  have HV := Lib.hid hv
  clear hv
  unfold vcs
  go_enter Tryz.func155, Tryz.ntmps155
  go_upto_region 1 with fail
  change Code.wp _ _ _ _ (w.alloc (.cells (vcs v) 52))
  generalize w.alloc (.cells (vcs v) 52) = W at *
  have hzw : voteWord.size ≤ 1048576 := by decide
  go_upto_region 2 with (go_at_call 85; refine (text_calls M N s voteWord _ W0 (by omega) hzw).mono ?_; rintro x w1 ⟨⟨x1, rfl⟩, W1, k1'⟩)
  have k1 := wk_trans k0 k1'
  have a1 := wk_block k1' a0 (by decide) (by decide)
  obtain ⟨s1, hs1⟩ : ∃ z, textW s voteWord = z := ⟨_, rfl⟩
  have l1 : s1.1.length ≤ 20482 := by rw [← hs1]; exact textW_bd hl _
  have HV' := HV.out
  rw [hs1] at W1 HV'
  clear HV hs1 k1' W0
  have HV := Lib.hid HV'
  clear HV'
  obtain ⟨r0, r1, r2, r3, r4, r5, r6⟩ := vcells a1
  go_upto_region 3 with (go_at_call 81; refine (num_calls M N s1 v.kind _ W1 (by omega)).mono ?_; rintro x w2 ⟨⟨x2, rfl⟩, W2, k2'⟩)
  have k2 := wk_trans k1 k2'
  have a2 := wk_block k2' a1 (by decide) (by decide)
  obtain ⟨s2, hs2⟩ : ∃ z, numW s1 v.kind = z := ⟨_, rfl⟩
  have l2 : s2.1.length ≤ 20482 := by rw [← hs2]; exact numW_bd l1 _
  have HV' := HV.out
  rw [hs2] at W2 HV'
  clear HV hs2 k2' W1 r0 r1 r2 r3 r4 r5 r6
  have HV := Lib.hid HV'
  clear HV'
  obtain ⟨r0, r1, r2, r3, r4, r5, r6⟩ := vcells a2
  go_upto_region 4 with (go_at_call 81; refine (num_calls M N s2 v.view _ W2 (by omega)).mono ?_; rintro x w3 ⟨⟨x3, rfl⟩, W3, k3'⟩)
  have k3 := wk_trans k2 k3'
  have a3 := wk_block k3' a2 (by decide) (by decide)
  obtain ⟨s3, hs3⟩ : ∃ z, numW s2 v.view = z := ⟨_, rfl⟩
  have l3 : s3.1.length ≤ 20482 := by rw [← hs3]; exact numW_bd l2 _
  have HV' := HV.out
  rw [hs3] at W3 HV'
  clear HV hs3 k3' W2 r0 r1 r2 r3 r4 r5 r6
  have HV := Lib.hid HV'
  clear HV'
  obtain ⟨r0, r1, r2, r3, r4, r5, r6⟩ := vcells a3
  go_upto_region 5 with (go_at_call 81; refine (num_calls M N s3 v.height _ W3 (by omega)).mono ?_; rintro x w4 ⟨⟨x4, rfl⟩, W4, k4'⟩)
  have k4 := wk_trans k3 k4'
  have a4 := wk_block k4' a3 (by decide) (by decide)
  obtain ⟨s4, hs4⟩ : ∃ z, numW s3 v.height = z := ⟨_, rfl⟩
  have l4 : s4.1.length ≤ 20482 := by rw [← hs4]; exact numW_bd l3 _
  have HV' := HV.out
  rw [hs4] at W4 HV'
  clear HV hs4 k4' W3 r0 r1 r2 r3 r4 r5 r6
  have HV := Lib.hid HV'
  clear HV'
  obtain ⟨r0, r1, r2, r3, r4, r5, r6⟩ := vcells a4
  go_upto_region 6 with (go_at_call 85; refine (text_calls M N s4 v.block _ W4 (by omega) hz).mono ?_; rintro x w5 ⟨⟨x5, rfl⟩, W5, k5'⟩)
  have k5 := wk_trans k4 k5'
  have a5 := wk_block k5' a4 (by decide) (by decide)
  obtain ⟨s5, hs5⟩ : ∃ z, textW s4 v.block = z := ⟨_, rfl⟩
  have l5 : s5.1.length ≤ 20482 := by rw [← hs5]; exact textW_bd l4 _
  have HV' := HV.out
  rw [hs5] at W5 HV'
  clear HV hs5 k5' W4 r0 r1 r2 r3 r4 r5 r6
  have HV := Lib.hid HV'
  clear HV'
  obtain ⟨r0, r1, r2, r3, r4, r5, r6⟩ := vcells a5
  go_upto_region 7 with (go_at_call 81; refine (num_calls M N s5 v.ticks _ W5 (by omega)).mono ?_; rintro x w6 ⟨⟨x6, rfl⟩, W6, k6'⟩)
  have k6 := wk_trans k5 k6'
  have a6 := wk_block k6' a5 (by decide) (by decide)
  obtain ⟨s6, hs6⟩ : ∃ z, numW s5 v.ticks = z := ⟨_, rfl⟩
  have l6 : s6.1.length ≤ 20482 := by rw [← hs6]; exact numW_bd l5 _
  have HV' := HV.out
  rw [hs6] at W6 HV'
  clear HV hs6 k6' W5 r0 r1 r2 r3 r4 r5 r6
  have HV := Lib.hid HV'
  clear HV'
  obtain ⟨r0, r1, r2, r3, r4, r5, r6⟩ := vcells a6
  go_wp2_with (go_at_call 81; refine (num_calls M N s6 v.signer _ W6 (by omega)).mono ?_; rintro x w7 ⟨⟨x7, rfl⟩, W7, k7'⟩)
  have k7 := wk_trans k6 k7'
  go_end0
  rw [HV.out]
  exact ⟨⟨_, rfl⟩, W7, k7⟩
end Go.Proofs.YtcbfpdenjdgnlaaGreat
/- Package vote: Put, Text, Valid. No claim of its own; no condition. -/
namespace Go.Proofs.YtcbfpdenjdgnlaaGreat
open Go.ChangeShapes Go.WideShapes Go.ChangeAt Go.RowKit
set_option linter.unusedVariables false
set_option linter.unusedSimpArgs false
/-- A vote's octets. -/
def vtB (v : Vote) : List UInt8 := (vfW ([], 0) v).1
def vpW (s : List UInt8 × Int) (v : Vote) : List UInt8 × Int := textW (vfW s v) v.sig
theorem numW_in {s : List UInt8 × Int} {n : Int} (h1 : 0 ≤ n) (h2 : n ≤ 1099511627776) (h3 : s.1.length ≤ 16384) : numW s n = (s.1 ++ putB 6 n.toNat, s.2) := by
  unfold numW
  rw [if_neg (by omega), if_pos h3]
theorem textW_in {s : List UInt8 × Int} {t : ByteArray} (h1 : t.size ≤ 4096) (h3 : s.1.length ≤ 16384) : textW s t = (s.1 ++ putB 2 t.size ++ bl t, s.2) := by
  unfold textW
  rw [if_neg (by omega), if_pos h3]
theorem voteOk_bd {v : Vote} (h : voteOk v = true) : (1 ≤ v.kind ∧ v.kind ≤ 4) ∧ (0 ≤ v.view ∧ v.view ≤ 1048576) ∧ (0 ≤ v.height ∧ v.height ≤ 1048576) ∧ v.block.size ≤ 32 ∧ (0 ≤ v.ticks ∧ v.ticks ≤ 1048576) ∧ (0 ≤ v.signer ∧ v.signer < 7) ∧ v.sig.size ≤ 4096 := by
  unfold voteOk at h
  simp only [Bool.and_eq_true, decide_eq_true_eq] at h
  obtain ⟨h1, h2, h3, h4, ha, ht, hr, hs⟩ := h
  unfold replicaB at hr
  simp only [Bool.and_eq_true, decide_eq_true_eq] at hr
  refine ⟨⟨h1, h2⟩, ⟨h3, h4⟩, ?_, ?_, ?_, hr, hs⟩
  · unfold aboutB at ha
    split at ha
    · simp only [Bool.and_eq_true, beq_iff_eq] at ha; omega
    · simp only [Bool.and_eq_true, decide_eq_true_eq] at ha; omega
  · unfold aboutB at ha
    split at ha
    · simp only [Bool.and_eq_true, beq_iff_eq] at ha
      have h5 := ha.2
      rw [ByteArray.toList_eq] at h5
      have : v.block.data.toList = [] := by simpa using h5
      have h6 : v.block.size = 0 := by show v.block.data.size = 0; rw [← Array.length_toList, this]; rfl
      omega
    · simp only [Bool.and_eq_true, decide_eq_true_eq, beq_iff_eq] at ha; omega
  · unfold tickedB at ht
    split at ht
    · simp only [Bool.and_eq_true, decide_eq_true_eq] at ht; omega
    · simp only [beq_iff_eq] at ht; omega
theorem vfW_ok {v : Vote} (h : voteOk v = true) : vfW ([], 0) v = (vtB v, 0) ∧ (vtB v).length ≤ 16384 := by
  obtain ⟨h1, h2, h3, h4, h5, h6, _⟩ := voteOk_bd h
  have n_st : ∀ {s : List UInt8 × Int} {n : Int} {L : Nat}, s.2 = 0 ∧ s.1.length ≤ L → L ≤ 16384 → 0 ≤ n → n ≤ 1099511627776 → (numW s n).2 = 0 ∧ (numW s n).1.length ≤ L + 6 := by
    intro s n L ⟨a, b⟩ c d e
    rw [numW_in d e (by omega)]
    refine ⟨a, ?_⟩
    rw [List.length_append, putB_len]
    omega
  have t_st : ∀ {s : List UInt8 × Int} {t : ByteArray} {L : Nat}, s.2 = 0 ∧ s.1.length ≤ L → L ≤ 16384 → t.size ≤ 32 → (textW s t).2 = 0 ∧ (textW s t).1.length ≤ L + 34 := by
    intro s t L ⟨a, b⟩ c d
    rw [textW_in (by omega) (by omega)]
    refine ⟨a, ?_⟩
    rw [List.length_append, List.length_append, putB_len, bl_len]
    omega
  have s1 := t_st (s := ([], 0)) (t := voteWord) (L := 0) ⟨rfl, by simp⟩ (by omega) (by decide)
  have s2 := n_st (n := v.kind) s1 (by omega) (by omega) (by omega)
  have s3 := n_st (n := v.view) s2 (by omega) (by omega) (by omega)
  have s4 := n_st (n := v.height) s3 (by omega) (by omega) (by omega)
  have s5 := t_st (t := v.block) s4 (by omega) h4
  have s6 := n_st (n := v.ticks) s5 (by omega) (by omega) (by omega)
  have s7 := n_st (n := v.signer) s6 (by omega) (by omega) (by omega)
  have key : ∃ l : List UInt8, vfW ([], 0) v = (l, 0) ∧ l.length ≤ 16384 := ⟨(vfW ([], 0) v).1, Prod.ext rfl s7.1, Nat.le_trans s7.2 (by omega)⟩
  obtain ⟨l, h7, h8⟩ := key
  have h9 : vtB v = l := by unfold vtB; rw [h7]
  rw [h9]
  exact ⟨h7, h8⟩
set_option maxHeartbeats 1600000 in
set_option maxRecDepth 100000 in
theorem vText_calls (v : Vote) (w : World) (h : voteOk v = true) : Calls Tryz.prog 172 #[.agg (vcs v)] w fun x w' => (∃ u, x = .returned u ∧ Kd.u8.Own 5 w.heap.size w' w.heap.size u (vtB v)) ∧ Below w.heap.size w w' := by
  have hz : v.block.size ≤ 1048576 := by have := voteOk_bd h; omega
  have hck := fun W => vcheck_calls v W
  have h0 : chkV v = 0 := by unfold chkV; rw [if_pos h]
  rw [h0] at hck
  have hd : doneW (vfW ([], 0) v) = (vtB v, 0) := by
    obtain ⟨h1, h2⟩ := vfW_ok h
    rw [h1]
    show (if ((0 : Int) == 0) = true then (if 16384 < (vtB v).length then (([] : List UInt8), (5 : Int)) else (vtB v, 0)) else ([], 0)) = _
    rw [if_pos (by decide), if_neg (by omega)]
  have q0 := bl_alloc (Below.refl w.heap.size w) (.cells (vcs v) 52)
  have a0 : (w.alloc (.cells (vcs v) 52)).heap[w.heap.size]? = some (.cells (vcs v) 52 (0, 0)) := alloc_new w _
  have hvt := fun (M N : Nat) (W : World) (hW : WrS M W N [] 0) => vtext_calls M N ([], 0) v W hW (by simp) hz
  have hdn := fun (M N : Nat) (W : World) (hW : WrS M W N (vfW ([], 0) v).1 (vfW ([], 0) v).2) => done_calls M N (vfW ([], 0) v) W hW (by have := vfW_bd (s := ([], 0)) (by simp) v; omega)
  rw [hd] at hdn
  have HCK := Lib.hid hck
  have HVT := Lib.hid hvt
  have HDN := Lib.hid hdn
  clear hck h0 hd hvt hdn
  unfold vcs at *
  go_enter Tryz.func172, Tryz.ntmps172
  go_upto_region 1 with fail
  change Code.wp _ _ _ _ (w.alloc (.cells (vcs v) 52))
  have a0' : (w.alloc (.cells (vcs v) 52)).heap[w.heap.size]? = some (.cells (vcs v) 52 (0, 0)) := a0
  have q0' : Below w.heap.size w (w.alloc (.cells (vcs v) 52)) := q0
  clear a0 q0
  generalize w.alloc (.cells (vcs v) 52) = W at *
  obtain ⟨r0, r1, r2, r3, r4, r5, r6⟩ := vcells a0'
  go_upto_region 4 with (first
    | (go_at_call 170; refine (HCK.out _).mono ?_; rintro x w1 ⟨rfl, b1⟩)
    | (go_at_call 80; refine (new_calls _).mono ?_; rintro x w2 ⟨rfl, W2, b2⟩))
  have b12 := bl_trans b1 b2
  have a2 := block_below b12 a0'
  have hsz := Nat.le_trans q0'.size b1.size
  clear r0 r1 r2 r3 r4 r5 r6
  obtain ⟨r0, r1, r2, r3, r4, r5, r6⟩ := vcells a2
  go_wp2_with (first
    | (go_at_call 155; refine (HVT.out _ _ _ W2).mono ?_; rintro x w3 ⟨⟨x3, rfl⟩, W3, k3⟩)
    | (go_at_call 87; refine (HDN.out _ _ _ W3).mono ?_; rintro x w4 ⟨⟨v4, rfl, own4⟩, b4⟩))
  go_ret
  have B3 : Below w.heap.size w w3 := (bl_trans q0' b12).trans (k3.1.mono hsz)
  exact ⟨⟨_, rfl, Kd.own_flat (B' := w.heap.size) Kd.flat_u8 own4 B3.size⟩, bl_trans B3 b4⟩
/-- Whether a vote is its signer's own. -/
def validV (v : Vote) (roots : List ByteArray) : Bool := voteOk v && (decide (v.signer < (roots.length : Int)) && (verF (roots.getD v.signer.toNat ⟨#[]⟩) 4 (vtB v) v.sig).isSome)
def valG (G : Nat) (ad : Addr) (n c : Nat) (v : Vote) (root : ByteArray) (tb : List UInt8) (x : Int) (ok : Bool) : Nat → Value → World → Prop
  | 0, y, _ => y = .slice (some ad) n c
  | 1, y, _ => y = .pointer (some ⟨G, 5, none⟩)
  | 2, y, _ => y = .int .i64 v.signer
  | 3, y, _ => y = .pointer (some (ad.add v.signer.toNat))
  | 4, y, _ => y = .string root
  | 5, y, _ => y = .agg (vcs v)
  | 6, y, w => kBB.K 0 w tb [y]
  | 7, y, _ => y = .pointer (some ⟨G, 6, none⟩)
  | 8, y, _ => y = .string v.sig
  | 9, y, _ => y = .tuple #[.int .i64 x, .bool ok]
  | 10, y, _ => y = .tuple #[.int .i64 x, .bool ok]
  | 11, y, _ => y = .int .i64 x
  | 12, y, _ => y = .bool ok
  | 13, y, _ => y = .int .i64 x
  | 14, y, _ => y = .bool ok
  | _, _, _ => True
set_option maxHeartbeats 3200000 in
set_option maxRecDepth 100000 in
theorem vvalid_calls (v : Vote) (roots : List ByteArray) (A : Option Addr) (n c B : Nat) (w : World) (hn : n = roots.length) (hr : Kd.str.Row 9 B w A roots) (hz : v.sig.size ≤ 140737488351232) (hl : roots.length ≤ 1048576) :
    Calls Tryz.prog 103 #[.agg (vcs v), .slice A n c] w fun x w' => x = .returned (.bool (validV v roots)) ∧ Below w.heap.size w w' := by
  subst hn
  have hck := fun W => vcheck_calls v W
  have q0 := bl_alloc (Below.refl w.heap.size w) (.cells (vcs v) 52)
  have a0 : (w.alloc (.cells (vcs v) 52)).heap[w.heap.size]? = some (.cells (vcs v) 52 (0, 0)) := alloc_new w _
  cases hok : voteOk v with
  | false =>
    have hv : validV v roots = false := by unfold validV; rw [hok]; rfl
    have h0 : chkV v = 9 := by unfold chkV; rw [if_neg (by rw [hok]; simp)]
    rw [hv]
    rw [h0] at hck
    have HCK := Lib.hid hck
    clear hck h0 hv hok
    go_enter Tryz.func103, Tryz.ntmps103
    go_upto_region 1 with fail
    generalize w.alloc (.cells (vcs v) 52) = W at *
    obtain ⟨r0, r1, r2, r3, r4, r5, r6⟩ := vcells a0
    go_wp2_with (go_at_call 170; refine (HCK.out _).mono ?_; rintro x w1 ⟨rfl, b1⟩)
    go_ret
    exact ⟨rfl, bl_trans q0 b1⟩
  | true =>
    have h0 : chkV v = 0 := by unfold chkV; rw [if_pos hok]
    rw [h0] at hck
    have HCK := Lib.hid hck
    clear hck h0
    by_cases hs : v.signer < (roots.length : Int)
    · have hbd := (voteOk_bd hok).2.2.2.2.2.1
      obtain ⟨k, hk⟩ : ∃ k : Nat, v.signer.toNat = k := ⟨_, rfl⟩
      obtain ⟨root, hroot⟩ : ∃ x, roots[k]? = some x := ⟨_, List.getElem?_eq_getElem (by omega)⟩
      obtain ⟨ad, rfl, c0⟩ := str_at hr hroot
      rw [← hk] at c0
      have hgd : roots.getD v.signer.toNat ⟨#[]⟩ = root := by rw [hk, List.getD_eq_getElem?_getD, hroot]; rfl
      obtain ⟨tb, htb⟩ : ∃ t, vtB v = t := ⟨_, rfl⟩
      have htl : tb.length ≤ 16384 := by rw [← htb]; exact (vfW_ok hok).2
      obtain ⟨r, hrr⟩ : ∃ r, verF root 4 tb v.sig = r := ⟨_, rfl⟩
      have hv : validV v roots = r.isSome := by unfold validV; rw [hok, decide_eq_true hs, hgd, htb, hrr]; rfl
      obtain ⟨x, hx⟩ : ∃ x : Int, ((r.getD 0 : Nat) : Int) = x := ⟨_, rfl⟩
      obtain ⟨ok, hokk⟩ : ∃ ok, r.isSome = ok := ⟨_, rfl⟩
      have hver := fun (W : World) (A6 : Option Addr) (c6 : Nat) (l6 : tb.length ≤ c6) (m6 : c6 ≤ maxLen) (h : Kd.u8.Row 5 0 W A6 tb) => verify4_calls root v.sig tb A6 tb.length c6 W 0 rfl (by omega) l6 m6 h hz
      rw [hrr, hx, hokk] at hver
      rw [hv, hokk]
      have ht := fun W => vText_calls v W hok
      rw [htb] at ht
      have HVER := Lib.hid hver
      have HT := Lib.hid ht
      have hs0 : 0 ≤ v.signer := hbd.1
      have HA := Lib.hid a0
      have c0 := cell_below q0 c0
      clear hver ht hv hx hokk hrr htb htl hgd hroot hk hok hbd
      go_enter Tryz.func103, Tryz.ntmps103
      go_upto_region 1 with fail
      obtain ⟨G, hG⟩ : ∃ G, w.heap.size = G := ⟨_, rfl⟩
      have hG' := Lib.hid hG
      generalize w.alloc (.cells (vcs v) 52) = W at *
      simp only [hG] at a0 HA ⊢
      clear hG
      obtain ⟨r0, r1, r2, r3, r4, r5, r6⟩ := vcells a0
      go_upto_region 3 with (go_at_call 170; refine (HCK.out _).mono ?_; rintro x w1 ⟨rfl, b1⟩; have a1 := block_below b1 a0; obtain ⟨p0, p1, p2, p3, p4, p5, p6⟩ := vcells a1)
      clear r0 r1 r2 r3 r4 r5 r6 p0 p1 p2 p3 p4 p5 p6
      have c0 := cell_below b1 c0
      have HA := Lib.hid a1
      have B1 := bl_trans q0 b1
      clear a0 a1
      refine wp_region_inv (by kernel_rfl) (by kernel_rfl) Rb (valG G ad roots.length c v root tb x ok) rb_refl rb_trans ⟨?_, ?_, ?_, ?_, ?_, ?_, ?_, ?_, ?_, ?_, ?_, ?_, ?_, ?_, ?_, trivial⟩ ?_
      · intro u w1 hR hdep K hK
        rw [if_pos (by rfl)]
        simp only [frameF, Act.put, List.setIfInBounds_toArray, List.set_cons_zero, List.set_cons_succ, Nat.reduceAdd] at hK ⊢
        clear hdep
        go_simp
        refine hK _ _ (rb_refl _) fun w3 h3 => ?_
        exact rfl
      · intro u w1 hR hdep K hK
        rw [if_pos (by rfl)]
        simp only [frameF, Act.put, List.setIfInBounds_toArray, List.set_cons_zero, List.set_cons_succ, Nat.reduceAdd] at hK ⊢
        clear hdep
        go_simp
        refine hK _ _ (rb_refl _) fun w3 h3 => ?_
        exact rfl
      · intro u w1 hR hdep K hK
        rw [if_pos (by rfl)]
        simp only [frameF, Act.put, List.setIfInBounds_toArray, List.set_cons_zero, List.set_cons_succ, Nat.reduceAdd] at hK ⊢
        have u1 : u 1 = .pointer (some ⟨G, 5, none⟩) := hdep 1 (by kernel_rfl) w1 (rb_refl _)
        obtain ⟨r0, r1, r2, r3, r4, r5, r6⟩ := vcells (block_below hR HA.out)
        simp only [u1] at hK ⊢
        clear u1 hdep
        go_simp
        refine hK _ _ (rb_refl _) fun w3 h3 => ?_
        exact rfl
      · intro u w1 hR hdep K hK
        rw [if_pos (by rfl)]
        simp only [frameF, Act.put, List.setIfInBounds_toArray, List.set_cons_zero, List.set_cons_succ, Nat.reduceAdd] at hK ⊢
        have u0 : u 0 = .slice (some ad) roots.length c := hdep 0 (by kernel_rfl) w1 (rb_refl _)
        have u2 : u 2 = .int .i64 v.signer := hdep 2 (by kernel_rfl) w1 (rb_refl _)
        simp only [u0, u2] at hK ⊢
        clear u0 u2 hdep
        go_simp
        refine hK _ _ (rb_refl _) fun w3 h3 => ?_
        exact rfl
      · intro u w1 hR hdep K hK
        rw [if_pos (by rfl)]
        simp only [frameF, Act.put, List.setIfInBounds_toArray, List.set_cons_zero, List.set_cons_succ, Nat.reduceAdd] at hK ⊢
        have u3 : u 3 = .pointer (some (ad.add v.signer.toNat)) := hdep 3 (by kernel_rfl) w1 (rb_refl _)
        have cr := cell_below hR c0
        simp only [u3] at hK ⊢
        clear u3 hdep
        go_simp
        refine hK _ _ (rb_refl _) fun w3 h3 => ?_
        exact rfl
      · intro u w1 hR hdep K hK
        rw [if_pos (by rfl)]
        simp only [frameF, Act.put, List.setIfInBounds_toArray, List.set_cons_zero, List.set_cons_succ, Nat.reduceAdd] at hK ⊢
        obtain ⟨r0, r1, r2, r3, r4, r5, r6⟩ := vcells (block_below hR HA.out)
        clear hdep
        go_simp
        refine hK _ _ (rb_refl _) fun w3 h3 => ?_
        exact rfl
      · intro u w1 hR hdep K hK
        rw [if_pos (by rfl)]
        simp only [frameF, Act.put, List.setIfInBounds_toArray, List.set_cons_zero, List.set_cons_succ, Nat.reduceAdd] at hK ⊢
        have u5 : u 5 = .agg (vcs v) := hdep 5 (by kernel_rfl) w1 (rb_refl _)
        simp only [u5] at hK ⊢
        clear u5 hdep
        go_simp
        refine (HT.out _).mono ?_
        rintro x w2 ⟨⟨y, rfl, own⟩, b2⟩
        refine hK _ _ b2 fun w3 h3 => ?_
        exact k_rb h3 (k_own (Kd.own_flat (B' := 0) Kd.flat_u8 own (Nat.le_refl _)))
      · intro u w1 hR hdep K hK
        rw [if_pos (by rfl)]
        simp only [frameF, Act.put, List.setIfInBounds_toArray, List.set_cons_zero, List.set_cons_succ, Nat.reduceAdd] at hK ⊢
        clear hdep
        go_simp
        refine hK _ _ (rb_refl _) fun w3 h3 => ?_
        exact rfl
      · intro u w1 hR hdep K hK
        rw [if_pos (by rfl)]
        simp only [frameF, Act.put, List.setIfInBounds_toArray, List.set_cons_zero, List.set_cons_succ, Nat.reduceAdd] at hK ⊢
        have u7 : u 7 = .pointer (some ⟨G, 6, none⟩) := hdep 7 (by kernel_rfl) w1 (rb_refl _)
        obtain ⟨r0, r1, r2, r3, r4, r5, r6⟩ := vcells (block_below hR HA.out)
        simp only [u7] at hK ⊢
        clear u7 hdep
        go_simp
        refine hK _ _ (rb_refl _) fun w3 h3 => ?_
        exact rfl
      · intro u w1 hR hdep K hK
        rw [if_pos (by rfl)]
        simp only [frameF, Act.put, List.setIfInBounds_toArray, List.set_cons_zero, List.set_cons_succ, Nat.reduceAdd] at hK ⊢
        have u4 : u 4 = .string root := hdep 4 (by kernel_rfl) w1 (rb_refl _)
        have u6 : kBB.K 0 w1 tb [u 6] := hdep 6 (by kernel_rfl) w1 (rb_refl _)
        have u8 : u 8 = .string v.sig := hdep 8 (by kernel_rfl) w1 (rb_refl _)
        obtain ⟨A6, c6, e6, l6, m6, r6⟩ := k_form u6
        simp only [u4, e6, u8] at hK ⊢
        clear u4 u6 u8 e6 hdep
        go_simp
        refine (HVER.out _ A6 c6 l6 m6 r6).mono ?_
        rintro x w2 ⟨rfl, b2⟩
        refine hK _ _ b2 fun w3 h3 => ?_
        exact rfl
      · intro u w1 hR hdep K hK
        rw [if_pos (by rfl)]
        simp only [frameF, Act.put, List.setIfInBounds_toArray, List.set_cons_zero, List.set_cons_succ, Nat.reduceAdd] at hK ⊢
        have u9 : u 9 = .tuple #[.int .i64 x, .bool ok] := hdep 9 (by kernel_rfl) w1 (rb_refl _)
        simp only [u9] at hK ⊢
        clear u9 hdep
        go_simp
        refine hK _ _ (rb_refl _) fun w3 h3 => ?_
        exact rfl
      · intro u w1 hR hdep K hK
        rw [if_pos (by rfl)]
        simp only [frameF, Act.put, List.setIfInBounds_toArray, List.set_cons_zero, List.set_cons_succ, Nat.reduceAdd] at hK ⊢
        have u10 : u 10 = .tuple #[.int .i64 x, .bool ok] := hdep 10 (by kernel_rfl) w1 (rb_refl _)
        simp only [u10] at hK ⊢
        clear u10 hdep
        go_simp
        refine hK _ _ (rb_refl _) fun w3 h3 => ?_
        exact rfl
      · intro u w1 hR hdep K hK
        rw [if_pos (by rfl)]
        simp only [frameF, Act.put, List.setIfInBounds_toArray, List.set_cons_zero, List.set_cons_succ, Nat.reduceAdd] at hK ⊢
        have u10 : u 10 = .tuple #[.int .i64 x, .bool ok] := hdep 10 (by kernel_rfl) w1 (rb_refl _)
        simp only [u10] at hK ⊢
        clear u10 hdep
        go_simp
        refine hK _ _ (rb_refl _) fun w3 h3 => ?_
        exact rfl
      · intro u w1 hR hdep K hK
        rw [if_pos (by rfl)]
        simp only [frameF, Act.put, List.setIfInBounds_toArray, List.set_cons_zero, List.set_cons_succ, Nat.reduceAdd] at hK ⊢
        have u11 : u 11 = .int .i64 x := hdep 11 (by kernel_rfl) w1 (rb_refl _)
        simp only [u11] at hK ⊢
        clear u11 hdep
        go_simp
        refine hK _ _ (rb_refl _) fun w3 h3 => ?_
        exact rfl
      · intro u w1 hR hdep K hK
        rw [if_pos (by rfl)]
        simp only [frameF, Act.put, List.setIfInBounds_toArray, List.set_cons_zero, List.set_cons_succ, Nat.reduceAdd] at hK ⊢
        have u12 : u 12 = .bool ok := hdep 12 (by kernel_rfl) w1 (rb_refl _)
        simp only [u12] at hK ⊢
        clear u12 hdep
        go_simp
        refine hK _ _ (rb_refl _) fun w3 h3 => ?_
        exact rfl
      · intro u w' hR hall
        have h14 : u 14 = .bool ok := hall 14 (by decide)
        have bw' := bl_trans (bl_drew B1) hR
        clear hall
        simp only [frameF, Act.put, List.setIfInBounds_toArray, List.set_cons_zero, List.set_cons_succ, Nat.reduceAdd, h14]
        clear h14
        go_wp2_with fail
        go_ret
        exact ⟨rfl, bw'⟩
    · have hv : validV v roots = false := by unfold validV; rw [hok, decide_eq_false hs]; rfl
      rw [hv]
      have hge : v.signer ≥ (roots.length : Int) := by omega
      clear hv hok
      go_enter Tryz.func103, Tryz.ntmps103
      go_upto_region 1 with fail
      generalize w.alloc (.cells (vcs v) 52) = W at *
      obtain ⟨r0, r1, r2, r3, r4, r5, r6⟩ := vcells a0
      go_upto_region 1 with fail
      go_wp2_with (go_at_call 170; refine (HCK.out _).mono ?_; rintro x w1 ⟨rfl, b1⟩; have a1 := block_below b1 a0; obtain ⟨p0, p1, p2, p3, p4, p5, p6⟩ := vcells a1)
      go_ret
      exact ⟨rfl, bl_trans q0 b1⟩
end Go.Proofs.YtcbfpdenjdgnlaaGreat
