/- Packages vote and cert: Put. No claim of its own; no condition. -/
import Derived.Test.YtglneailkgminaaVotC
namespace Go.Proofs.Ytglneailkgminaa
open Go.ChangeShapes Go.WideShapes Go.ChangeAt Go.RowKit
set_option linter.unusedVariables false
set_option linter.unusedSimpArgs false
theorem vpW_bd {s : List UInt8 × Int} (h : s.1.length ≤ 20482) (v : Vote) : (vpW s v).1.length ≤ 20482 := textW_bd (vfW_bd h v) _
set_option maxHeartbeats 1600000 in
set_option maxRecDepth 100000 in
theorem vput_calls (M N : Nat) (s : List UInt8 × Int) (v : Vote) (w : World) (h : WrS M w N s.1 s.2) (hl : s.1.length ≤ 20482) (hz : v.block.size ≤ 1048576) (hz2 : v.sig.size ≤ 1048576) :
    Calls Try.prog 49 #[.pointer (some ⟨N, 0, none⟩), .agg (vcs v)] w fun x w' => (∃ u, x = .returned u) ∧ WrS M w' N (vpW s v).1 (vpW s v).2 ∧ Wk M w w' := by
  have q0 := bl_alloc (Below.refl w.heap.size w) (.cells (vcs v) 28)
  have a0 : (w.alloc (.cells (vcs v) 28)).heap[w.heap.size]? = some (.cells (vcs v) 28 (0, 0)) := alloc_new w _
  have W0 := wrs_below h q0
  have k0 := wk_below q0 (wrs_size h)
  have hb := vfW_bd hl v
  have hvt := fun W (hW : WrS M W N s.1 s.2) => vtext_calls M N s v W hW hl hz
  have htx := fun W (hW : WrS M W N (vfW s v).1 (vfW s v).2) => text_calls M N (vfW s v) v.sig W hW (by omega) hz2
  have HVT := Lib.hid hvt
  have HTX := Lib.hid htx
  clear hvt htx hb
  unfold vcs at HVT
  unfold vcs
  go_enter Try.func49, Try.ntmps49
  go_upto_region 1 with fail
  change Code.wp _ _ _ _ (w.alloc (.cells (vcs v) 28))
  have a0' : (w.alloc (.cells (vcs v) 28)).heap[w.heap.size]? = some (.cells (vcs v) 28 (0, 0)) := a0
  clear a0
  obtain ⟨G, hG⟩ : ∃ G, w.heap.size = G := ⟨_, rfl⟩
  generalize w.alloc (.cells (vcs v) 28) = W at *
  simp only [hG] at a0' ⊢
  clear hG
  obtain ⟨r0, r1, r2, r3, r4, r5, r6⟩ := vcells a0'
  go_upto_region 2 with (go_at_call 81; refine (HVT.out _ W0).mono ?_; rintro x w1 ⟨⟨x1, rfl⟩, W1, k1'⟩)
  have k1 := wk_trans k0 k1'
  have a1 := wk_block k1' a0' (by decide) (by decide)
  clear r0 r1 r2 r3 r4 r5 r6 a0'
  obtain ⟨r0, r1, r2, r3, r4, r5, r6⟩ := vcells a1
  go_wp2_with (go_at_call 48; refine (HTX.out _ W1).mono ?_; rintro x w2 ⟨⟨x2, rfl⟩, W2, k2'⟩)
  go_end0
  exact ⟨⟨_, rfl⟩, W2, wk_trans k1 k2'⟩
/-- What PutCert appends. -/
def cpW (s : List UInt8 × Int) (m : Mark) (l : List Vote) : List UInt8 × Int := l.foldl vpW (numW (textW (numW (numW s m.view) m.height) m.block) l.length)
theorem vps_succ (s : List UInt8 × Int) {l : List Vote} {k : Nat} {v : Vote} (h : l[k]? = some v) : (l.take (k + 1)).foldl vpW s = vpW ((l.take k).foldl vpW s) v := by
  rw [List.take_add_one, h]
  simp [List.foldl_append]
theorem vps_bd {s : List UInt8 × Int} (l : List Vote) (h : s.1.length ≤ 20482) : (l.foldl vpW s).1.length ≤ 20482 := by
  induction l generalizing s with
  | nil => exact h
  | cons v l ih => exact ih (vpW_bd h v)
theorem wk_row {M : Nat} {w w' : World} {A : Option Addr} {l : List Vote} (h : Wk M w w') (r : kVote.Row 28 M w A l) : kVote.Row 28 M w' A l :=
  Kd.row_keep (h.2 _ (by decide) (by decide)) r
set_option maxHeartbeats 3200000 in
set_option maxRecDepth 100000 in
theorem cput_calls (M N : Nat) (s : List UInt8 × Int) (m : Mark) (l : List Vote) (A : Option Addr) (n c : Nat) (w : World) (hn : n = l.length) (hl : l.length ≤ 1048576) (hr : kVote.Row 28 M w A l) (h : WrS M w N s.1 s.2) (hs : s.1.length ≤ 20482)
    (hz : m.block.size ≤ 1048576) (hv : ∀ v ∈ l, v.block.size ≤ 1048576 ∧ v.sig.size ≤ 1048576) :
    Calls Try.prog 18 #[.pointer (some ⟨N, 0, none⟩), .agg #[.int .i64 m.view, .int .i64 m.height, .string m.block, .slice A n c]] w fun x w' => (∃ u, x = .returned u) ∧ WrS M w' N (cpW s m l).1 (cpW s m l).2 ∧ Wk M w w' := by
  subst hn
  have q0 := bl_alloc (Below.refl w.heap.size w) (.cells #[.int .i64 m.view, .int .i64 m.height, .string m.block, .slice A l.length c] 35)
  have a0 := alloc_new w (.cells #[.int .i64 m.view, .int .i64 m.height, .string m.block, .slice A l.length c] 35)
  have W0 := wrs_below h q0
  have k0 := wk_below q0 (wrs_size h)
  have hcp : cpW s m l = l.foldl vpW (numW (textW (numW (numW s m.view) m.height) m.block) l.length) := rfl
  have HV := Lib.hid hcp
  have HVS := Lib.hid hv
  have row0 := Kd.row_below q0 hr
  clear hcp hr h hv
  go_enter Try.func18, Try.ntmps18
  go_upto_region 1 with fail
  obtain ⟨G, hG⟩ : ∃ G, w.heap.size = G := ⟨_, rfl⟩
  generalize w.alloc (.cells #[.int .i64 m.view, .int .i64 m.height, .string m.block, .slice A l.length c] 35) = W at *
  simp only [hG] at a0 ⊢
  clear hG q0
  have r0 := block_cell a0 (i := 0) rfl
  go_upto_region 2 with (go_at_call 47; refine (num_calls M N s m.view _ W0 (by omega)).mono ?_; rintro x w1 ⟨⟨x1, rfl⟩, W1, k1'⟩)
  have k1 := wk_trans k0 k1'
  have row1 := wk_row k1' row0
  have a1 := wk_block k1' a0 (by decide) (by decide)
  obtain ⟨s1, hs1⟩ : ∃ z, numW s m.view = z := ⟨_, rfl⟩
  have l1 : s1.1.length ≤ 20482 := by rw [← hs1]; exact numW_bd hs _
  have HV' := HV.out
  rw [hs1] at W1 HV'
  clear HV hs1 k1' W0 r0 row0 a0
  have HV := Lib.hid HV'
  clear HV'
  have r1 := block_cell a1 (i := 1) rfl
  go_upto_region 3 with (go_at_call 47; refine (num_calls M N s1 m.height _ W1 (by omega)).mono ?_; rintro x w2 ⟨⟨x2, rfl⟩, W2, k2'⟩)
  have k2 := wk_trans k1 k2'
  have row2 := wk_row k2' row1
  have a2 := wk_block k2' a1 (by decide) (by decide)
  obtain ⟨s2, hs2⟩ : ∃ z, numW s1 m.height = z := ⟨_, rfl⟩
  have l2 : s2.1.length ≤ 20482 := by rw [← hs2]; exact numW_bd l1 _
  have HV' := HV.out
  rw [hs2] at W2 HV'
  clear HV hs2 k2' W1 r1 row1 a1
  have HV := Lib.hid HV'
  clear HV'
  have r2 := block_cell a2 (i := 2) rfl
  go_upto_region 4 with (go_at_call 48; refine (text_calls M N s2 m.block _ W2 (by omega) hz).mono ?_; rintro x w3 ⟨⟨x3, rfl⟩, W3, k3'⟩)
  have k3 := wk_trans k2 k3'
  have row3 := wk_row k3' row2
  have a3 := wk_block k3' a2 (by decide) (by decide)
  obtain ⟨s3, hs3⟩ : ∃ z, textW s2 m.block = z := ⟨_, rfl⟩
  have l3 : s3.1.length ≤ 20482 := by rw [← hs3]; exact textW_bd l2 _
  have HV' := HV.out
  rw [hs3] at W3 HV'
  clear HV hs3 k3' W2 r2 row2 a2
  have HV := Lib.hid HV'
  clear HV'
  have r3 := block_cell a3 (i := 3) rfl
  go_upto_region 5 with (go_at_call 47; refine (num_calls M N s3 (l.length : Nat) _ W3 (by omega)).mono ?_; rintro x w4 ⟨⟨x4, rfl⟩, W4, k4'⟩)
  have k4 := wk_trans k3 k4'
  have row4 := wk_row k4' row3
  have a4 := wk_block k4' a3 (by decide) (by decide)
  obtain ⟨s4, hs4⟩ : ∃ z, numW s3 (l.length : Nat) = z := ⟨_, rfl⟩
  have l4 : s4.1.length ≤ 20482 := by rw [← hs4]; exact numW_bd l3 _
  have HV' := HV.out
  rw [hs4] at W4 HV'
  clear HV hs4 k4' W3 r3 row3 a3
  have HV := Lib.hid HV'
  clear HV'
  have r3 := block_cell a4 (i := 3) rfl
  clear a4
  go_wp2_with fail
  clear r3
  go_loopw [26] (fun kv w' => ∃ k : Nat, k ≤ l.length ∧ kv = .int .i64 k ∧ WrS M w' N ((l.take k).foldl vpW s4).1 ((l.take k).foldl vpW s4).2 ∧ Wk M w4 w') (fun kv _ => l.length - (intOf kv).toNat)
  case atStart => exact ⟨0, by omega, rfl, W4, wk_refl _ _⟩
  case round =>
    obtain ⟨k, hk, rfl, WK, kk⟩ := hrel
    by_cases hlt : k < l.length
    case neg =>
      obtain rfl : k = l.length := by omega
      have hnI : ¬ ((l.length : Int) < (l.length : Int)) := by omega
      rw [List.take_length] at WK
      go_wp2_with fail
      go_end0
      exact ⟨⟨_, rfl⟩, by rw [HV.out]; exact WK, wk_trans k4 kk⟩
    case pos =>
      obtain ⟨v, hv⟩ : ∃ v, l[k]? = some v := ⟨_, List.getElem?_eq_getElem hlt⟩
      have row5 := wk_row kk row4
      obtain ⟨ad, rfl, e0, e1, e2, e3, e4, e5, e6, g0, g1, g2, g3, g4, g5, g6⟩ := kVote_at row5 hv
      have hzv := HVS.out v (List.mem_of_getElem? hv)
      have hst := vps_succ s4 hv
      obtain ⟨sk, hsk⟩ : ∃ z, (l.take k).foldl vpW s4 = z := ⟨_, rfl⟩
      have lk : sk.1.length ≤ 20482 := by rw [← hsk]; exact vps_bd _ l4
      rw [hsk] at WK hst
      have HS := Lib.hid hst
      clear hst hsk
      have hvp := fun (W : World) (hW : WrS M W N sk.1 sk.2) => vput_calls M N sk v W hW lk hzv.1 hzv.2
      unfold vcs at hvp
      have HVP := Lib.hid hvp
      clear hvp
      have hkI : (k : Int) < (l.length : Int) := by omega
      have hk0 : (0 : Int) ≤ (k : Int) := by omega
      have bt := bl_alloc (Below.refl wr.heap.size wr) (.cells (vcs v) 28)
      have bb : (wr.alloc (.cells (vcs v) 28)).heap[wr.heap.size]? = some (.cells (vcs v) 28 (0, 0)) := alloc_new wr _
      have WT := wrs_below WK bt
      have kt := wk_trans kk (wk_below bt (wrs_size WK))
      go_upto_region 8 with fail
      change Code.wp _ _ _ _ (wr.alloc (.cells (vcs v) 28))
      obtain ⟨V9, hV9⟩ : ∃ V9, wr.heap.size = V9 := ⟨_, rfl⟩
      generalize wr.alloc (.cells (vcs v) 28) = V at *
      simp only [hV9] at bb ⊢
      clear hV9 e0 e1 e2 e3 e4 e5 e6 g0 g1 g2 g3 g4 g5 g6 bt row5
      obtain ⟨r0, r1, r2, r3, r4, r5, r6⟩ := vcells bb
      go_wp2_with (go_at_call 49; refine (HVP.out _ WT).mono ?_; rintro x w6 ⟨⟨x6, rfl⟩, W6, k6⟩)
      exact ⟨⟨k + 1, by omega, by go_num, by rw [HS.out]; exact W6, wk_trans kt k6⟩, by simp [intOf]; omega⟩
end Go.Proofs.Ytglneailkgminaa
