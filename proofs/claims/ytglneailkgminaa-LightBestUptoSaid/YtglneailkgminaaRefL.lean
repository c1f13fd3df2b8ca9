/- Package mootref06: PutCert, Done, Genesis. No claim of its own; no condition. -/
import Derived.Test.YtglneailkgminaaRefH
import Derived.Test.YtglneailkgminaaCertU
import Derived.Test.YtglneailkgminaaCertD
namespace Go.Proofs.Ytglneailkgminaa
open Go.ChangeShapes Go.WideShapes Go.ChangeAt Go.RowKit
set_option linter.unusedVariables false
set_option linter.unusedSimpArgs false
/-- A writer's cell. -/
def WC (B G : Nat) (w : World) (s : List UInt8 × Int) : Prop := ∃ A n c, w.heap[G]? = some (.cells #[.slice A n c, .int .i64 s.2] 47 (0, 0)) ∧ kBB.K B w s.1 [.slice A n c]
theorem wc_set {B G : Nat} {w : World} {s : List UInt8 × Int} {a b : Value} {A : Option Addr} {n c : Nat} (g : w.heap[G]? = some (.cells #[a, b] 47 (0, 0))) (hB : B ≤ G) (k : kBB.K B w s.1 [.slice A n c]) :
    WC B G ((w.setCell ⟨G, 0, none⟩ (.slice A n c)).setCell ⟨G, 1, none⟩ (.int .i64 s.2)) s := by
  have g3 := block_set (i := 0) (u := .slice A n c) g
  have g4 := block_set (i := 1) (u := .int .i64 s.2) g3
  exact ⟨A, n, c, g4, kBB.keep (Keeps.trans (Keeps.set (p := ⟨G, 0, none⟩) g hB (by decide) _) (Keeps.set (p := ⟨G, 1, none⟩) g3 hB (by decide) _)) k⟩
theorem wc_other {G H : Nat} {w : World} {u v : Value} {cs : Array Value} {t : TypeId} {f : Nat × Nat} (h : w.heap[H]? = some (.cells cs t f)) (hne : H ≠ G) : ((w.setCell ⟨G, 0, none⟩ u).setCell ⟨G, 1, none⟩ v).heap[H]? = some (.cells cs t f) := by
  rw [Below.heap_setCell _ _ _ _ hne, Below.heap_setCell _ _ _ _ hne]
  exact h
theorem wc_below {B G : Nat} {w w' : World} {s : List UInt8 × Int} (h : WC B G w s) (hb : Below w.heap.size w w') : WC B G w' s := by
  obtain ⟨A, n, c, g, k⟩ := h
  exact ⟨A, n, c, block_below hb g, k_rb hb k⟩
def pcG (B G : Nat) (s s1 s2 s3 s4 : List UInt8 × Int) (m : Mark) (A : Option Addr) (n c : Nat) : Nat → Value → World → Prop
  | 0, y, w => WV B w s y
  | 1, y, _ => y = .pointer (some ⟨G + 1, 0, none⟩)
  | 2, y, _ => y = .int .i64 m.view
  | 3, y, w => WV B w s1 y
  | 4, y, _ => y = .pointer (some ⟨G + 1, 1, none⟩)
  | 5, y, _ => y = .int .i64 m.height
  | 6, y, w => WV B w s2 y
  | 7, y, _ => y = .pointer (some ⟨G + 1, 2, none⟩)
  | 8, y, _ => y = .string m.block
  | 9, y, w => WV B w s3 y
  | 10, y, _ => y = .pointer (some ⟨G + 1, 3, none⟩)
  | 11, y, _ => y = .slice A n c
  | 12, y, _ => y = .int .i64 (n : Nat)
  | 13, y, w => WV B w s4 y
  | _, _, _ => True
def pcH (B G : Nat) (s s' : List UInt8 × Int) (v : Vote) (ad : Addr) (k n c : Nat) : Nat → Value → World → Prop
  | 0, y, w => WV B w s y
  | 1, y, _ => y = .pointer (some ⟨G + 1, 3, none⟩)
  | 2, y, _ => y = .slice (some ad) n c
  | 3, y, _ => y = .int .i64 (k : Nat)
  | 4, y, _ => y = .pointer (some (ad.add (k * 7)))
  | 5, y, _ => y = .agg (vcs v)
  | 6, y, w => WV B w s' y
  | _, _, _ => True
set_option maxHeartbeats 6400000 in
set_option maxRecDepth 100000 in
theorem refputcert_calls (B : Nat) (s : List UInt8 × Int) (m : Mark) (l : List Vote) (A : Option Addr) (n c Bl : Nat) (y : Value) (w : World) (h : WV B w s y) (hB : B ≤ w.heap.size) (hn : n = l.length) (hl : l.length ≤ 1048576) (hr : kVote.Row 28 Bl w A l)
    (hs : s.1.length ≤ 20482) (hz : m.block.size ≤ 1048576) (hvz : ∀ v ∈ l, v.block.size ≤ 1048576 ∧ v.sig.size ≤ 1048576) :
    Calls Try.prog 21 #[y, .agg #[.int .i64 m.view, .int .i64 m.height, .string m.block, .slice A n c]] w fun x w' => (∃ z, x = .returned z ∧ WV B w' (cpW s m l) z) ∧ Below w.heap.size w w' := by
  obtain ⟨A0, n0, c0, rfl, hk⟩ := h
  obtain ⟨s1, hs1⟩ : ∃ z, numW s m.view = z := ⟨_, rfl⟩
  have l1 : s1.1.length ≤ 20482 := by rw [← hs1]; exact numW_bd hs _
  obtain ⟨s2, hs2⟩ : ∃ z, numW s1 m.height = z := ⟨_, rfl⟩
  have l2 : s2.1.length ≤ 20482 := by rw [← hs2]; exact numW_bd l1 _
  obtain ⟨s3, hs3⟩ : ∃ z, textW s2 m.block = z := ⟨_, rfl⟩
  have l3 : s3.1.length ≤ 20482 := by rw [← hs3]; exact textW_bd l2 _
  obtain ⟨s4, hs4⟩ : ∃ z, numW s3 (n : Nat) = z := ⟨_, rfl⟩
  have l4 : s4.1.length ≤ 20482 := by rw [← hs4]; exact numW_bd l3 _
  have hcp : cpW s m l = l.foldl vpW s4 := by unfold cpW; rw [hs1, hs2, hs3, ← hn, hs4]
  have HN1 := Lib.hid (show ∀ (W : World) (y : Value), WV B W s y → Calls Try.prog 51 #[y, .int .i64 m.view] W fun x w' => (∃ z, x = .returned z ∧ WV B w' s1 z) ∧ Below W.heap.size W w' from fun W y hy => by rw [← hs1]; exact refnum_wv B s _ y W hy hs)
  have HN2 := Lib.hid (show ∀ (W : World) (y : Value), WV B W s1 y → Calls Try.prog 51 #[y, .int .i64 m.height] W fun x w' => (∃ z, x = .returned z ∧ WV B w' s2 z) ∧ Below W.heap.size W w' from fun W y hy => by rw [← hs2]; exact refnum_wv B s1 _ y W hy l1)
  have HN3 := Lib.hid (show ∀ (W : World) (y : Value), WV B W s2 y → Calls Try.prog 52 #[y, .string m.block] W fun x w' => (∃ z, x = .returned z ∧ WV B w' s3 z) ∧ Below W.heap.size W w' from fun W y hy => by rw [← hs3]; exact reftext_wv B s2 _ y W hy l2 hz)
  have HN4 := Lib.hid (show ∀ (W : World) (y : Value), WV B W s3 y → Calls Try.prog 51 #[y, .int .i64 (n : Nat)] W fun x w' => (∃ z, x = .returned z ∧ WV B w' s4 z) ∧ Below W.heap.size W w' from fun W y hy => by rw [← hs4]; exact refnum_wv B s3 _ y W hy l3)
  rw [hcp]
  have HNL := Lib.hid hn
  clear hs1 hs2 hs3 hs4 hcp hn
  have q0 := bl_alloc (bl_alloc (bl_alloc (Below.refl w.heap.size w) (.cells #[.slice A0 n0 c0, .int .i64 s.2] 47)) (.cells #[.int .i64 m.view, .int .i64 m.height, .string m.block, .slice A n c] 35)) (.cells #[.slice none 0 0, .int .i64 0] 47)
  have a0 : (((w.alloc (.cells #[.slice A0 n0 c0, .int .i64 s.2] 47)).alloc (.cells #[.int .i64 m.view, .int .i64 m.height, .string m.block, .slice A n c] 35)).alloc (.cells #[.slice none 0 0, .int .i64 0] 47)).heap[w.heap.size]? = some (.cells #[.slice A0 n0 c0, .int .i64 s.2] 47 (0, 0)) := alloc_old (alloc_old (alloc_new w _) _) _
  have a1 : (((w.alloc (.cells #[.slice A0 n0 c0, .int .i64 s.2] 47)).alloc (.cells #[.int .i64 m.view, .int .i64 m.height, .string m.block, .slice A n c] 35)).alloc (.cells #[.slice none 0 0, .int .i64 0] 47)).heap[w.heap.size + 1]? = some (.cells #[.int .i64 m.view, .int .i64 m.height, .string m.block, .slice A n c] 35 (0, 0)) := by
    have := alloc_old (alloc_new (w.alloc (.cells #[.slice A0 n0 c0, .int .i64 s.2] 47)) (.cells #[.int .i64 m.view, .int .i64 m.height, .string m.block, .slice A n c] 35)) (.cells #[.slice none 0 0, .int .i64 0] 47)
    rwa [World.size_alloc] at this
  have a2 : (((w.alloc (.cells #[.slice A0 n0 c0, .int .i64 s.2] 47)).alloc (.cells #[.int .i64 m.view, .int .i64 m.height, .string m.block, .slice A n c] 35)).alloc (.cells #[.slice none 0 0, .int .i64 0] 47)).heap[w.heap.size + 1 + 1]? = some (.cells #[.slice none 0 0, .int .i64 0] 47 (0, 0)) := by
    have := alloc_new ((w.alloc (.cells #[.slice A0 n0 c0, .int .i64 s.2] 47)).alloc (.cells #[.int .i64 m.view, .int .i64 m.height, .string m.block, .slice A n c] 35)) (.cells #[.slice none 0 0, .int .i64 0] 47)
    rwa [World.size_alloc, World.size_alloc] at this
  obtain ⟨G, hG⟩ : ∃ G, w.heap.size = G := ⟨_, rfl⟩
  have HG := Lib.hid hG
  have hkq := k_rb q0 hk
  have HR := Lib.hid hr
  have HS := Lib.hid hvz
  have HL4 := Lib.hid l4
  clear hr hvz l1 l2 l3 l4 hs hz
  go_enter Try.func21, Try.ntmps21
  go_upto_region 1 with fail
  change Code.wp _ _ _ _ (((w.alloc (.cells #[.slice A0 n0 c0, .int .i64 s.2] 47)).alloc (.cells #[.int .i64 m.view, .int .i64 m.height, .string m.block, .slice A n c] 35)).alloc (.cells #[.slice none 0 0, .int .i64 0] 47))
  generalize ((w.alloc (.cells #[.slice A0 n0 c0, .int .i64 s.2] 47)).alloc (.cells #[.int .i64 m.view, .int .i64 m.height, .string m.block, .slice A n c] 35)).alloc (.cells #[.slice none 0 0, .int .i64 0] 47) = V at *
  simp only [hG] at a0 a1 a2 ⊢
  clear hG
  have X0 := block_cell a0 (i := 0) rfl
  have X1 := block_cell a0 (i := 1) rfl
  have HA0 := Lib.hid a0
  have HV := Lib.hid a1
  have HWV : Hid (WV B V s (.agg #[.slice A0 n0 c0, .int .i64 s.2])) := Lib.hid ⟨A0, n0, c0, rfl, hkq⟩
  have HA2 := Lib.hid a2
  clear a0 a1 a2 hk hkq
  refine wp_region_any (by kernel_rfl) ?_
  refine wpAny_invt' [true, true, true, true, true, true, true, true, true, true, true, true, true, true, false] [14] (by kernel_rfl) (by kernel_rfl) Rb (pcG B G s s1 s2 s3 s4 m A n c) rb_refl rb_trans ⟨?_, ?_, ?_, ?_, ?_, ?_, ?_, ?_, ?_, ?_, ?_, ?_, ?_, ?_, trivial⟩ ?_
  · intro u w1 hR hdep K hK
    rw [if_pos (by rfl)]
    simp only [frameM, frameM_nil, Act.put, List.setIfInBounds_toArray, List.set_cons_zero, List.set_cons_succ, Nat.reduceAdd] at hK ⊢
    have p0 := cell_below hR X0
    have p1 := cell_below hR X1
    clear hdep
    go_simp
    refine hK _ _ (rb_refl _) fun w3 h3 => ?_
    exact wv_rb (rb_trans _ _ _ hR h3) HWV.out
  · intro u w1 hR hdep K hK
    rw [if_pos (by rfl)]
    simp only [frameM, frameM_nil, Act.put, List.setIfInBounds_toArray, List.set_cons_zero, List.set_cons_succ, Nat.reduceAdd] at hK ⊢
    clear hdep
    go_simp
    refine hK _ _ (rb_refl _) fun w3 h3 => ?_
    exact rfl
  · intro u w1 hR hdep K hK
    rw [if_pos (by rfl)]
    simp only [frameM, frameM_nil, Act.put, List.setIfInBounds_toArray, List.set_cons_zero, List.set_cons_succ, Nat.reduceAdd] at hK ⊢
    have u1 : u 1 = .pointer (some ⟨G + 1, 0, none⟩) := hdep 1 (by kernel_rfl) w1 (rb_refl _)
    have cc := block_below hR HV.out
    have c0 := block_cell cc (i := 0) rfl
    simp only [u1] at hK ⊢
    clear u1 hdep
    go_simp
    refine hK _ _ (rb_refl _) fun w3 h3 => ?_
    exact rfl
  · intro u w1 hR hdep K hK
    rw [if_pos (by rfl)]
    simp only [frameM, frameM_nil, Act.put, List.setIfInBounds_toArray, List.set_cons_zero, List.set_cons_succ, Nat.reduceAdd] at hK ⊢
    have kp : WV B w1 s (u 0) := hdep 0 (by kernel_rfl) w1 (rb_refl _)
    obtain ⟨A', n', c', hu, kk⟩ := kp
    have u2 : u 2 = .int .i64 m.view := hdep 2 (by kernel_rfl) w1 (rb_refl _)
    simp only [hu, u2] at hK ⊢
    clear hdep hu u2
    have hc := HN1.out w1 _ ⟨A', n', c', rfl, kk⟩
    go_simp
    refine hc.mono ?_
    rintro x w2 ⟨⟨z, rfl, kz⟩, b2⟩
    refine hK _ _ b2 fun w3 h3 => ?_
    exact wv_rb h3 kz
  · intro u w1 hR hdep K hK
    rw [if_pos (by rfl)]
    simp only [frameM, frameM_nil, Act.put, List.setIfInBounds_toArray, List.set_cons_zero, List.set_cons_succ, Nat.reduceAdd] at hK ⊢
    clear hdep
    go_simp
    refine hK _ _ (rb_refl _) fun w3 h3 => ?_
    exact rfl
  · intro u w1 hR hdep K hK
    rw [if_pos (by rfl)]
    simp only [frameM, frameM_nil, Act.put, List.setIfInBounds_toArray, List.set_cons_zero, List.set_cons_succ, Nat.reduceAdd] at hK ⊢
    have u4 : u 4 = .pointer (some ⟨G + 1, 1, none⟩) := hdep 4 (by kernel_rfl) w1 (rb_refl _)
    have cc := block_below hR HV.out
    have c1 := block_cell cc (i := 1) rfl
    simp only [u4] at hK ⊢
    clear u4 hdep
    go_simp
    refine hK _ _ (rb_refl _) fun w3 h3 => ?_
    exact rfl
  · intro u w1 hR hdep K hK
    rw [if_pos (by rfl)]
    simp only [frameM, frameM_nil, Act.put, List.setIfInBounds_toArray, List.set_cons_zero, List.set_cons_succ, Nat.reduceAdd] at hK ⊢
    have kp : WV B w1 s1 (u 3) := hdep 3 (by kernel_rfl) w1 (rb_refl _)
    obtain ⟨A', n', c', hu, kk⟩ := kp
    have u5 : u 5 = .int .i64 m.height := hdep 5 (by kernel_rfl) w1 (rb_refl _)
    simp only [hu, u5] at hK ⊢
    clear hdep hu u5
    have hc := HN2.out w1 _ ⟨A', n', c', rfl, kk⟩
    go_simp
    refine hc.mono ?_
    rintro x w2 ⟨⟨z, rfl, kz⟩, b2⟩
    refine hK _ _ b2 fun w3 h3 => ?_
    exact wv_rb h3 kz
  · intro u w1 hR hdep K hK
    rw [if_pos (by rfl)]
    simp only [frameM, frameM_nil, Act.put, List.setIfInBounds_toArray, List.set_cons_zero, List.set_cons_succ, Nat.reduceAdd] at hK ⊢
    clear hdep
    go_simp
    refine hK _ _ (rb_refl _) fun w3 h3 => ?_
    exact rfl
  · intro u w1 hR hdep K hK
    rw [if_pos (by rfl)]
    simp only [frameM, frameM_nil, Act.put, List.setIfInBounds_toArray, List.set_cons_zero, List.set_cons_succ, Nat.reduceAdd] at hK ⊢
    have u7 : u 7 = .pointer (some ⟨G + 1, 2, none⟩) := hdep 7 (by kernel_rfl) w1 (rb_refl _)
    have cc := block_below hR HV.out
    have c2 := block_cell cc (i := 2) rfl
    simp only [u7] at hK ⊢
    clear u7 hdep
    go_simp
    refine hK _ _ (rb_refl _) fun w3 h3 => ?_
    exact rfl
  · intro u w1 hR hdep K hK
    rw [if_pos (by rfl)]
    simp only [frameM, frameM_nil, Act.put, List.setIfInBounds_toArray, List.set_cons_zero, List.set_cons_succ, Nat.reduceAdd] at hK ⊢
    have kp : WV B w1 s2 (u 6) := hdep 6 (by kernel_rfl) w1 (rb_refl _)
    obtain ⟨A', n', c', hu, kk⟩ := kp
    have u8 : u 8 = .string m.block := hdep 8 (by kernel_rfl) w1 (rb_refl _)
    simp only [hu, u8] at hK ⊢
    clear hdep hu u8
    have hc := HN3.out w1 _ ⟨A', n', c', rfl, kk⟩
    go_simp
    refine hc.mono ?_
    rintro x w2 ⟨⟨z, rfl, kz⟩, b2⟩
    refine hK _ _ b2 fun w3 h3 => ?_
    exact wv_rb h3 kz
  · intro u w1 hR hdep K hK
    rw [if_pos (by rfl)]
    simp only [frameM, frameM_nil, Act.put, List.setIfInBounds_toArray, List.set_cons_zero, List.set_cons_succ, Nat.reduceAdd] at hK ⊢
    clear hdep
    go_simp
    refine hK _ _ (rb_refl _) fun w3 h3 => ?_
    exact rfl
  · intro u w1 hR hdep K hK
    rw [if_pos (by rfl)]
    simp only [frameM, frameM_nil, Act.put, List.setIfInBounds_toArray, List.set_cons_zero, List.set_cons_succ, Nat.reduceAdd] at hK ⊢
    have u10 : u 10 = .pointer (some ⟨G + 1, 3, none⟩) := hdep 10 (by kernel_rfl) w1 (rb_refl _)
    have cc := block_below hR HV.out
    have c3 := block_cell cc (i := 3) rfl
    simp only [u10] at hK ⊢
    clear u10 hdep
    go_simp
    refine hK _ _ (rb_refl _) fun w3 h3 => ?_
    exact rfl
  · intro u w1 hR hdep K hK
    rw [if_pos (by rfl)]
    simp only [frameM, frameM_nil, Act.put, List.setIfInBounds_toArray, List.set_cons_zero, List.set_cons_succ, Nat.reduceAdd] at hK ⊢
    have u11 : u 11 = .slice A n c := hdep 11 (by kernel_rfl) w1 (rb_refl _)
    simp only [u11] at hK ⊢
    clear u11 hdep
    go_simp
    refine hK _ _ (rb_refl _) fun w3 h3 => ?_
    exact rfl
  · intro u w1 hR hdep K hK
    rw [if_pos (by rfl)]
    simp only [frameM, frameM_nil, Act.put, List.setIfInBounds_toArray, List.set_cons_zero, List.set_cons_succ, Nat.reduceAdd] at hK ⊢
    have kp : WV B w1 s3 (u 9) := hdep 9 (by kernel_rfl) w1 (rb_refl _)
    obtain ⟨A', n', c', hu, kk⟩ := kp
    have u12 : u 12 = .int .i64 (n : Nat) := hdep 12 (by kernel_rfl) w1 (rb_refl _)
    simp only [hu, u12] at hK ⊢
    clear hdep hu u12
    have hc := HN4.out w1 _ ⟨A', n', c', rfl, kk⟩
    go_simp
    refine hc.mono ?_
    rintro x w2 ⟨⟨z, rfl, kz⟩, b2⟩
    refine hK _ _ b2 fun w3 h3 => ?_
    exact wv_rb h3 kz
  · intro u w1 hR hall
    have h13 : WV B w1 s4 (u 13) := hall 13 rfl
    obtain ⟨A9, n9, c9, e9, k9⟩ := h13
    have hb1 : Below V.heap.size V w1 := bl_trans (bl_drew (Below.refl _ _)) hR
    have g0 := block_below hb1 HA0.out
    have g1 := block_below hb1 HV.out
    have g2 := block_below hb1 HA2.out
    have Y0 := block_cell g0 (i := 0) rfl
    have Y1 := block_cell g0 (i := 1) rfl
    have Z0 : w1.frozen? ⟨G, 0, none⟩ = false := block_free g0
    have Z1 : w1.frozen? ⟨G, 1, none⟩ = false := block_free g0
    change wpList _ _ _ ([_]) _ _
    simp only [frameM, frameM_nil, Act.put, List.setIfInBounds_toArray, List.set_cons_zero, List.set_cons_succ, Nat.reduceAdd, e9]
    clear hall e9
    clear X0 X1
    have B1 := bl_trans q0 hb1
    have le0 : w.heap.size ≤ G := by have := HG.out; omega
    have hBG : B ≤ G := by have := HG.out; omega
    have WC5 := wc_set (s := s4) g0 hBG k9
    have c35 := wc_other (u := .slice A9 n9 c9) (v := .int .i64 s4.2) g1 (show G + 1 ≠ G by omega)
    have c47 := wc_other (u := .slice A9 n9 c9) (v := .int .i64 s4.2) g2 (show G + 1 + 1 ≠ G by omega)
    have B5 := bl_set (bl_set B1 le0 (p := ⟨G, 0, none⟩) (.slice A9 n9 c9)) le0 (p := ⟨G, 1, none⟩) (.int .i64 s4.2)
    have row5 := Kd.row_below (bl_set (bl_set (bl_trans q0 hb1) le0 (p := ⟨G, 0, none⟩) (.slice A9 n9 c9)) le0 (p := ⟨G, 1, none⟩) (.int .i64 s4.2)) HR.out
    go_upto_region 3 with fail
    generalize (w1.setCell ⟨G, 0, none⟩ (.slice A9 n9 c9)).setCell ⟨G, 1, none⟩ (.int .i64 s4.2) = V5 at *
    clear B1 g0 g1 g2 Y0 Y1 Z0 Z1 k9 hb1 HA0 HV HA2 HN1 HN2 HN3 HN4 HWV q0 hR
    go_loopw [5] (fun kv w' => ∃ k : Nat, k ≤ l.length ∧ kv = .int .i64 k ∧ WC B G w' ((l.take k).foldl vpW s4) ∧ w'.heap[G + 1]? = some (.cells #[.int .i64 m.view, .int .i64 m.height, .string m.block, .slice A n c] 35 (0, 0)) ∧ w'.heap[G + 1 + 1]? = some (.cells #[.slice none 0 0, .int .i64 0] 47 (0, 0)) ∧ Below w.heap.size w w') (fun kv _ => l.length - (intOf kv).toNat)
    case atStart => exact ⟨0, by omega, rfl, WC5, c35, c47, B5⟩
    case round =>
      obtain ⟨k, hk, rfl, WCk, c35k, c47k, bel⟩ := hrel
      have c3 := block_cell c35k (i := 3) rfl
      have hnl := HNL.out
      by_cases hlt : k < l.length
      case neg =>
        obtain rfl : k = l.length := by omega
        have hnI : ¬ ((l.length : Int) < ((n : Nat) : Int)) := by omega
        rw [List.take_length] at WCk
        obtain ⟨A8, n8, c8, g8, k8⟩ := WCk
        have Y0 := block_cell g8 (i := 0) rfl
        have Y1 := block_cell g8 (i := 1) rfl
        have Y2 := block_cell c47k (i := 0) rfl
        have Y3 := block_cell c47k (i := 1) rfl
        have Z2 : wr.frozen? ⟨G + 1 + 1, 0, none⟩ = false := block_free c47k
        have Z3 : wr.frozen? ⟨G + 1 + 1, 1, none⟩ = false := block_free c47k
        clear hnl
        go_wp2_with fail
        have R := res2 (p := .slice A8 n8 c8) (q := .int .i64 (l.foldl vpW s4).2) c47k
        refine bodyPost_ret (v := .agg #[.slice A8 n8 c8, .int .i64 (l.foldl vpW s4).2]) (by simp [results, Try.results21, go_sem, R.1, R.2]) rfl ?_
        have le1 : w.heap.size ≤ G + 1 + 1 := by omega
        refine ⟨⟨_, rfl, A8, n8, c8, rfl, ?_⟩, bl_set (bl_set bel le1 _) le1 _⟩
        have g3 := block_set (i := 0) (u := .slice A8 n8 c8) c47k
        exact kBB.keep (Keeps.trans (Keeps.set (p := ⟨G + 1 + 1, 0, none⟩) c47k (Nat.le_trans hB le1) (by decide) _) (Keeps.set (p := ⟨G + 1 + 1, 1, none⟩) g3 (Nat.le_trans hB le1) (by decide) _)) k8
      case pos =>
        obtain ⟨v, hv⟩ : ∃ v, l[k]? = some v := ⟨_, List.getElem?_eq_getElem hlt⟩
        have rowk := Kd.row_below bel HR.out
        obtain ⟨ad, rfl, e0, e1, e2, e3, e4, e5, e6, q0, q1, q2, q3, q4, q5, q6⟩ := kVote_at rowk hv
        have hzv := HS.out v (List.mem_of_getElem? hv)
        have hst := vps_succ s4 hv
        obtain ⟨sk, hsk⟩ : ∃ z, (l.take k).foldl vpW s4 = z := ⟨_, rfl⟩
        have lk : sk.1.length ≤ 20482 := by rw [← hsk]; exact vps_bd _ HL4.out
        rw [hsk] at WCk hst
        have HST := Lib.hid hst
        obtain ⟨A8, n8, c8, g8, k8⟩ := WCk
        have hsz : B ≤ wr.heap.size := Nat.le_trans hB bel.size
        have HVP := Lib.hid (show ∀ (W : World) (y : Value), Below wr.heap.size wr W → WV B W sk y → Calls Try.prog 53 #[y, .agg (vcs v)] W fun x w' => (∃ z, x = .returned z ∧ WV B w' (vpW sk v) z) ∧ Below W.heap.size W w' from fun W y hW hy => refputvote_calls B sk v y W hy (Nat.le_trans hsz hW.size) lk hzv.1 hzv.2)
        obtain ⟨s', hs'⟩ : ∃ z, vpW sk v = z := ⟨_, rfl⟩
        rw [hs'] at hst HVP
        have HST := Lib.hid hst
        have HK0 := Lib.hid (show (0 : Int) ≤ ((k : Nat) : Int) by omega)
        have HK1 := Lib.hid (show ((k : Nat) : Int) < ((n : Nat) : Int) by omega)
        have hkI := HK1.out
        clear hst hsk hs' q0 q1 q2 q3 q4 q5 q6 hzv hnl
        have X0 := block_cell g8 (i := 0) rfl
        have X1 := block_cell g8 (i := 1) rfl
        have HX0 := Lib.hid X0
        have HX1 := Lib.hid X1
        have HV := Lib.hid c35k
        have HA0 := Lib.hid g8
        have HA2 := Lib.hid c47k
        have HWV : Hid (WV B wr sk (.agg #[.slice A8 n8 c8, .int .i64 sk.2])) := Lib.hid ⟨A8, n8, c8, rfl, k8⟩
        have E0 := Lib.hid e0
        have E1 := Lib.hid e1
        have E2 := Lib.hid e2
        have E3 := Lib.hid e3
        have E4 := Lib.hid e4
        have E5 := Lib.hid e5
        have E6 := Lib.hid e6
        clear e0 e1 e2 e3 e4 e5 e6 X0 X1 g8 k8 WC5 c35 c47 B5 row5
        go_upto_region 5 with fail
        clear c3
        refine wp_region_any (by kernel_rfl) ?_
        refine wpAny_invt' [true, true, true, true, true, true, true, false] [7] (by kernel_rfl) (by kernel_rfl) Rb (pcH B G sk s' v ad k n c) rb_refl rb_trans ⟨?_, ?_, ?_, ?_, ?_, ?_, ?_, trivial⟩ ?_
        · intro u w1 hR hdep K hK
          rw [if_pos (by rfl)]
          simp only [frameM, frameM_nil, Act.put, List.setIfInBounds_toArray, List.set_cons_zero, List.set_cons_succ, Nat.reduceAdd] at hK ⊢
          have p0 := cell_below hR HX0.out
          have p1 := cell_below hR HX1.out
          clear hdep
          go_simp
          refine hK _ _ (rb_refl _) fun w3 h3 => ?_
          exact wv_rb (rb_trans _ _ _ hR h3) HWV.out
        · intro u w1 hR hdep K hK
          rw [if_pos (by rfl)]
          simp only [frameM, frameM_nil, Act.put, List.setIfInBounds_toArray, List.set_cons_zero, List.set_cons_succ, Nat.reduceAdd] at hK ⊢
          clear hdep
          go_simp
          refine hK _ _ (rb_refl _) fun w3 h3 => ?_
          exact rfl
        · intro u w1 hR hdep K hK
          rw [if_pos (by rfl)]
          simp only [frameM, frameM_nil, Act.put, List.setIfInBounds_toArray, List.set_cons_zero, List.set_cons_succ, Nat.reduceAdd] at hK ⊢
          have u1 : u 1 = .pointer (some ⟨G + 1, 3, none⟩) := hdep 1 (by kernel_rfl) w1 (rb_refl _)
          have cc := block_below hR HV.out
          have c3 := block_cell cc (i := 3) rfl
          simp only [u1] at hK ⊢
          clear u1 hdep
          go_simp
          refine hK _ _ (rb_refl _) fun w3 h3 => ?_
          exact rfl
        · intro u w1 hR hdep K hK
          rw [if_pos (by rfl)]
          simp only [frameM, frameM_nil, Act.put, List.setIfInBounds_toArray, List.set_cons_zero, List.set_cons_succ, Nat.reduceAdd] at hK ⊢
          clear hdep
          go_simp
          refine hK _ _ (rb_refl _) fun w3 h3 => ?_
          exact rfl
        · intro u w1 hR hdep K hK
          rw [if_pos (by rfl)]
          simp only [frameM, frameM_nil, Act.put, List.setIfInBounds_toArray, List.set_cons_zero, List.set_cons_succ, Nat.reduceAdd] at hK ⊢
          have u2 : u 2 = .slice (some ad) n c := hdep 2 (by kernel_rfl) w1 (rb_refl _)
          have u3 : u 3 = .int .i64 (k : Nat) := hdep 3 (by kernel_rfl) w1 (rb_refl _)
          have hk0 := HK0.out
          have hk1 := HK1.out
          simp only [u2, u3] at hK ⊢
          clear u2 u3 hdep
          go_simp
          refine hK _ _ (rb_refl _) fun w3 h3 => ?_
          exact rfl
        · intro u w1 hR hdep K hK
          rw [if_pos (by rfl)]
          simp only [frameM, frameM_nil, Act.put, List.setIfInBounds_toArray, List.set_cons_zero, List.set_cons_succ, Nat.reduceAdd] at hK ⊢
          have u4 : u 4 = .pointer (some (ad.add (k * 7))) := hdep 4 (by kernel_rfl) w1 (rb_refl _)
          have e0 := cell_below hR E0.out
          have e1 := cell_below hR E1.out
          have e2 := cell_below hR E2.out
          have e3 := cell_below hR E3.out
          have e4 := cell_below hR E4.out
          have e5 := cell_below hR E5.out
          have e6 := cell_below hR E6.out
          simp only [u4] at hK ⊢
          clear u4 hdep
          go_simp
          refine hK _ _ (rb_refl _) fun w3 h3 => ?_
          exact rfl
        · intro u w1 hR hdep K hK
          rw [if_pos (by rfl)]
          simp only [frameM, frameM_nil, Act.put, List.setIfInBounds_toArray, List.set_cons_zero, List.set_cons_succ, Nat.reduceAdd] at hK ⊢
          have kp : WV B w1 sk (u 0) := hdep 0 (by kernel_rfl) w1 (rb_refl _)
          obtain ⟨A', n', c', hu, kk⟩ := kp
          have u5 : u 5 = .agg (vcs v) := hdep 5 (by kernel_rfl) w1 (rb_refl _)
          simp only [hu, u5] at hK ⊢
          clear hdep hu u5
          have hc := HVP.out w1 _ (bl_trans (bl_drew (Below.refl _ _)) hR) ⟨A', n', c', rfl, kk⟩
          go_simp
          refine hc.mono ?_
          rintro x w2 ⟨⟨z, rfl, kz⟩, b2⟩
          refine hK _ _ b2 fun w3 h3 => ?_
          exact wv_rb h3 kz
        · intro u w1 hR hall
          have h6 : WV B w1 s' (u 6) := hall 6 rfl
          obtain ⟨A9, n9, c9, e9, k9⟩ := h6
          have hb1 : Below wr.heap.size wr w1 := bl_trans (bl_drew (Below.refl _ _)) hR
          have g0 := block_below hb1 HA0.out
          have g1 := block_below hb1 HV.out
          have g2 := block_below hb1 HA2.out
          have Y0 := block_cell g0 (i := 0) rfl
          have Y1 := block_cell g0 (i := 1) rfl
          have Z0 : w1.frozen? ⟨G, 0, none⟩ = false := block_free g0
          have Z1 : w1.frozen? ⟨G, 1, none⟩ = false := block_free g0
          change wpList _ _ _ ([_]) _ _
          simp only [frameM, frameM_nil, Act.put, List.setIfInBounds_toArray, List.set_cons_zero, List.set_cons_succ, Nat.reduceAdd, e9]
          clear hall e9
          have B1 := bl_trans bel hb1
          have WC5 := wc_set (s := s') g0 hBG k9
          have c35 := wc_other (u := .slice A9 n9 c9) (v := .int .i64 s'.2) g1 (show G + 1 ≠ G by omega)
          have c47 := wc_other (u := .slice A9 n9 c9) (v := .int .i64 s'.2) g2 (show G + 1 + 1 ≠ G by omega)
          have B5 := bl_set (bl_set B1 le0 (p := ⟨G, 0, none⟩) (.slice A9 n9 c9)) le0 (p := ⟨G, 1, none⟩) (.int .i64 s'.2)
          go_wp2_with fail
          exact ⟨⟨k + 1, by omega, by go_num, by rw [HST.out]; exact WC5, c35, c47, B5⟩, by simp [intOf]; omega⟩
end Go.Proofs.Ytglneailkgminaa
/- Package mootref06: Done, Genesis. No claim of its own; no condition. -/
namespace Go.Proofs.Ytglneailkgminaa
open Go.ChangeShapes Go.WideShapes Go.ChangeAt Go.RowKit
set_option linter.unusedVariables false
set_option linter.unusedSimpArgs false
set_option maxRecDepth 100000 in
set_option maxHeartbeats 1600000 in
theorem refdone_calls (B : Nat) (s : List UInt8 × Int) (y : Value) (w : World) (h : WV B w s y) (hl : s.1.length ≤ 65536) :
    Calls Try.prog 20 #[y] w fun x w' => (∃ v, x = .returned (.tuple #[v, .int .i64 (doneW s).2]) ∧ kBB.K B w' (doneW s).1 [v]) ∧ Below w.heap.size w w' := by
  obtain ⟨A, n, c, rfl, hk⟩ := h
  obtain ⟨b, e⟩ := s
  dsimp only at hk hl ⊢
  have hk' := hk
  obtain ⟨A', c', e1, _, _, _⟩ := hk'
  obtain ⟨rfl, rfl, rfl⟩ : A = A' ∧ n = b.length ∧ c = c' := by
    injection e1 with e2 _
    injection e2 with e3 e4 e5
    exact ⟨e3, e4, e5⟩
  have q0 := bl_alloc (Below.refl w.heap.size w) (.cells #[.slice A b.length c, .int .i64 e] 47)
  have a0 := alloc_new w (.cells #[.slice A b.length c, .int .i64 e] 47)
  have hkq := k_rb q0 hk
  have hnil : ∀ W, kBB.K B W [] [.slice none 0 0] := fun W => ⟨none, 0, rfl, Nat.le_refl _, by decide, Kd.row_nil _ _ _ _ _⟩
  by_cases h0 : (e == 0) = true
  case neg =>
    have h0' : (e == 0) = false := by simpa using h0
    have hn0 : (e != 0) = true := by simp only [bne, h0', Bool.not_false]
    have hn : doneW (b, e) = ([], e) := by unfold doneW; rw [if_neg h0]
    rw [hn]
    clear hn h0
    go_enter Try.func20, Try.ntmps20
    go_upto_region 1 with fail
    generalize w.alloc (.cells #[.slice A b.length c, .int .i64 e] 47) = W at *
    have r0 := block_cell a0 (i := 0) rfl
    have r1 := block_cell a0 (i := 1) rfl
    go_upto_region 2 with fail
    go_quiet (fail)
    go_wp2_with fail
    go_ret2
    exact ⟨⟨_, rfl, hnil _⟩, bl_drewN q0 _⟩
  case pos =>
    have he : e = 0 := by simpa using h0
    subst he
    by_cases hlen : 16384 < b.length
    · have hn : doneW (b, 0) = ([], 5) := by unfold doneW; rw [if_pos h0, if_pos hlen]
      rw [hn]
      have hlI : (b.length : Int) > 16384 := by omega
      clear hn
      go_enter Try.func20, Try.ntmps20
      go_upto_region 1 with fail
      generalize w.alloc (.cells #[.slice A b.length c, .int .i64 0] 47) = W at *
      have r0 := block_cell a0 (i := 0) rfl
      have r1 := block_cell a0 (i := 1) rfl
      go_wp2_with fail
      go_ret2
      exact ⟨⟨_, rfl, hnil _⟩, q0⟩
    · have hn : doneW (b, 0) = (b, 0) := by unfold doneW; rw [if_pos h0, if_neg hlen]
      rw [hn]
      have hlI : ¬ ((b.length : Int) > 16384) := by omega
      clear hn
      go_enter Try.func20, Try.ntmps20
      go_upto_region 1 with fail
      generalize w.alloc (.cells #[.slice A b.length c, .int .i64 0] 47) = W at *
      have r0 := block_cell a0 (i := 0) rfl
      have r1 := block_cell a0 (i := 1) rfl
      go_wp2_with fail
      go_ret2
      exact ⟨⟨_, rfl, hkq⟩, q0⟩
set_option maxRecDepth 100000 in
set_option maxHeartbeats 1600000 in
theorem genesis_calls (w : World) : Calls Try.prog 56 #[] w fun x w' => x = .returned (.string firstB) ∧ Below w.heap.size w w' := by
  have hmk : (Instr.makeSlice 40 (.int .i64 32) (.int .i64 32)).run Try.prog w = .ok (.slice (some ⟨w.heap.size, 0, none⟩) 32 32) (w.alloc (.cells (octCells (List.replicate 32 0)).toArray 5)) :=
    (run_make_row' (P := Try.prog) 40 5 (.int .u8 0) 1 (by kernel_rfl) (by kernel_rfl) rfl .i64 .i64 32 (by omega) (by omega) w).trans (by rw [octs_made])
  have q0 := bl_alloc (Below.refl w.heap.size w) (.cells (octCells (List.replicate 32 0)).toArray 5)
  have a0 := alloc_new w (.cells (octCells (List.replicate 32 0)).toArray 5)
  have row : Kd.u8.Row 5 0 (w.alloc (.cells (octCells (List.replicate 32 0)).toArray 5)) (some ⟨w.heap.size, 0, none⟩) (List.replicate 32 0) := Kd.row_fresh rfl (by rw [List.toList_toArray]; exact octs_reps 0 _ _)
  have hrun := run_str (c := 32) Try.underlying40 Try.underlying5 Try.underlying9 row
  have hfb : sb (List.replicate 32 0) = firstB := by decide
  rw [hfb] at hrun
  have hlen : (List.replicate 32 (0 : UInt8)).length = 32 := by decide
  rw [hlen] at hrun
  clear row a0 hfb hlen
  go_enter Try.func56, Try.ntmps56
  go_wp2_with (refine wpList_convert rfl 40 9 (.tmp 1) rfl _ rfl _ _ hrun ?_)
  go_ret
  exact ⟨rfl, q0⟩
end Go.Proofs.Ytglneailkgminaa
