/- Package mootref06: voteFields, PutVote. No claim of its own; no condition. -/
import Derived.Test.YtglneailkgminaaGreatRefG
namespace Go.Proofs.YtglneailkgminaaGreat
open Go.ChangeShapes Go.WideShapes Go.ChangeAt Go.RowKit
set_option linter.unusedVariables false
set_option linter.unusedSimpArgs false
/-- A writer's value. -/
def WV (B : Nat) (w : World) (s : List UInt8 × Int) (y : Value) : Prop := ∃ A n c, y = .agg #[.slice A n c, .int .i64 s.2] ∧ kBB.K B w s.1 [.slice A n c]
theorem wv_rb {B : Nat} {w w' : World} {s : List UInt8 × Int} {y : Value} (h : Rb w w') (k : WV B w s y) : WV B w' s y := by
  obtain ⟨A, n, c, h1, h2⟩ := k
  exact ⟨A, n, c, h1, k_rb h h2⟩
theorem wv_of {B : Nat} {w : World} {s : List UInt8 × Int} {v : Value} (h : kBB.K B w s.1 [v]) : WV B w s (.agg #[v, .int .i64 s.2]) := by
  obtain ⟨A, n, c, rfl⟩ := k_some h
  exact ⟨A, n, c, rfl, h⟩
theorem refnum_wv (B : Nat) (s : List UInt8 × Int) (n : Int) (y : Value) (w : World) (h : WV B w s y) (hl : s.1.length ≤ 20482) :
    Calls Tryz.prog 43 #[y, .int .i64 n] w fun x w' => (∃ z, x = .returned z ∧ WV B w' (numW s n) z) ∧ Below w.heap.size w w' := by
  obtain ⟨A, m, c, rfl, hk⟩ := h
  exact (refnum_calls s n _ B w hk (by omega)).mono fun x w' ⟨⟨v', h1, h2⟩, h3⟩ => ⟨⟨_, h1, wv_of h2⟩, h3⟩
theorem reftext_wv (B : Nat) (s : List UInt8 × Int) (t : ByteArray) (y : Value) (w : World) (h : WV B w s y) (hl : s.1.length ≤ 20482) (ht : t.size ≤ 1048576) :
    Calls Tryz.prog 44 #[y, .string t] w fun x w' => (∃ z, x = .returned z ∧ WV B w' (textW s t) z) ∧ Below w.heap.size w w' := by
  obtain ⟨A, m, c, rfl, hk⟩ := h
  exact (reftext_calls s t _ B w hk (by omega) ht).mono fun x w' ⟨⟨v', h1, h2⟩, h3⟩ => ⟨⟨_, h1, wv_of h2⟩, h3⟩
def vfG (B G : Nat) (s : List UInt8 × Int) (v : Vote) : Nat → Value → World → Prop
  | 0, y, w => WV B w s y
  | 1, y, w => WV B w (textW s voteWord) y
  | 2, y, _ => y = .pointer (some ⟨G + 1, 0, none⟩)
  | 3, y, _ => y = .int .i64 v.kind
  | 4, y, w => WV B w (numW (textW s voteWord) v.kind) y
  | 5, y, _ => y = .pointer (some ⟨G + 1, 1, none⟩)
  | 6, y, _ => y = .int .i64 v.view
  | 7, y, w => WV B w (numW (numW (textW s voteWord) v.kind) v.view) y
  | 8, y, _ => y = .pointer (some ⟨G + 1, 2, none⟩)
  | 9, y, _ => y = .int .i64 v.height
  | 10, y, w => WV B w (numW (numW (numW (textW s voteWord) v.kind) v.view) v.height) y
  | 11, y, _ => y = .pointer (some ⟨G + 1, 3, none⟩)
  | 12, y, _ => y = .string v.block
  | 13, y, w => WV B w (textW (numW (numW (numW (textW s voteWord) v.kind) v.view) v.height) v.block) y
  | 14, y, _ => y = .pointer (some ⟨G + 1, 4, none⟩)
  | 15, y, _ => y = .int .i64 v.ticks
  | 16, y, w => WV B w (numW (textW (numW (numW (numW (textW s voteWord) v.kind) v.view) v.height) v.block) v.ticks) y
  | 17, y, _ => y = .pointer (some ⟨G + 1, 5, none⟩)
  | 18, y, _ => y = .int .i64 v.signer
  | 19, y, w => WV B w (numW (numW (textW (numW (numW (numW (textW s voteWord) v.kind) v.view) v.height) v.block) v.ticks) v.signer) y
  | _, _, _ => True
set_option maxHeartbeats 6400000 in
set_option maxRecDepth 100000 in
theorem reffields_calls (B : Nat) (s : List UInt8 × Int) (v : Vote) (y : Value) (w : World) (h : WV B w s y) (hB : B ≤ w.heap.size) (hl : s.1.length ≤ 20482) (hz : v.block.size ≤ 1048576) :
    Calls Tryz.prog 24 #[y, .agg (vcs v)] w fun x w' => (∃ z, x = .returned z ∧ WV B w' (vfW s v) z) ∧ Below w.heap.size w w' := by
  obtain ⟨A, n, c, rfl, hk⟩ := h
  have q0 := bl_alloc (bl_alloc (bl_alloc (Below.refl w.heap.size w) (.cells #[.slice A n c, .int .i64 s.2] 56)) (.cells (vcs v) 29)) (.cells #[.slice none 0 0, .int .i64 0] 56)
  have a0 : (((w.alloc (.cells #[.slice A n c, .int .i64 s.2] 56)).alloc (.cells (vcs v) 29)).alloc (.cells #[.slice none 0 0, .int .i64 0] 56)).heap[w.heap.size]? = some (.cells #[.slice A n c, .int .i64 s.2] 56 (0, 0)) := alloc_old (alloc_old (alloc_new w _) _) _
  have a1 : (((w.alloc (.cells #[.slice A n c, .int .i64 s.2] 56)).alloc (.cells (vcs v) 29)).alloc (.cells #[.slice none 0 0, .int .i64 0] 56)).heap[w.heap.size + 1]? = some (.cells (vcs v) 29 (0, 0)) := by
    have := alloc_old (alloc_new (w.alloc (.cells #[.slice A n c, .int .i64 s.2] 56)) (.cells (vcs v) 29)) (.cells #[.slice none 0 0, .int .i64 0] 56)
    rwa [World.size_alloc] at this
  have a2 : (((w.alloc (.cells #[.slice A n c, .int .i64 s.2] 56)).alloc (.cells (vcs v) 29)).alloc (.cells #[.slice none 0 0, .int .i64 0] 56)).heap[w.heap.size + 1 + 1]? = some (.cells #[.slice none 0 0, .int .i64 0] 56 (0, 0)) := by
    have := alloc_new ((w.alloc (.cells #[.slice A n c, .int .i64 s.2] 56)).alloc (.cells (vcs v) 29)) (.cells #[.slice none 0 0, .int .i64 0] 56)
    rwa [World.size_alloc, World.size_alloc] at this
  obtain ⟨G, hG⟩ : ∃ G, w.heap.size = G := ⟨_, rfl⟩
  have HG := Lib.hid hG
  have hkq := k_rb q0 hk
  have HL0 : Hid (s.1.length ≤ 20482) := Lib.hid hl
  have HL1 : Hid ((textW s voteWord).1.length ≤ 20482) := Lib.hid (textW_bd HL0.out _)
  have HL2 : Hid ((numW (textW s voteWord) v.kind).1.length ≤ 20482) := Lib.hid (numW_bd HL1.out _)
  have HL3 : Hid ((numW (numW (textW s voteWord) v.kind) v.view).1.length ≤ 20482) := Lib.hid (numW_bd HL2.out _)
  have HL4 : Hid ((numW (numW (numW (textW s voteWord) v.kind) v.view) v.height).1.length ≤ 20482) := Lib.hid (numW_bd HL3.out _)
  have HL5 : Hid ((textW (numW (numW (numW (textW s voteWord) v.kind) v.view) v.height) v.block).1.length ≤ 20482) := Lib.hid (textW_bd HL4.out _)
  have HL6 : Hid ((numW (textW (numW (numW (numW (textW s voteWord) v.kind) v.view) v.height) v.block) v.ticks).1.length ≤ 20482) := Lib.hid (numW_bd HL5.out _)
  go_enter Tryz.func24, Tryz.ntmps24
  go_upto_region 1 with fail
  change Code.wp _ _ _ _ (((w.alloc (.cells #[.slice A n c, .int .i64 s.2] 56)).alloc (.cells (vcs v) 29)).alloc (.cells #[.slice none 0 0, .int .i64 0] 56))
  generalize ((w.alloc (.cells #[.slice A n c, .int .i64 s.2] 56)).alloc (.cells (vcs v) 29)).alloc (.cells #[.slice none 0 0, .int .i64 0] 56) = V at *
  simp only [hG] at a0 a1 a2 ⊢
  clear hG
  have X0 := block_cell a0 (i := 0) rfl
  have X1 := block_cell a0 (i := 1) rfl
  have HV := Lib.hid a1
  have HWV : Hid (WV B V s (.agg #[.slice A n c, .int .i64 s.2])) := Lib.hid ⟨A, n, c, rfl, hkq⟩
  have hGV : G + 1 + 1 < V.heap.size := blk_lt a2
  have HA2 := Lib.hid a2
  clear a0 a1 a2 hk hkq
  refine wp_region_any (by kernel_rfl) ?_
  refine wpAny_invt' [true, true, true, true, true, true, true, true, true, true, true, true, true, true, true, true, true, true, true, true, false] [20] (by kernel_rfl) (by kernel_rfl) Rb (vfG B G s v) rb_refl rb_trans ⟨?_, ?_, ?_, ?_, ?_, ?_, ?_, ?_, ?_, ?_, ?_, ?_, ?_, ?_, ?_, ?_, ?_, ?_, ?_, ?_, trivial⟩ ?_
  · intro u w1 hR hdep K hK
    rw [if_pos (by rfl)]
    simp only [frameM, frameM_nil, Act.put, List.setIfInBounds_toArray, List.set_cons_zero, List.set_cons_succ, Nat.reduceAdd] at hK ⊢
    have p0 := cell_below hR X0
    have p1 := cell_below hR X1
    clear hdep
    go_simp
    refine hK _ _ (rb_refl _) fun w3 h3 => ?_
    exact wv_rb (rb_trans _ _ _ hR h3) HWV.out
  · intro u w1 hR hdep K hK
    rw [if_pos (by rfl)]
    simp only [frameM, frameM_nil, Act.put, List.setIfInBounds_toArray, List.set_cons_zero, List.set_cons_succ, Nat.reduceAdd] at hK ⊢
    have kp : WV B w1 s (u 0) := hdep 0 (by kernel_rfl) w1 (rb_refl _)
    obtain ⟨A', n', c', hu, kk⟩ := kp
    simp only [hu] at hK ⊢
    clear hdep hu
    have hc := reftext_wv B s voteWord _ w1 ⟨A', n', c', rfl, kk⟩ (HL0.out) (by decide)
    go_simp
    refine hc.mono ?_
    rintro x w2 ⟨⟨z, rfl, kz⟩, b2⟩
    refine hK _ _ b2 fun w3 h3 => ?_
    exact wv_rb h3 kz
  · intro u w1 hR hdep K hK
    rw [if_pos (by rfl)]
    simp only [frameM, frameM_nil, Act.put, List.setIfInBounds_toArray, List.set_cons_zero, List.set_cons_succ, Nat.reduceAdd] at hK ⊢
    clear hdep
    go_simp
    refine hK _ _ (rb_refl _) fun w3 h3 => ?_
    exact rfl
  · intro u w1 hR hdep K hK
    rw [if_pos (by rfl)]
    simp only [frameM, frameM_nil, Act.put, List.setIfInBounds_toArray, List.set_cons_zero, List.set_cons_succ, Nat.reduceAdd] at hK ⊢
    have u2 : u 2 = .pointer (some ⟨G + 1, 0, none⟩) := hdep 2 (by kernel_rfl) w1 (rb_refl _)
    obtain ⟨r0, r1, r2, r3, r4, r5, r6⟩ := vcells (block_below hR HV.out)
    simp only [u2] at hK ⊢
    clear u2 hdep
    go_simp
    refine hK _ _ (rb_refl _) fun w3 h3 => ?_
    exact rfl
  · intro u w1 hR hdep K hK
    rw [if_pos (by rfl)]
    simp only [frameM, frameM_nil, Act.put, List.setIfInBounds_toArray, List.set_cons_zero, List.set_cons_succ, Nat.reduceAdd] at hK ⊢
    have kp : WV B w1 (textW s voteWord) (u 1) := hdep 1 (by kernel_rfl) w1 (rb_refl _)
    obtain ⟨A', n', c', hu, kk⟩ := kp
    have u3 : u 3 = .int .i64 v.kind := hdep 3 (by kernel_rfl) w1 (rb_refl _)
    simp only [hu, u3] at hK ⊢
    clear hdep hu u3
    have hc := refnum_wv B (textW s voteWord) v.kind _ w1 ⟨A', n', c', rfl, kk⟩ (HL1.out)
    go_simp
    refine hc.mono ?_
    rintro x w2 ⟨⟨z, rfl, kz⟩, b2⟩
    refine hK _ _ b2 fun w3 h3 => ?_
    exact wv_rb h3 kz
  · intro u w1 hR hdep K hK
    rw [if_pos (by rfl)]
    simp only [frameM, frameM_nil, Act.put, List.setIfInBounds_toArray, List.set_cons_zero, List.set_cons_succ, Nat.reduceAdd] at hK ⊢
    clear hdep
    go_simp
    refine hK _ _ (rb_refl _) fun w3 h3 => ?_
    exact rfl
  · intro u w1 hR hdep K hK
    rw [if_pos (by rfl)]
    simp only [frameM, frameM_nil, Act.put, List.setIfInBounds_toArray, List.set_cons_zero, List.set_cons_succ, Nat.reduceAdd] at hK ⊢
    have u5 : u 5 = .pointer (some ⟨G + 1, 1, none⟩) := hdep 5 (by kernel_rfl) w1 (rb_refl _)
    obtain ⟨r0, r1, r2, r3, r4, r5, r6⟩ := vcells (block_below hR HV.out)
    simp only [u5] at hK ⊢
    clear u5 hdep
    go_simp
    refine hK _ _ (rb_refl _) fun w3 h3 => ?_
    exact rfl
  · intro u w1 hR hdep K hK
    rw [if_pos (by rfl)]
    simp only [frameM, frameM_nil, Act.put, List.setIfInBounds_toArray, List.set_cons_zero, List.set_cons_succ, Nat.reduceAdd] at hK ⊢
    have kp : WV B w1 (numW (textW s voteWord) v.kind) (u 4) := hdep 4 (by kernel_rfl) w1 (rb_refl _)
    obtain ⟨A', n', c', hu, kk⟩ := kp
    have u6 : u 6 = .int .i64 v.view := hdep 6 (by kernel_rfl) w1 (rb_refl _)
    simp only [hu, u6] at hK ⊢
    clear hdep hu u6
    have hc := refnum_wv B (numW (textW s voteWord) v.kind) v.view _ w1 ⟨A', n', c', rfl, kk⟩ (HL2.out)
    go_simp
    refine hc.mono ?_
    rintro x w2 ⟨⟨z, rfl, kz⟩, b2⟩
    refine hK _ _ b2 fun w3 h3 => ?_
    exact wv_rb h3 kz
  · intro u w1 hR hdep K hK
    rw [if_pos (by rfl)]
    simp only [frameM, frameM_nil, Act.put, List.setIfInBounds_toArray, List.set_cons_zero, List.set_cons_succ, Nat.reduceAdd] at hK ⊢
    clear hdep
    go_simp
    refine hK _ _ (rb_refl _) fun w3 h3 => ?_
    exact rfl
  · intro u w1 hR hdep K hK
    rw [if_pos (by rfl)]
    simp only [frameM, frameM_nil, Act.put, List.setIfInBounds_toArray, List.set_cons_zero, List.set_cons_succ, Nat.reduceAdd] at hK ⊢
    have u8 : u 8 = .pointer (some ⟨G + 1, 2, none⟩) := hdep 8 (by kernel_rfl) w1 (rb_refl _)
    obtain ⟨r0, r1, r2, r3, r4, r5, r6⟩ := vcells (block_below hR HV.out)
    simp only [u8] at hK ⊢
    clear u8 hdep
    go_simp
    refine hK _ _ (rb_refl _) fun w3 h3 => ?_
    exact rfl
  · intro u w1 hR hdep K hK
    rw [if_pos (by rfl)]
    simp only [frameM, frameM_nil, Act.put, List.setIfInBounds_toArray, List.set_cons_zero, List.set_cons_succ, Nat.reduceAdd] at hK ⊢
    have kp : WV B w1 (numW (numW (textW s voteWord) v.kind) v.view) (u 7) := hdep 7 (by kernel_rfl) w1 (rb_refl _)
    obtain ⟨A', n', c', hu, kk⟩ := kp
    have u9 : u 9 = .int .i64 v.height := hdep 9 (by kernel_rfl) w1 (rb_refl _)
    simp only [hu, u9] at hK ⊢
    clear hdep hu u9
    have hc := refnum_wv B (numW (numW (textW s voteWord) v.kind) v.view) v.height _ w1 ⟨A', n', c', rfl, kk⟩ (HL3.out)
    go_simp
    refine hc.mono ?_
    rintro x w2 ⟨⟨z, rfl, kz⟩, b2⟩
    refine hK _ _ b2 fun w3 h3 => ?_
    exact wv_rb h3 kz
  · intro u w1 hR hdep K hK
    rw [if_pos (by rfl)]
    simp only [frameM, frameM_nil, Act.put, List.setIfInBounds_toArray, List.set_cons_zero, List.set_cons_succ, Nat.reduceAdd] at hK ⊢
    clear hdep
    go_simp
    refine hK _ _ (rb_refl _) fun w3 h3 => ?_
    exact rfl
  · intro u w1 hR hdep K hK
    rw [if_pos (by rfl)]
    simp only [frameM, frameM_nil, Act.put, List.setIfInBounds_toArray, List.set_cons_zero, List.set_cons_succ, Nat.reduceAdd] at hK ⊢
    have u11 : u 11 = .pointer (some ⟨G + 1, 3, none⟩) := hdep 11 (by kernel_rfl) w1 (rb_refl _)
    obtain ⟨r0, r1, r2, r3, r4, r5, r6⟩ := vcells (block_below hR HV.out)
    simp only [u11] at hK ⊢
    clear u11 hdep
    go_simp
    refine hK _ _ (rb_refl _) fun w3 h3 => ?_
    exact rfl
  · intro u w1 hR hdep K hK
    rw [if_pos (by rfl)]
    simp only [frameM, frameM_nil, Act.put, List.setIfInBounds_toArray, List.set_cons_zero, List.set_cons_succ, Nat.reduceAdd] at hK ⊢
    have kp : WV B w1 (numW (numW (numW (textW s voteWord) v.kind) v.view) v.height) (u 10) := hdep 10 (by kernel_rfl) w1 (rb_refl _)
    obtain ⟨A', n', c', hu, kk⟩ := kp
    have u12 : u 12 = .string v.block := hdep 12 (by kernel_rfl) w1 (rb_refl _)
    simp only [hu, u12] at hK ⊢
    clear hdep hu u12
    have hc := reftext_wv B (numW (numW (numW (textW s voteWord) v.kind) v.view) v.height) v.block _ w1 ⟨A', n', c', rfl, kk⟩ (HL4.out) hz
    go_simp
    refine hc.mono ?_
    rintro x w2 ⟨⟨z, rfl, kz⟩, b2⟩
    refine hK _ _ b2 fun w3 h3 => ?_
    exact wv_rb h3 kz
  · intro u w1 hR hdep K hK
    rw [if_pos (by rfl)]
    simp only [frameM, frameM_nil, Act.put, List.setIfInBounds_toArray, List.set_cons_zero, List.set_cons_succ, Nat.reduceAdd] at hK ⊢
    clear hdep
    go_simp
    refine hK _ _ (rb_refl _) fun w3 h3 => ?_
    exact rfl
  · intro u w1 hR hdep K hK
    rw [if_pos (by rfl)]
    simp only [frameM, frameM_nil, Act.put, List.setIfInBounds_toArray, List.set_cons_zero, List.set_cons_succ, Nat.reduceAdd] at hK ⊢
    have u14 : u 14 = .pointer (some ⟨G + 1, 4, none⟩) := hdep 14 (by kernel_rfl) w1 (rb_refl _)
    obtain ⟨r0, r1, r2, r3, r4, r5, r6⟩ := vcells (block_below hR HV.out)
    simp only [u14] at hK ⊢
    clear u14 hdep
    go_simp
    refine hK _ _ (rb_refl _) fun w3 h3 => ?_
    exact rfl
  · intro u w1 hR hdep K hK
    rw [if_pos (by rfl)]
    simp only [frameM, frameM_nil, Act.put, List.setIfInBounds_toArray, List.set_cons_zero, List.set_cons_succ, Nat.reduceAdd] at hK ⊢
    have kp : WV B w1 (textW (numW (numW (numW (textW s voteWord) v.kind) v.view) v.height) v.block) (u 13) := hdep 13 (by kernel_rfl) w1 (rb_refl _)
    obtain ⟨A', n', c', hu, kk⟩ := kp
    have u15 : u 15 = .int .i64 v.ticks := hdep 15 (by kernel_rfl) w1 (rb_refl _)
    simp only [hu, u15] at hK ⊢
    clear hdep hu u15
    have hc := refnum_wv B (textW (numW (numW (numW (textW s voteWord) v.kind) v.view) v.height) v.block) v.ticks _ w1 ⟨A', n', c', rfl, kk⟩ (HL5.out)
    go_simp
    refine hc.mono ?_
    rintro x w2 ⟨⟨z, rfl, kz⟩, b2⟩
    refine hK _ _ b2 fun w3 h3 => ?_
    exact wv_rb h3 kz
  · intro u w1 hR hdep K hK
    rw [if_pos (by rfl)]
    simp only [frameM, frameM_nil, Act.put, List.setIfInBounds_toArray, List.set_cons_zero, List.set_cons_succ, Nat.reduceAdd] at hK ⊢
    clear hdep
    go_simp
    refine hK _ _ (rb_refl _) fun w3 h3 => ?_
    exact rfl
  · intro u w1 hR hdep K hK
    rw [if_pos (by rfl)]
    simp only [frameM, frameM_nil, Act.put, List.setIfInBounds_toArray, List.set_cons_zero, List.set_cons_succ, Nat.reduceAdd] at hK ⊢
    have u17 : u 17 = .pointer (some ⟨G + 1, 5, none⟩) := hdep 17 (by kernel_rfl) w1 (rb_refl _)
    obtain ⟨r0, r1, r2, r3, r4, r5, r6⟩ := vcells (block_below hR HV.out)
    simp only [u17] at hK ⊢
    clear u17 hdep
    go_simp
    refine hK _ _ (rb_refl _) fun w3 h3 => ?_
    exact rfl
  · intro u w1 hR hdep K hK
    rw [if_pos (by rfl)]
    simp only [frameM, frameM_nil, Act.put, List.setIfInBounds_toArray, List.set_cons_zero, List.set_cons_succ, Nat.reduceAdd] at hK ⊢
    have kp : WV B w1 (numW (textW (numW (numW (numW (textW s voteWord) v.kind) v.view) v.height) v.block) v.ticks) (u 16) := hdep 16 (by kernel_rfl) w1 (rb_refl _)
    obtain ⟨A', n', c', hu, kk⟩ := kp
    have u18 : u 18 = .int .i64 v.signer := hdep 18 (by kernel_rfl) w1 (rb_refl _)
    simp only [hu, u18] at hK ⊢
    clear hdep hu u18
    have hc := refnum_wv B (numW (textW (numW (numW (numW (textW s voteWord) v.kind) v.view) v.height) v.block) v.ticks) v.signer _ w1 ⟨A', n', c', rfl, kk⟩ (HL6.out)
    go_simp
    refine hc.mono ?_
    rintro x w2 ⟨⟨z, rfl, kz⟩, b2⟩
    refine hK _ _ b2 fun w3 h3 => ?_
    exact wv_rb h3 kz
  · intro u w1 hR hall
    have h19 : WV B w1 (vfW s v) (u 19) := hall 19 rfl
    obtain ⟨A9, n9, c9, e9, k9⟩ := h19
    have hb1 : Below V.heap.size V w1 := bl_trans (bl_drew (Below.refl _ _)) hR
    have g2 := block_below hb1 HA2.out
    have Y0 := block_cell g2 (i := 0) rfl
    have Y1 := block_cell g2 (i := 1) rfl
    have Z0 : w1.frozen? ⟨G + 1 + 1, 0, none⟩ = false := block_free g2
    have Z1 : w1.frozen? ⟨G + 1 + 1, 1, none⟩ = false := block_free g2
    have B1 := bl_trans q0 hb1
    change wpList _ _ _ ([_]) _ _
    simp only [frameM, frameM_nil, Act.put, List.setIfInBounds_toArray, List.set_cons_zero, List.set_cons_succ, Nat.reduceAdd, e9]
    clear hall e9 X0 X1
    go_wp2_with fail
    have R := res2 (p := .slice A9 n9 c9) (q := .int .i64 (vfW s v).2) g2
    refine bodyPost_ret (v := .agg #[.slice A9 n9 c9, .int .i64 (vfW s v).2]) (by simp [results, Tryz.results24, go_sem, R.1, R.2]) rfl ?_
    have le1 : w.heap.size ≤ G + 1 + 1 := by have := HG.out; omega
    refine ⟨⟨_, rfl, A9, n9, c9, rfl, ?_⟩, bl_set (bl_set B1 le1 _) le1 _⟩
    have g3 := block_set (i := 0) (u := .slice A9 n9 c9) g2
    exact kBB.keep (Keeps.trans (Keeps.set (p := ⟨G + 1 + 1, 0, none⟩) g2 (Nat.le_trans hB le1) (by decide) _) (Keeps.set (p := ⟨G + 1 + 1, 1, none⟩) g3 (Nat.le_trans hB le1) (by decide) _)) k9
def vpG (B G : Nat) (s : List UInt8 × Int) (v : Vote) : Nat → Value → World → Prop
  | 0, y, w => WV B w s y
  | 1, y, _ => y = .agg (vcs v)
  | 2, y, w => WV B w (vfW s v) y
  | 3, y, _ => y = .pointer (some ⟨G + 1, 6, none⟩)
  | 4, y, _ => y = .string v.sig
  | 5, y, w => WV B w (vpW s v) y
  | _, _, _ => True
end Go.Proofs.YtglneailkgminaaGreat
