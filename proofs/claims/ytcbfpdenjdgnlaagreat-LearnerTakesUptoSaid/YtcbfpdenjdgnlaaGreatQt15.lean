/- Package pack: a writer: New, fault, Num. No claim of its own; no condition. -/
import Derived.Test.YtcbfpdenjdgnlaaGreatQt13
import Derived.Test.YtcbfpdenjdgnlaaGreatQt14
import Derived.Test.YtcbfpdenjdgnlaaGreatQt07
import Derived.Test.YtcbfpdenjdgnlaaGreatQt12
import Derived.WalkSpells
namespace Go.Proofs.YtcbfpdenjdgnlaaGreat
open Go.ChangeShapes Go.WideShapes Go.ChangeAt Go.RowKit
set_option linter.unusedVariables false
set_option linter.unusedSimpArgs false
/-- What a writer's call keeps: all that was there below M, and all blocks that are neither a writer's nor octets. -/
def Wk (M : Nat) (w w' : World) : Prop := Below M w w' ∧ ∀ E, 210 ∉ E → 5 ∉ E → Keeps M E w w'
theorem wk_refl (M : Nat) (w : World) : Wk M w w := ⟨Below.refl _ _, fun _ _ _ => Keeps.refl _ _ _⟩
theorem wk_trans {M : Nat} {a b c : World} (h : Wk M a b) (k : Wk M b c) : Wk M a c := ⟨h.1.trans k.1, fun E h1 h2 => (h.2 E h1 h2).trans (k.2 E h1 h2)⟩
theorem wk_below {M : Nat} {w w' : World} (h : Below w.heap.size w w') (hM : M ≤ w.heap.size) : Wk M w w' := ⟨h.mono hM, fun _ _ _ => Keeps.of_below h⟩
/-- A writer at N, its octets and its error. -/
def WrS (M : Nat) (w : World) (N : Nat) (b : List UInt8) (e : Int) : Prop := M ≤ N ∧ ∃ v, w.heap[N]? = some (.cells #[v, .int .i64 e, .bool true] 210 (0, 0)) ∧ Kd.u8.Own 5 M w M v b
theorem wrs_below {M N : Nat} {w w' : World} {b : List UInt8} {e : Int} (h : WrS M w N b e) (k : Below w.heap.size w w') : WrS M w' N b e := by
  obtain ⟨h1, v, h2, h3⟩ := h
  exact ⟨h1, v, block_below k h2, Kd.own_below h3 k⟩
theorem wrs_size {M N : Nat} {w : World} {b : List UInt8} {e : Int} (h : WrS M w N b e) : M ≤ w.heap.size := by
  obtain ⟨h1, v, h2, h3⟩ := h
  have := blk_lt h2
  omega
theorem new_calls (w : World) : Calls Tryz.prog 80 #[] w fun e w' => e = .returned (.pointer (some ⟨w.heap.size, 0, none⟩)) ∧ WrS w.heap.size w' w.heap.size [] 0 ∧ Below w.heap.size w w' := by
  go_enter Tryz.func80, Tryz.ntmps80
  go_wp2
  go_ret
  refine ⟨rfl, ⟨Nat.le_refl _, .slice none 0 0, alloc_new w _, Kd.own_nil _ _ _ _ _⟩, bl_alloc (Below.refl _ _) _⟩
theorem wrs_err {M N : Nat} {w : World} {b : List UInt8} {e : Int} (h : WrS M w N b e) (k : Int) : WrS M (w.setCell ⟨N, 1, none⟩ (.int .i64 k)) N b k ∧ Wk M w (w.setCell ⟨N, 1, none⟩ (.int .i64 k)) := by
  obtain ⟨h1, v, h2, h3⟩ := h
  have kk : ∀ E, 210 ∉ E → Keeps M E w (w.setCell ⟨N, 1, none⟩ (.int .i64 k)) := fun E hE => Keeps.set (p := ⟨N, 1, none⟩) h2 h1 hE _
  refine ⟨⟨h1, v, ?_, Kd.own_keep h3 (kk _ (by simp [Kd.u8]))⟩, (Below.refl _ _).setCell (p := ⟨N, 1, none⟩) h1 _, fun E h _ => kk E h⟩
  have := block_set (i := 1) (u := .int .i64 k) h2
  simpa using this
def errF (e k : Int) : Int := if (e == 0) = true then k else e
theorem fault_calls (M N : Nat) (b : List UInt8) (e k : Int) (w : World) (h : WrS M w N b e) :
    Calls Tryz.prog 152 #[.pointer (some ⟨N, 0, none⟩), .int .i64 k] w fun x w' => (∃ v, x = .returned v) ∧ WrS M w' N b (errF e k) ∧ Wk M w w' := by
  have h' := h
  obtain ⟨h1, v, h2, h3⟩ := h'
  have c1 := block_cell h2 (i := 1) rfl
  have f1 : w.frozen? ⟨N, 1, none⟩ = false := block_free h2
  by_cases h0 : (e == 0) = true
  · have he : errF e k = k := by unfold errF; rw [if_pos h0]
    go_enter Tryz.func152, Tryz.ntmps152
    go_wp2
    go_end0
    rw [he]
    exact ⟨⟨_, rfl⟩, wrs_err h k⟩
  · have h0' : (e == 0) = false := by simpa using h0
    have he : errF e k = e := by unfold errF; rw [if_neg h0]
    go_enter Tryz.func152, Tryz.ntmps152
    go_wp2
    go_end0
    rw [he]
    exact ⟨⟨_, rfl⟩, h, wk_refl _ _⟩
/-- A number in six octets. -/
def numW (s : List UInt8 × Int) (n : Int) : List UInt8 × Int :=
  if n < 0 ∨ 1099511627776 < n then (s.1, errF s.2 4) else if s.1.length ≤ 16384 then (s.1 ++ putB 6 n.toNat, s.2) else s
/-- A writer whose octets have grown, and whose field is written. -/
theorem wrs_grow {M N : Nat} {w w1 : World} {b ys : List UInt8} {e : Int} {v v' : Value} (h1 : M ≤ N) (h2 : w.heap[N]? = some (.cells #[v, .int .i64 e, .bool true] 210 (0, 0))) (h3 : Kd.u8.Own 5 M w M v b)
    (own : Kd.u8.Own 5 M w1 M v' (b ++ ys)) (grw : w.grownBy w1 v.ownBlock) :
    w1.heap[N]? = some (.cells #[v, .int .i64 e, .bool true] 210 (0, 0)) ∧ WrS M (w1.setCell ⟨N, 0, none⟩ v') N (b ++ ys) e ∧ Wk M w (w1.setCell ⟨N, 0, none⟩ v') := by
  have kp : ∀ E, 5 ∉ E → Keeps M E w w1 := fun E hE => Kd.own_keeps h3 grw (Nat.le_refl _) hE
  have hN : w1.heap[N]? = some (.cells #[v, .int .i64 e, .bool true] 210 (0, 0)) := ((kp [210] (by decide)).2 N ⟨blk_lt h2, .inr ⟨_, _, _, h2, by simp⟩⟩).trans h2
  have ks : ∀ E, 210 ∉ E → Keeps M E w1 (w1.setCell ⟨N, 0, none⟩ v') := fun E hE => Keeps.set (p := ⟨N, 0, none⟩) hN h1 hE _
  refine ⟨hN, ⟨h1, v', ?_, Kd.own_keep own (ks _ (by simp [Kd.u8]))⟩, ?_, fun E hE hE5 => (kp E hE5).trans (ks E hE)⟩
  · have := block_set (i := 0) (u := v') hN
    simpa using this
  · refine ((Below.refl M w).grown grw ?_ (fun k hk => (Kd.own_block h3 k hk).1)).setCell (p := ⟨N, 0, none⟩) h1 _
    have := blk_lt h2
    omega
def numG (N : Nat) (v0 : Value) (n : Nat) : Nat → Value → World → Prop
  | 1, v, _ => v = .pointer (some ⟨N, 0, none⟩)
  | 2, v, _ => v = .pointer (some ⟨N, 0, none⟩)
  | 3, v, _ => v = .pointer (some ⟨N, 0, none⟩)
  | 4, v, _ => v = v0
  | 5, v, _ => v = .int .i64 (n : Nat)
  | 6, v, w => ∃ g, v = .slice (some g) 6 6 ∧ ∀ B, Kd.u8.Row 5 B w (some g) (putB 6 n)
  | _, _, _ => True
set_option maxHeartbeats 1600000 in
set_option maxRecDepth 100000 in
theorem num_calls (M N : Nat) (s : List UInt8 × Int) (n : Int) (w : World) (h : WrS M w N s.1 s.2) (hl : s.1.length ≤ 65536) :
    Calls Tryz.prog 81 #[.pointer (some ⟨N, 0, none⟩), .int .i64 n] w fun x w' => (∃ v, x = .returned v) ∧ WrS M w' N (numW s n).1 (numW s n).2 ∧ Wk M w w' := by
  obtain ⟨b, e⟩ := s
  have h' := h
  obtain ⟨h1, v, h2, h3⟩ := h'
  dsimp only at h h2 h3 hl
  have c0 : w.cell? ⟨N, 0, none⟩ = some v := block_cell h2 (i := 0) rfl
  have c2 : w.cell? ⟨N, 2, none⟩ = some (.bool true) := block_cell h2 (i := 2) rfl
  by_cases hbad : n < 0 ∨ 1099511627776 < n
  · have hn : numW (b, e) n = (b, errF e 4) := by unfold numW; rw [if_pos hbad]
    rw [hn]
    have hf := fault_calls M N b e 4 w h
    have HF := Lib.hid hf
    clear hf hn
    rcases hbad with hneg | hbig
    · go_enter Tryz.func81, Tryz.ntmps81
      go_wp2_with (go_at_call 152; refine (HF.out).mono ?_; rintro x w1 ⟨⟨v1, rfl⟩, hw1, hk1⟩)
      go_end0
      exact ⟨⟨_, rfl⟩, hw1, hk1⟩
    · have hneg : ¬ (n < 0) := by omega
      have hbig' : n > 1099511627776 := hbig
      go_enter Tryz.func81, Tryz.ntmps81
      go_wp2_with (go_at_call 152; refine (HF.out).mono ?_; rintro x w1 ⟨⟨v1, rfl⟩, hw1, hk1⟩)
      go_end0
      exact ⟨⟨_, rfl⟩, hw1, hk1⟩
  · obtain ⟨k, rfl⟩ : ∃ k : Nat, n = (k : Int) := ⟨n.toNat, by omega⟩
    have hneg : ¬ ((k : Int) < 0) := by omega
    have hbig : ¬ ((k : Int) > 1099511627776) := by omega
    obtain ⟨A, c, rfl, lc, mc, _, _⟩ := Kd.own_row h3
    by_cases hlen : b.length ≤ 16384
    case neg =>
      have hn : numW (b, e) (k : Int) = (b, e) := by unfold numW; rw [if_neg hbad, if_neg hlen]
      rw [hn]
      have hlI : ¬ ((b.length : Int) ≤ 16384) := by omega
      clear hn
      go_enter Tryz.func81, Tryz.ntmps81
      go_wp2_with fail
      go_end0
      exact ⟨⟨_, rfl⟩, h, wk_refl _ _⟩
    case pos =>
      have hn : numW (b, e) (k : Int) = (b ++ putB 6 k, e) := by unfold numW; rw [if_neg hbad, if_pos hlen, Int.toNat_natCast]
      rw [hn]
      have hlI : (b.length : Int) ≤ 16384 := by omega
      obtain ⟨i0, hi, hz0, hz1, hz2⟩ := info_parts info_u8
      have hput := fun W => putn_row 6 k (by omega) (by omega) (by omega) W
      have HPUT := Lib.hid hput
      have H2 := Lib.hid h2
      have hMw := wrs_size h
      clear hput hn
      go_enter Tryz.func81, Tryz.ntmps81
      go_upto_region 4 with fail
      refine wp_region_any (by kernel_rfl) ?_
      refine wpAny_take0 (by kernel_rfl) (by kernel_rfl) (by kernel_rfl) (fun _ _ _ h => h) (Or.inl ⟨by rfl, fun w => by go_simp; rfl⟩) ?_
      simp only [Act.put, List.setIfInBounds_toArray, List.set_cons_zero, List.set_cons_succ]
      refine wpAny_invt' [false, true, true, true, true, true, true, false, false, false, false] [7, 8, 9, 10] (by kernel_rfl) (by kernel_rfl) Rb (numG N (.slice A b.length c) k) rb_refl rb_trans ⟨?_, ?_, ?_, ?_, ?_, ?_, trivial⟩ ?_
      · intro u w1 hR hdep K hK
        rw [if_pos (by rfl)]
        simp only [frameM, frameM_nil, Act.put, List.setIfInBounds_toArray, List.set_cons_zero, List.set_cons_succ, Nat.reduceAdd] at hK ⊢
        clear hdep
        go_simp
        refine hK _ _ (rb_refl _) fun w3 h3 => ?_
        exact rfl
      · intro u w1 hR hdep K hK
        rw [if_pos (by rfl)]
        simp only [frameM, frameM_nil, Act.put, List.setIfInBounds_toArray, List.set_cons_zero, List.set_cons_succ, Nat.reduceAdd] at hK ⊢
        have hu : u 1 = .pointer (some ⟨N, 0, none⟩) := hdep 1 (by kernel_rfl) w1 (rb_refl _)
        simp only [hu] at hK ⊢
        clear hu hdep
        go_simp
        refine hK _ _ (rb_refl _) fun w3 h3 => ?_
        exact rfl
      · intro u w1 hR hdep K hK
        rw [if_pos (by rfl)]
        simp only [frameM, frameM_nil, Act.put, List.setIfInBounds_toArray, List.set_cons_zero, List.set_cons_succ, Nat.reduceAdd] at hK ⊢
        have hu : u 2 = .pointer (some ⟨N, 0, none⟩) := hdep 2 (by kernel_rfl) w1 (rb_refl _)
        simp only [hu] at hK ⊢
        clear hu hdep
        go_simp
        refine hK _ _ (rb_refl _) fun w3 h3 => ?_
        exact rfl
      · intro u w1 hR hdep K hK
        rw [if_pos (by rfl)]
        simp only [frameM, frameM_nil, Act.put, List.setIfInBounds_toArray, List.set_cons_zero, List.set_cons_succ, Nat.reduceAdd] at hK ⊢
        have hu : u 3 = .pointer (some ⟨N, 0, none⟩) := hdep 3 (by kernel_rfl) w1 (rb_refl _)
        have c1 : w1.cell? ⟨N, 0, none⟩ = some (.slice A b.length c) := cell_below hR c0
        simp only [hu] at hK ⊢
        clear hu hdep
        go_simp
        refine hK _ _ (rb_refl _) fun w3 h3 => ?_
        exact rfl
      · intro u w1 hR hdep K hK
        rw [if_pos (by rfl)]
        simp only [frameM, frameM_nil, Act.put, List.setIfInBounds_toArray, List.set_cons_zero, List.set_cons_succ, Nat.reduceAdd] at hK ⊢
        clear hdep
        go_simp
        refine hK _ _ (rb_refl _) fun w3 h3 => ?_
        exact rfl
      · intro u w1 hR hdep K hK
        rw [if_pos (by rfl)]
        simp only [frameM, frameM_nil, Act.put, List.setIfInBounds_toArray, List.set_cons_zero, List.set_cons_succ, Nat.reduceAdd] at hK ⊢
        have hu : u 5 = .int .i64 (k : Nat) := hdep 5 (by kernel_rfl) w1 (rb_refl _)
        simp only [hu] at hK ⊢
        clear hu hdep
        go_simp
        refine (HPUT.out _).mono ?_
        rintro x w2 ⟨⟨g, rfl, row⟩, b2⟩
        refine hK _ _ b2 fun w3 h3 => ?_
        exact ⟨g, rfl, fun B => Kd.row_below h3 (row B)⟩
      · intro u w1 hR hall
        have h4 : u 4 = .slice A b.length c := hall 4 rfl
        obtain ⟨g, h6, row6⟩ : ∃ g, u 6 = .slice (some g) 6 6 ∧ ∀ B, Kd.u8.Row 5 B w1 (some g) (putB 6 k) := hall 6 rfl
        have hb1 : Below w.heap.size w w1 := bl_trans (bl_drew (Below.refl _ _)) hR
        have g2 := block_below hb1 H2.out
        have g3 := Kd.own_below h3 hb1
        have hM1 : M ≤ w1.heap.size := Nat.le_trans hMw hb1.size
        change wpList _ _ _ (_ :: _ :: _ :: [_]) _ _
        simp only [frameM, frameM_nil, Act.put, List.setIfInBounds_toArray, List.set_cons_zero, List.set_cons_succ, Nat.reduceAdd, h4, h6]
        clear hall h4 h6 c0 c2
        go_wp2_with ((at_builtin; refine wpList_append_row _ rfl (.tmp 34) (.tmp 36) 60 rfl Kd.u8 M M 5 i0 _ 1 Tryz.underlying60 hi hz0 hz1 hz2 rfl (by decide) _ b rfl g3 _ _ _ (putB 6 k) rfl (putB_len 6 k).symm (row6 M) (by rw [putB_len]; omega) (by decide) hM1 (Nat.le_refl _) (by decide) ?_; intro v4 w4 own4 grw4 at4; obtain ⟨G2, HG, HK⟩ := wrs_grow h1 g2 g3 own4 grw4; have C0 := block_cell G2 (i := 0) rfl; have F0 : w4.frozen? ⟨N, 0, none⟩ = false := block_free G2; obtain ⟨A4, n4, c4, rfl⟩ := k_some (k_own own4)))
        go_end0
        exact ⟨⟨_, rfl⟩, HG, wk_trans (wk_below hb1 hMw) HK⟩
end Go.Proofs.YtcbfpdenjdgnlaaGreat
/- Package pack: a writer: Text, Done. No claim of its own; no condition. -/
namespace Go.Proofs.YtcbfpdenjdgnlaaGreat
open Go.ChangeShapes Go.WideShapes Go.ChangeAt Go.RowKit
set_option linter.unusedVariables false
set_option linter.unusedSimpArgs false
/-- A text behind its length. -/
def textW (s : List UInt8 × Int) (t : ByteArray) : List UInt8 × Int :=
  if 4096 < t.size then (s.1, errF s.2 5) else if s.1.length ≤ 16384 then (s.1 ++ putB 2 t.size ++ bl t, s.2) else s
def textG (N : Nat) (v0 : Value) (t : ByteArray) : Nat → Value → World → Prop
  | 1, v, _ => v = .pointer (some ⟨N, 0, none⟩)
  | 2, v, _ => v = .pointer (some ⟨N, 0, none⟩)
  | 3, v, _ => v = .pointer (some ⟨N, 0, none⟩)
  | 4, v, _ => v = v0
  | 5, v, _ => v = .string t
  | 6, v, _ => v = .int .i64 (t.size : Nat)
  | 7, v, w => ∃ g, v = .slice (some g) 2 2 ∧ ∀ B, Kd.u8.Row 5 B w (some g) (putB 2 t.size)
  | _, _, _ => True
/-- Twice grown: what is kept between. -/
theorem wrs_grow0 {M N : Nat} {w w1 : World} {b ys : List UInt8} {e : Int} {v v' : Value} (h2 : w.heap[N]? = some (.cells #[v, .int .i64 e, .bool true] 210 (0, 0))) (h3 : Kd.u8.Own 5 M w M v b)
    (grw : w.grownBy w1 v.ownBlock) (hM : M ≤ w.heap.size) : w1.heap[N]? = some (.cells #[v, .int .i64 e, .bool true] 210 (0, 0)) ∧ Wk M w w1 := by
  have kp : ∀ E, 5 ∉ E → Keeps M E w w1 := fun E hE => Kd.own_keeps h3 grw (Nat.le_refl _) hE
  exact ⟨((kp [210] (by decide)).2 N ⟨blk_lt h2, .inr ⟨_, _, _, h2, by simp⟩⟩).trans h2, (Below.refl M w).grown grw hM (fun k hk => (Kd.own_block h3 k hk).1), fun E _ h5 => kp E h5⟩
theorem wrs_put {M N : Nat} {w : World} {b : List UInt8} {e : Int} {v v' : Value} (h1 : M ≤ N) (h2 : w.heap[N]? = some (.cells #[v, .int .i64 e, .bool true] 210 (0, 0))) (own : Kd.u8.Own 5 M w M v' b) :
    WrS M (w.setCell ⟨N, 0, none⟩ v') N b e ∧ Wk M w (w.setCell ⟨N, 0, none⟩ v') := by
  have ks : ∀ E, 210 ∉ E → Keeps M E w (w.setCell ⟨N, 0, none⟩ v') := fun E hE => Keeps.set (p := ⟨N, 0, none⟩) h2 h1 hE _
  refine ⟨⟨h1, v', ?_, Kd.own_keep own (ks _ (by simp [Kd.u8]))⟩, (Below.refl M w).setCell (p := ⟨N, 0, none⟩) h1 _, fun E hE _ => ks E hE⟩
  have := block_set (i := 0) (u := v') h2
  simpa using this
set_option maxHeartbeats 1600000 in
set_option maxRecDepth 100000 in
theorem text_calls (M N : Nat) (s : List UInt8 × Int) (t : ByteArray) (w : World) (h : WrS M w N s.1 s.2) (hl : s.1.length ≤ 65536) (ht : t.size ≤ 1048576) :
    Calls Tryz.prog 85 #[.pointer (some ⟨N, 0, none⟩), .string t] w fun x w' => (∃ v, x = .returned v) ∧ WrS M w' N (textW s t).1 (textW s t).2 ∧ Wk M w w' := by
  obtain ⟨b, e⟩ := s
  have h' := h
  obtain ⟨h1, v, h2, h3⟩ := h'
  dsimp only at h h2 h3 hl
  have c0 : w.cell? ⟨N, 0, none⟩ = some v := block_cell h2 (i := 0) rfl
  have c2 : w.cell? ⟨N, 2, none⟩ = some (.bool true) := block_cell h2 (i := 2) rfl
  by_cases hbad : 4096 < t.size
  · have hn : textW (b, e) t = (b, errF e 5) := by unfold textW; rw [if_pos hbad]
    rw [hn]
    have hf := fault_calls M N b e 5 w h
    have HF := Lib.hid hf
    have hbig : (t.size : Int) > 4096 := by omega
    clear hf hn
    go_enter Tryz.func85, Tryz.ntmps85
    go_wp2_with (go_at_call 152; refine (HF.out).mono ?_; rintro x w1 ⟨⟨v1, rfl⟩, hw1, hk1⟩)
    go_end0
    exact ⟨⟨_, rfl⟩, hw1, hk1⟩
  · have hbig : ¬ ((t.size : Int) > 4096) := by omega
    obtain ⟨A, c, rfl, lc, mc, _, _⟩ := Kd.own_row h3
    by_cases hlen : b.length ≤ 16384
    case neg =>
      have hn : textW (b, e) t = (b, e) := by unfold textW; rw [if_neg hbad, if_neg hlen]
      rw [hn]
      have hlI : ¬ ((b.length : Int) ≤ 16384) := by omega
      clear hn
      go_enter Tryz.func85, Tryz.ntmps85
      go_wp2_with fail
      go_end0
      exact ⟨⟨_, rfl⟩, h, wk_refl _ _⟩
    case pos =>
      have hn : textW (b, e) t = (b ++ putB 2 t.size ++ bl t, e) := by unfold textW; rw [if_neg hbad, if_pos hlen]
      rw [hn]
      have hlI : (b.length : Int) ≤ 16384 := by omega
      obtain ⟨i0, hi, hz0, hz1, hz2⟩ := info_parts info_u8
      have hput := fun W => putn_row 2 t.size (by omega) (by omega) (by omega) W
      have HPUT := Lib.hid hput
      have H2 := Lib.hid h2
      have hMw := wrs_size h
      clear hput hn
      go_enter Tryz.func85, Tryz.ntmps85
      go_upto_region 4 with fail
      refine wp_region_any (by kernel_rfl) ?_
      refine wpAny_take0 (by kernel_rfl) (by kernel_rfl) (by kernel_rfl) (fun _ _ _ h => h) (Or.inl ⟨by rfl, fun w => by go_simp; rfl⟩) ?_
      refine wpAny_take (i := 9) (oi := { dst := some 36, op := .move (.tmp 1), type := 9, pos := "pack.go:51", after := #[], guard := none }) rfl (by kernel_rfl) (by kernel_rfl) (by kernel_rfl) (fun _ _ _ h => h) (Or.inl ⟨by rfl, fun w => by go_simp; rfl⟩) ?_
      simp only [Act.put, List.setIfInBounds_toArray, List.set_cons_zero, List.set_cons_succ]
      refine wpAny_invt' [false, true, true, true, true, true, true, true, false, false, false, false, false, false] [8, 10, 11, 12, 13] (by kernel_rfl) (by kernel_rfl) Rb (textG N (.slice A b.length c) t) rb_refl rb_trans ⟨?_, ?_, ?_, ?_, ?_, ?_, ?_, trivial⟩ ?_
      · intro u w1 hR hdep K hK
        rw [if_pos (by rfl)]
        simp only [frameM, frameM_nil, Act.put, List.setIfInBounds_toArray, List.set_cons_zero, List.set_cons_succ, Nat.reduceAdd] at hK ⊢
        clear hdep
        go_simp
        refine hK _ _ (rb_refl _) fun w3 h3 => ?_
        exact rfl
      · intro u w1 hR hdep K hK
        rw [if_pos (by rfl)]
        simp only [frameM, frameM_nil, Act.put, List.setIfInBounds_toArray, List.set_cons_zero, List.set_cons_succ, Nat.reduceAdd] at hK ⊢
        have hu : u 1 = .pointer (some ⟨N, 0, none⟩) := hdep 1 (by kernel_rfl) w1 (rb_refl _)
        simp only [hu] at hK ⊢
        clear hu hdep
        go_simp
        refine hK _ _ (rb_refl _) fun w3 h3 => ?_
        exact rfl
      · intro u w1 hR hdep K hK
        rw [if_pos (by rfl)]
        simp only [frameM, frameM_nil, Act.put, List.setIfInBounds_toArray, List.set_cons_zero, List.set_cons_succ, Nat.reduceAdd] at hK ⊢
        have hu : u 2 = .pointer (some ⟨N, 0, none⟩) := hdep 2 (by kernel_rfl) w1 (rb_refl _)
        simp only [hu] at hK ⊢
        clear hu hdep
        go_simp
        refine hK _ _ (rb_refl _) fun w3 h3 => ?_
        exact rfl
      · intro u w1 hR hdep K hK
        rw [if_pos (by rfl)]
        simp only [frameM, frameM_nil, Act.put, List.setIfInBounds_toArray, List.set_cons_zero, List.set_cons_succ, Nat.reduceAdd] at hK ⊢
        have hu : u 3 = .pointer (some ⟨N, 0, none⟩) := hdep 3 (by kernel_rfl) w1 (rb_refl _)
        have c1 : w1.cell? ⟨N, 0, none⟩ = some (.slice A b.length c) := cell_below hR c0
        simp only [hu] at hK ⊢
        clear hu hdep
        go_simp
        refine hK _ _ (rb_refl _) fun w3 h3 => ?_
        exact rfl
      · intro u w1 hR hdep K hK
        rw [if_pos (by rfl)]
        simp only [frameM, frameM_nil, Act.put, List.setIfInBounds_toArray, List.set_cons_zero, List.set_cons_succ, Nat.reduceAdd] at hK ⊢
        clear hdep
        go_simp
        refine hK _ _ (rb_refl _) fun w3 h3 => ?_
        exact rfl
      · intro u w1 hR hdep K hK
        rw [if_pos (by rfl)]
        simp only [frameM, frameM_nil, Act.put, List.setIfInBounds_toArray, List.set_cons_zero, List.set_cons_succ, Nat.reduceAdd] at hK ⊢
        have hu : u 5 = .string t := hdep 5 (by kernel_rfl) w1 (rb_refl _)
        simp only [hu] at hK ⊢
        clear hu hdep
        go_simp
        refine hK _ _ (rb_refl _) fun w3 h3 => ?_
        exact rfl
      · intro u w1 hR hdep K hK
        rw [if_pos (by rfl)]
        simp only [frameM, frameM_nil, Act.put, List.setIfInBounds_toArray, List.set_cons_zero, List.set_cons_succ, Nat.reduceAdd] at hK ⊢
        have hu : u 6 = .int .i64 (t.size : Nat) := hdep 6 (by kernel_rfl) w1 (rb_refl _)
        simp only [hu] at hK ⊢
        clear hu hdep
        go_simp
        refine (HPUT.out _).mono ?_
        rintro x w2 ⟨⟨g, rfl, row⟩, b2⟩
        refine hK _ _ b2 fun w3 h3 => ?_
        exact ⟨g, rfl, fun B => Kd.row_below h3 (row B)⟩
      · intro u w1 hR hall
        have h4 : u 4 = .slice A b.length c := hall 4 rfl
        obtain ⟨g, h7, row7⟩ : ∃ g, u 7 = .slice (some g) 2 2 ∧ ∀ B, Kd.u8.Row 5 B w1 (some g) (putB 2 t.size) := hall 7 rfl
        have hb1 : Below w.heap.size w w1 := bl_trans (bl_drew (Below.refl _ _)) hR
        have g2 := block_below hb1 H2.out
        have g3 := Kd.own_below h3 hb1
        have hM1 : M ≤ w1.heap.size := Nat.le_trans hMw hb1.size
        have hll : (b ++ putB 2 t.size).length + t.size ≤ 4194304 := by rw [List.length_append, putB_len]; omega
        have HLL := Lib.hid hll
        change wpList _ _ _ (_ :: _ :: _ :: _ :: [_]) _ _
        simp only [frameM, frameM_nil, Act.put, List.setIfInBounds_toArray, List.set_cons_zero, List.set_cons_succ, Nat.reduceAdd, h4, h7]
        clear hall h4 h7 c0 c2 hll
        go_wp2_with (first
          | (at_builtin; refine wpList_append_row _ rfl (.tmp 31) (.tmp 34) 60 rfl Kd.u8 M M 5 i0 _ 1 Tryz.underlying60 hi hz0 hz1 hz2 rfl (by decide) _ b rfl g3 _ _ _ (putB 2 t.size) rfl (putB_len 2 t.size).symm (row7 M) (by rw [putB_len]; omega) (by decide) hM1 (Nat.le_refl _) (by decide) ?_; intro v4 w4 own4 grw4 at4; obtain ⟨G2, HK⟩ := wrs_grow0 g2 g3 (ys := []) (v' := v4) grw4 hM1; obtain ⟨A4, n4, c4, rfl⟩ := k_some (k_own own4))
          | (at_builtin; refine wpList_append_str rfl (.tmp 35) (.tmp 36) 60 9 rfl M M 5 i0 Tryz.underlying60 Tryz.underlying9 hi hz0 hz1 hz2 _ (b ++ putB 2 t.size) rfl own4 t rfl HLL.out (Nat.le_trans hM1 HK.1.size) (Nat.le_refl _) ?_; intro v5 w5 own5 grw5; have kp5 := Kd.own_keeps own4 (E := [210]) grw5 (Nat.le_refl _) (by decide); have G5 := (kp5.2 N ⟨blk_lt G2, .inr ⟨_, _, _, G2, by simp⟩⟩).trans G2; have HK5 : Wk M w4 w5 := ⟨(Below.refl M w4).grown grw5 (Nat.le_trans hM1 HK.1.size) (fun k hk => (Kd.own_block own4 k hk).1), fun E _ h5 => Kd.own_keeps own4 grw5 (Nat.le_refl _) h5⟩; obtain ⟨HG6, HK6⟩ := wrs_put h1 G5 own5; have C0 := block_cell G5 (i := 0) rfl; have F0 : w5.frozen? ⟨N, 0, none⟩ = false := block_free G5; obtain ⟨A5, n5, c5, rfl⟩ := k_some (k_own own5)))
        go_end0
        exact ⟨⟨_, rfl⟩, by rw [← List.append_assoc]; exact HG6, wk_trans (wk_below hb1 hMw) (wk_trans HK (wk_trans HK5 HK6))⟩
end Go.Proofs.YtcbfpdenjdgnlaaGreat
/- Package pack: Done; slices.Clone at octets. No claim of its own; no condition. -/
namespace Go.Proofs.YtcbfpdenjdgnlaaGreat
open Go.ChangeShapes Go.WideShapes Go.ChangeAt Go.RowKit
set_option linter.unusedVariables false
set_option linter.unusedSimpArgs false
set_option maxHeartbeats 800000 in
set_option maxRecDepth 100000 in
theorem clone8_calls (l : List UInt8) (A : Option Addr) (n c : Nat) (w : World) (B : Nat) (hn : n = l.length) (hl : l.length ≤ 2097152) (hr : Kd.u8.Row 5 B w A l) :
    Calls Tryz.prog 157 #[.slice A n c] w fun e w' => (∃ v, e = .returned v ∧ Kd.u8.Own 5 w.heap.size w' w.heap.size v l ∧ (v = .slice none 0 0 ↔ A = none)) ∧ Below w.heap.size w w' := by
  subst hn
  obtain ⟨i0, hi, hz0, hz1, hz2⟩ := info_parts info_u8
  have hnil : ∀ (w : World) (a : Option Addr) (n c n' c' : Nat), (binOp .eql 60 (.slice a n c) (.slice none n' c')).run Tryz.prog w = .ok (.bool a.isNone) w := fun w a n c n' c' => Lib.run_eql_slice_nil w _ _ a n c n' c' Tryz.underlying60
  cases A with
  | none =>
    have hx : l = [] := by
      cases l with
      | nil => rfl
      | cons x l => obtain ⟨ad, h, _⟩ := hr (by simp); cases h
    subst hx
    go_enter Tryz.func157, Tryz.ntmps157
    go_wp2_with fail
    go_ret
    exact ⟨⟨_, rfl, Kd.own_nil _ _ _ _ _, by simp⟩, Below.refl _ _⟩
  | some ad =>
    have qe := bl_alloc (Below.refl w.heap.size w) (.cells #[] 5)
    have rowe := Kd.row_below qe (Kd.row_flat Kd.flat_u8 hr (Nat.le_refl _))
    go_enter Tryz.func157, Tryz.ntmps157
    go_wp2_with (at_builtin; refine wpList_append_row _ rfl (.tmp 5) (.tmp 6) 60 rfl Kd.u8 w.heap.size w.heap.size 5 i0 _ 1 Tryz.underlying60 hi hz0 hz1 hz2 rfl (by decide) (.slice (some ⟨w.heap.size, 0, none⟩) 0 0) [] rfl (Kd.own_empty (Nat.le_refl _)) (some ad) c l.length l rfl rfl rowe (by simp only [List.length_nil]; omega) (by decide) qe.size (Nat.le_refl _) (by decide) ?_; intro v1 w1 own1 grw1 at1; have b1 := Kd.own_step qe (Kd.own_empty (d := Kd.u8) (e := 5) (B := w.heap.size) (Nat.le_refl _)) grw1; rw [List.nil_append] at own1)
    go_ret
    refine ⟨⟨v1, rfl, own1, ?_⟩, b1⟩
    constructor
    · rintro rfl
      rcases at1 with h | h <;> simp [Value.ownBlock] at h
    · intro h; cases h
/-- What a writer gives at the end. -/
def doneW (s : List UInt8 × Int) : List UInt8 × Int := if (s.2 == 0) = true then (if 16384 < s.1.length then ([], 5) else (s.1, 0)) else ([], s.2)
set_option maxHeartbeats 1600000 in
set_option maxRecDepth 100000 in
theorem done_calls (M N : Nat) (s : List UInt8 × Int) (w : World) (h : WrS M w N s.1 s.2) (hl : s.1.length ≤ 65536) :
    Calls Tryz.prog 87 #[.pointer (some ⟨N, 0, none⟩)] w fun x w' => (∃ v, x = .returned (.tuple #[v, .int .i64 (doneW s).2]) ∧ Kd.u8.Own 5 w.heap.size w' w.heap.size v (doneW s).1) ∧ Below w.heap.size w w' := by
  obtain ⟨b, e⟩ := s
  have h' := h
  obtain ⟨h1, v, h2, h3⟩ := h'
  dsimp only at h h2 h3 hl
  have c0 : w.cell? ⟨N, 0, none⟩ = some v := block_cell h2 (i := 0) rfl
  have c1 : w.cell? ⟨N, 1, none⟩ = some (.int .i64 e) := block_cell h2 (i := 1) rfl
  have c2 : w.cell? ⟨N, 2, none⟩ = some (.bool true) := block_cell h2 (i := 2) rfl
  obtain ⟨A, c, rfl, lc, mc, _, _⟩ := Kd.own_row h3
  have rb := own_rows Kd.flat_u8 h3 0
  by_cases h0 : (e == 0) = true
  case neg =>
    have h0' : (e == 0) = false := by simpa using h0
    have hn0 : (e != 0) = true := by simp only [bne, h0', Bool.not_false]
    have hn : doneW (b, e) = ([], e) := by unfold doneW; rw [if_neg h0]
    rw [hn]
    clear hn h0
    go_enter Tryz.func87, Tryz.ntmps87
    go_upto_region 4 with fail
    go_quiet (fail)
    go_wp2_with fail
    go_ret2
    exact ⟨⟨_, rfl, Kd.own_nil _ _ _ _ _⟩, bl_drewN (Below.refl _ _) _⟩
  case pos =>
    have he : e = 0 := by simpa using h0
    subst he
    by_cases hlen : 16384 < b.length
    · have hn : doneW (b, 0) = ([], 5) := by unfold doneW; rw [if_pos h0, if_pos hlen]
      rw [hn]
      have hlI : (b.length : Int) > 16384 := by omega
      clear hn
      go_enter Tryz.func87, Tryz.ntmps87
      go_wp2_with fail
      go_ret2
      exact ⟨⟨_, rfl, Kd.own_nil _ _ _ _ _⟩, Below.refl _ _⟩
    · have hn : doneW (b, 0) = (b, 0) := by unfold doneW; rw [if_pos h0, if_neg hlen]
      rw [hn]
      have hlI : ¬ ((b.length : Int) > 16384) := by omega
      have hcl := clone8_calls b A b.length c w 0 rfl (by omega) rb
      have HCL := Lib.hid hcl
      clear hn hcl
      go_enter Tryz.func87, Tryz.ntmps87
      go_wp2_with (go_at_call 157; refine (HCL.out).mono ?_; rintro x w1 ⟨⟨v1, rfl, own1, _⟩, b1⟩)
      go_ret2
      exact ⟨⟨_, rfl, own1⟩, b1⟩
end Go.Proofs.YtcbfpdenjdgnlaaGreat
