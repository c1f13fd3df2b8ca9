/- Package mootlaw09: the walk of CertRanks. No claim of its own; no condition. -/
import Derived.Test.YtglneailkgminaaCertA
namespace Go.Proofs.Ytglneailkgminaa
open Go.ChangeShapes Go.WideShapes Go.ChangeAt Go.RowKit Go.Sort
set_option linter.unusedVariables false
set_option linter.unusedSimpArgs false
theorem higher_trans {a b c : Mark} (h : higherF a b = true) (k : higherF b c = true) : higherF a c = true := by
  simp only [higherF, Bool.or_eq_true, Bool.and_eq_true, decide_eq_true_eq] at *
  omega
set_option maxHeartbeats 6400000 in
set_option maxRecDepth 100000 in
theorem certranks_walk (a b c : Mark) (w : World) :
    Calls Try.prog 4 #[.agg #[.int .i64 a.view, .int .i64 a.height, .string a.block], .agg #[.int .i64 b.view, .int .i64 b.height, .string b.block], .agg #[.int .i64 c.view, .int .i64 c.height, .string c.block]] w fun e w' => e = .returned (.bool true) ∧ Below w.heap.size w w' := by
  have q := bl_alloc (bl_alloc (bl_alloc (Below.refl w.heap.size w) (.cells #[.int .i64 a.view, .int .i64 a.height, .string a.block] 26)) (.cells #[.int .i64 b.view, .int .i64 b.height, .string b.block] 26)) (.cells #[.int .i64 c.view, .int .i64 c.height, .string c.block] 26)
  have a0 := alloc_old (alloc_old (alloc_new w (.cells #[.int .i64 a.view, .int .i64 a.height, .string a.block] 26)) (.cells #[.int .i64 b.view, .int .i64 b.height, .string b.block] 26)) (.cells #[.int .i64 c.view, .int .i64 c.height, .string c.block] 26)
  have b0 := alloc_old (alloc_new (w.alloc (.cells #[.int .i64 a.view, .int .i64 a.height, .string a.block] 26)) (.cells #[.int .i64 b.view, .int .i64 b.height, .string b.block] 26)) (.cells #[.int .i64 c.view, .int .i64 c.height, .string c.block] 26)
  have c0 := alloc_new ((w.alloc (.cells #[.int .i64 a.view, .int .i64 a.height, .string a.block] 26)).alloc (.cells #[.int .i64 b.view, .int .i64 b.height, .string b.block] 26)) (.cells #[.int .i64 c.view, .int .i64 c.height, .string c.block] 26)
  have s1 : (w.alloc (.cells #[.int .i64 a.view, .int .i64 a.height, .string a.block] 26)).heap.size = w.heap.size + 1 := by simp
  have s2 : ((w.alloc (.cells #[.int .i64 a.view, .int .i64 a.height, .string a.block] 26)).alloc (.cells #[.int .i64 b.view, .int .i64 b.height, .string b.block] 26)).heap.size = w.heap.size + 1 + 1 := by simp
  rw [s1] at b0
  rw [s2] at c0
  clear s1 s2
  have hcase : (∃ x y z, higherF a b = x ∧ higherF b a = y ∧ ((x = true ∧ y = false ∧ z = false) ∨ (x = false ∧ y = true ∧ z = false) ∨ (x = false ∧ y = false ∧ z = true)) ∧
      (((a.view == b.view) = false ∧ z = false) ∨ ((a.view == b.view) = true ∧ (a.height == b.height) = z))) := by
    refine ⟨_, _, (a.view == b.view) && (a.height == b.height), rfl, rfl, ?_, ?_⟩
    · unfold higherF
      rcases Int.lt_trichotomy a.view b.view with h | h | h
      · refine .inr (.inl ⟨?_, ?_, ?_⟩) <;> simp <;> omega
      · rcases Int.lt_trichotomy a.height b.height with k | k | k
        · refine .inr (.inl ⟨?_, ?_, ?_⟩) <;> simp <;> omega
        · refine .inr (.inr ⟨?_, ?_, ?_⟩) <;> simp <;> omega
        · refine .inl ⟨?_, ?_, ?_⟩ <;> simp <;> omega
      · refine .inl ⟨?_, ?_, ?_⟩ <;> simp <;> omega
    · cases h : a.view == b.view
      · exact .inl ⟨rfl, rfl⟩
      · exact .inr ⟨rfl, by simp⟩
  have htr : ∀ t, higherF b c = t → t = true → higherF a b = true → higherF a c = true := fun t h1 h2 h3 => higher_trans h3 (by rw [h1, h2])
  obtain ⟨x, y, z, hx, hy, hxyz, hz⟩ := hcase
  obtain ⟨t, ht⟩ : ∃ t, higherF b c = t := ⟨_, rfl⟩
  have htr2 := htr t ht
  have h1 := fun W => higher_calls a b W
  have h2 := fun W => higher_calls b a W
  have h3 := fun W => higher_calls b c W
  simp only [hx] at h1 htr2
  simp only [hy] at h2
  simp only [ht] at h3
  have H1 := Lib.hid h1
  have H2 := Lib.hid h2
  have H3 := Lib.hid h3
  have HT := Lib.hid htr2
  clear htr htr2 h1 h2 h3 hx hy ht
  rcases hxyz with ⟨rfl, rfl, rfl⟩ | ⟨rfl, rfl, rfl⟩ | ⟨rfl, rfl, rfl⟩
  all_goals
    rcases hz with ⟨d1, dz⟩ | ⟨d1, d2⟩
    all_goals try (cases dz; done)
    all_goals
      cases t
      all_goals
        first
          | (have h4 : ∀ W, Calls Try.prog 16 #[.agg #[.int .i64 a.view, .int .i64 a.height, .string a.block], .agg #[.int .i64 c.view, .int .i64 c.height, .string c.block]] W fun e w' => e = .returned (.bool true) ∧ Gd W w' := fun W => (by have := higher_calls a c W; rw [HT.out rfl rfl] at this; exact this)
             have H4 := Lib.hid h4
             clear h4)
          | skip
        clear HT
        go_enter Try.func4, Try.ntmps4
        go_upto_region 1 with fail
        generalize ((w.alloc (.cells #[.int .i64 a.view, .int .i64 a.height, .string a.block] 26)).alloc (.cells #[.int .i64 b.view, .int .i64 b.height, .string b.block] 26)).alloc (.cells #[.int .i64 c.view, .int .i64 c.height, .string c.block] 26) = V at *
        go_upto_region 3 with (go_at_call 15; refine (alive09_calls _).mono ?_; rintro e w1 ⟨rfl, b1⟩)
        have A := block_below b1 a0
        have B := block_below b1 b0
        have C := block_below b1 c0
        have qw := bl_trans q b1
        clear a0 b0 c0 q b1
        have k0 := held_cell (block_cell A (i := 0) rfl)
        have k1 := held_cell (block_cell A (i := 1) rfl)
        have k2 := held_cell (block_cell A (i := 2) rfl)
        have l0 := held_cell (block_cell B (i := 0) rfl)
        have l1 := held_cell (block_cell B (i := 1) rfl)
        have l2 := held_cell (block_cell B (i := 2) rfl)
        go_region_held3 (fun w' => Below w1.heap.size w1 w') (repeat (first | exact Below.refl _ _ | assumption | apply bl_drew | apply bl_alloc | (refine bl_trans ?_ (by assumption)))) ((go_at_call 16; first
          | (with_reducible refine (H1.out _).mono ?_; rintro e w2 ⟨rfl, g2⟩; have hb := gd_below g2)
          | (with_reducible refine (H2.out _).mono ?_; rintro e w3 ⟨rfl, g3⟩; have hb := gd_below g3)))
        all_goals
          have b3 : Below w1.heap.size w1 w3 := by assumption
          have qz := bl_trans qw b3
          have A3 := block_below b3 A
          have B3 := block_below b3 B
          have C3 := block_below b3 C
          clear k0 k1 k2 l0 l1 l2 A B C qw
          have k0 := block_cell A3 (i := 0) rfl
          have k1 := block_cell A3 (i := 1) rfl
          have k2 := block_cell A3 (i := 2) rfl
          have l0 := block_cell B3 (i := 0) rfl
          have l1 := block_cell B3 (i := 1) rfl
          have l2 := block_cell B3 (i := 2) rfl
          have m0 := block_cell C3 (i := 0) rfl
          have m1 := block_cell C3 (i := 1) rfl
          have m2 := block_cell C3 (i := 2) rfl
          first
            | (go_wp2_with (go_at_call 16; with_reducible refine (H3.out _).mono ?_; rintro e w4 ⟨rfl, g4⟩; have b4 := gd_below g4; have p0 := cell_below b4 k0; have p1 := cell_below b4 k1; have p2 := cell_below b4 k2; have q0 := cell_below b4 m0; have q1 := cell_below b4 m1; have q2 := cell_below b4 m2)
               go_ret
               first | exact ⟨rfl, qz⟩ | exact ⟨rfl, bl_trans qz b4⟩)
            | (go_wp2_with (go_at_call 16; first
                 | (with_reducible refine (H3.out _).mono ?_; rintro e w4 ⟨rfl, g4⟩; have b4 := gd_below g4; have p0 := cell_below b4 k0; have p1 := cell_below b4 k1; have p2 := cell_below b4 k2; have q0 := cell_below b4 m0; have q1 := cell_below b4 m1; have q2 := cell_below b4 m2)
                 | (with_reducible refine (H4.out _).mono ?_; rintro e w5 ⟨rfl, g5⟩; have b5 := gd_below g5))
               go_ret
               exact ⟨rfl, bl_trans qz (bl_trans b4 b5)⟩)
end Go.Proofs.Ytglneailkgminaa
