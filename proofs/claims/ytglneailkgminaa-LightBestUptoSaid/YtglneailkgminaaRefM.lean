/- Package mootref06: Cert. No claim of its own; no condition. -/
import Derived.Test.YtglneailkgminaaRefL
import Derived.Test.YtglneailkgminaaRefJ
import Derived.Test.YtglneailkgminaaCertD
import Derived.Test.YtglneailkgminaaInvG
namespace Go.Proofs.Ytglneailkgminaa
open Go.ChangeShapes Go.WideShapes Go.ChangeAt Go.RowKit
set_option linter.unusedVariables false
set_option linter.unusedSimpArgs false
def rcN (G c : Nat) (A : Option Addr) (m : Mark) (z : ByteArray) (b : Bool) : Nat → Value → World → Prop
  | 0, y, _ => y = .pointer (some ⟨G, 3, none⟩)
  | 1, y, _ => y = .slice A 0 c
  | 2, y, _ => y = .int .i64 0
  | 3, y, _ => y = .bool true
  | 4, y, _ => y = .bool true
  | 5, y, _ => y = .pointer (some ⟨G, 0, none⟩)
  | 6, y, _ => y = .int .i64 m.view
  | 7, y, _ => y = .bool true
  | 8, y, _ => y = .bool true
  | 9, y, _ => y = .bool true
  | 10, y, _ => y = .pointer (some ⟨G, 1, none⟩)
  | 11, y, _ => y = .int .i64 m.height
  | 12, y, _ => y = .bool true
  | 13, y, _ => y = .bool true
  | 14, y, _ => y = .bool true
  | 15, y, _ => y = .pointer (some ⟨G, 2, none⟩)
  | 16, y, _ => y = .string m.block
  | 17, y, _ => y = .string z
  | 18, y, _ => y = .bool b
  | 19, y, _ => y = .bool b
  | _, _, _ => True
set_option maxHeartbeats 6400000 in
set_option maxRecDepth 100000 in
theorem refcert_nil (m : Mark) (A Ar : Option Addr) (c nr cr : Nat) (q : Int) (w : World) :
    Calls Try.prog 24 #[.agg #[.int .i64 m.view, .int .i64 m.height, .string m.block, .slice A 0 c], .slice Ar nr cr, .int .i64 q] w fun e w' => e = .returned (.int .i64 (if m = firstM then 0 else 41)) ∧ Below w.heap.size w w' := by
  have q0 := bl_alloc (Below.refl w.heap.size w) (.cells #[.int .i64 m.view, .int .i64 m.height, .string m.block, .slice A 0 c] 35)
  have a0 := alloc_new w (.cells #[.int .i64 m.view, .int .i64 m.height, .string m.block, .slice A 0 c] 35)
  obtain ⟨z, hz⟩ : ∃ z, z = firstB := ⟨_, rfl⟩
  have hgn : ∀ W, Calls Try.prog 56 #[] W fun e w' => e = .returned (.string z) ∧ Below W.heap.size W w' := fun W => by rw [hz]; exact genesis_calls W
  have HGN := Lib.hid hgn
  have HZ := Lib.hid hz
  obtain ⟨res, hres⟩ : ∃ r : Int, (if m = firstM then 0 else 41) = r := ⟨_, rfl⟩
  rw [hres]
  have HRES := Lib.hid hres
  have hm : m = firstM ↔ (m.view = 0 ∧ m.height = 0 ∧ m.block = z) := by
    rw [hz]
    show m = ⟨0, 0, firstB⟩ ↔ _
    cases m
    simp
  have HM := Lib.hid hm
  clear hz hgn hres hm
  obtain ⟨G, hG⟩ : ∃ G, w.heap.size = G := ⟨_, rfl⟩
  have hq1 : q < 1 ∨ (¬ q < 1 ∧ ((0 : Int) != q) = true) := by
    rcases Int.lt_or_le q 1 with h | h
    · exact .inl h
    · right; exact ⟨by omega, by rw [bne_iff_ne]; omega⟩
  by_cases hall : m.view = 0 ∧ m.height = 0
  case pos =>
    have HV0 := Lib.hid (show (m.view == 0) = true by rw [hall.1]; rfl)
    have HH0 := Lib.hid (show (m.height == 0) = true by rw [hall.2]; rfl)
    obtain ⟨b, hb⟩ : ∃ b, (m.block.toList == z.toList) = b := ⟨_, rfl⟩
    have HB := Lib.hid hb
    have hr : res = if b = true then 0 else 41 := by
      have h1 := HRES.out
      have h2 := HM.out
      rw [bytes_beq] at hb
      rw [← h1, ← hb]
      by_cases h3 : m.block = z
      · rw [if_pos (h2.2 ⟨hall.1, hall.2, h3⟩), if_pos (by simp [h3])]
      · rw [if_neg (fun h => h3 (h2.1 h).2.2), if_neg (by simp [h3])]
    have HR2 := Lib.hid hr
    clear hb hall hr
    go_enter Try.func24, Try.ntmps24
    go_upto_region 1 with fail
    generalize w.alloc (.cells #[.int .i64 m.view, .int .i64 m.height, .string m.block, .slice A 0 c] 35) = V at *
    simp only [hG] at a0 ⊢
    clear hG
    have HG := Lib.hid a0
    clear a0
    refine wp_region_inv (by kernel_rfl) (by kernel_rfl) Rb (rcN G c A m z b) rb_refl rb_trans ⟨?_, ?_, ?_, ?_, ?_, ?_, ?_, ?_, ?_, ?_, ?_, ?_, ?_, ?_, ?_, ?_, ?_, ?_, ?_, ?_, trivial⟩ ?_
    · intro u w1 hR hdep K hK
      rw [if_pos (by rfl)]
      simp only [frameF, Act.put, List.setIfInBounds_toArray, List.set_cons_zero, List.set_cons_succ, Nat.reduceAdd] at hK ⊢
      clear hdep
      go_simp
      refine hK _ _ (rb_refl _) fun w3 h3 => ?_
      exact rfl
    · intro u w1 hR hdep K hK
      rw [if_pos (by rfl)]
      simp only [frameF, Act.put, List.setIfInBounds_toArray, List.set_cons_zero, List.set_cons_succ, Nat.reduceAdd] at hK ⊢
      have u0 : u 0 = .pointer (some ⟨G, 3, none⟩) := hdep 0 (by kernel_rfl) w1 (rb_refl _)
      have cg := block_cell (block_below hR HG.out) (i := 3) rfl
      simp only [u0] at hK ⊢
      clear u0
      clear hdep
      go_simp
      refine hK _ _ (rb_refl _) fun w3 h3 => ?_
      exact rfl
    · intro u w1 hR hdep K hK
      rw [if_pos (by rfl)]
      simp only [frameF, Act.put, List.setIfInBounds_toArray, List.set_cons_zero, List.set_cons_succ, Nat.reduceAdd] at hK ⊢
      have u1 : u 1 = .slice A 0 c := hdep 1 (by kernel_rfl) w1 (rb_refl _)
      simp only [u1] at hK ⊢
      clear u1
      clear hdep
      go_simp
      refine hK _ _ (rb_refl _) fun w3 h3 => ?_
      exact rfl
    · intro u w1 hR hdep K hK
      rw [if_pos (by rfl)]
      simp only [frameF, Act.put, List.setIfInBounds_toArray, List.set_cons_zero, List.set_cons_succ, Nat.reduceAdd] at hK ⊢
      have u2 : u 2 = .int .i64 0 := hdep 2 (by kernel_rfl) w1 (rb_refl _)
      simp only [u2] at hK ⊢
      clear u2
      clear hdep
      go_simp
      refine hK _ _ (rb_refl _) fun w3 h3 => ?_
      exact rfl
    · intro u w1 hR hdep K hK
      rw [if_pos (by rfl)]
      simp only [frameF, Act.put, List.setIfInBounds_toArray, List.set_cons_zero, List.set_cons_succ, Nat.reduceAdd] at hK ⊢
      have u3 : u 3 = .bool true := hdep 3 (by kernel_rfl) w1 (rb_refl _)
      simp only [u3] at hK ⊢
      clear u3
      clear hdep
      go_simp
      refine hK _ _ (rb_refl _) fun w3 h3 => ?_
      exact rfl
    · intro u w1 hR hdep K hK
      have ug : u 4 = .bool true := hdep 4 (by kernel_rfl) w1 (rb_refl _)
      rw [if_pos (by simp [Region.wanted, yielded, frameF, Act.put, ug])]
      simp only [frameF, Act.put, List.setIfInBounds_toArray, List.set_cons_zero, List.set_cons_succ, Nat.reduceAdd] at hK ⊢
      clear ug
      clear hdep
      go_simp
      refine hK _ _ (rb_refl _) fun w3 h3 => ?_
      exact rfl
    · intro u w1 hR hdep K hK
      have ug : u 4 = .bool true := hdep 4 (by kernel_rfl) w1 (rb_refl _)
      rw [if_pos (by simp [Region.wanted, yielded, frameF, Act.put, ug])]
      simp only [frameF, Act.put, List.setIfInBounds_toArray, List.set_cons_zero, List.set_cons_succ, Nat.reduceAdd] at hK ⊢
      have u5 : u 5 = .pointer (some ⟨G, 0, none⟩) := hdep 5 (by kernel_rfl) w1 (rb_refl _)
      have cg := block_cell (block_below hR HG.out) (i := 0) rfl
      simp only [u5, ug] at hK ⊢
      clear u5 ug
      clear hdep
      go_simp
      refine hK _ _ (rb_refl _) fun w3 h3 => ?_
      exact rfl
    · intro u w1 hR hdep K hK
      have ug : u 4 = .bool true := hdep 4 (by kernel_rfl) w1 (rb_refl _)
      rw [if_pos (by simp [Region.wanted, yielded, frameF, Act.put, ug])]
      simp only [frameF, Act.put, List.setIfInBounds_toArray, List.set_cons_zero, List.set_cons_succ, Nat.reduceAdd] at hK ⊢
      have u6 : u 6 = .int .i64 m.view := hdep 6 (by kernel_rfl) w1 (rb_refl _)
      have hv := HV0.out
      simp only [u6, ug] at hK ⊢
      clear u6 ug
      clear hdep
      go_simp
      refine hK _ _ (rb_refl _) fun w3 h3 => ?_
      exact rfl
    · intro u w1 hR hdep K hK
      rw [if_pos (by rfl)]
      simp only [frameF, Act.put, List.setIfInBounds_toArray, List.set_cons_zero, List.set_cons_succ, Nat.reduceAdd] at hK ⊢
      have u4 : u 4 = .bool true := hdep 4 (by kernel_rfl) w1 (rb_refl _)
      have u7 : u 7 = .bool true := hdep 7 (by kernel_rfl) w1 (rb_refl _)
      simp only [u4, u7] at hK ⊢
      clear u4 u7
      clear hdep
      go_simp
      refine hK _ _ (rb_refl _) fun w3 h3 => ?_
      exact rfl
    · intro u w1 hR hdep K hK
      rw [if_pos (by rfl)]
      simp only [frameF, Act.put, List.setIfInBounds_toArray, List.set_cons_zero, List.set_cons_succ, Nat.reduceAdd] at hK ⊢
      have u8 : u 8 = .bool true := hdep 8 (by kernel_rfl) w1 (rb_refl _)
      simp only [u8] at hK ⊢
      clear u8
      clear hdep
      go_simp
      refine hK _ _ (rb_refl _) fun w3 h3 => ?_
      exact rfl
    · intro u w1 hR hdep K hK
      have ug : u 9 = .bool true := hdep 9 (by kernel_rfl) w1 (rb_refl _)
      rw [if_pos (by simp [Region.wanted, yielded, frameF, Act.put, ug])]
      simp only [frameF, Act.put, List.setIfInBounds_toArray, List.set_cons_zero, List.set_cons_succ, Nat.reduceAdd] at hK ⊢
      clear ug
      clear hdep
      go_simp
      refine hK _ _ (rb_refl _) fun w3 h3 => ?_
      exact rfl
    · intro u w1 hR hdep K hK
      have ug : u 9 = .bool true := hdep 9 (by kernel_rfl) w1 (rb_refl _)
      rw [if_pos (by simp [Region.wanted, yielded, frameF, Act.put, ug])]
      simp only [frameF, Act.put, List.setIfInBounds_toArray, List.set_cons_zero, List.set_cons_succ, Nat.reduceAdd] at hK ⊢
      have u10 : u 10 = .pointer (some ⟨G, 1, none⟩) := hdep 10 (by kernel_rfl) w1 (rb_refl _)
      have cg := block_cell (block_below hR HG.out) (i := 1) rfl
      simp only [u10, ug] at hK ⊢
      clear u10 ug
      clear hdep
      go_simp
      refine hK _ _ (rb_refl _) fun w3 h3 => ?_
      exact rfl
    · intro u w1 hR hdep K hK
      have ug : u 9 = .bool true := hdep 9 (by kernel_rfl) w1 (rb_refl _)
      rw [if_pos (by simp [Region.wanted, yielded, frameF, Act.put, ug])]
      simp only [frameF, Act.put, List.setIfInBounds_toArray, List.set_cons_zero, List.set_cons_succ, Nat.reduceAdd] at hK ⊢
      have u11 : u 11 = .int .i64 m.height := hdep 11 (by kernel_rfl) w1 (rb_refl _)
      have hh := HH0.out
      simp only [u11, ug] at hK ⊢
      clear u11 ug
      clear hdep
      go_simp
      refine hK _ _ (rb_refl _) fun w3 h3 => ?_
      exact rfl
    · intro u w1 hR hdep K hK
      rw [if_pos (by rfl)]
      simp only [frameF, Act.put, List.setIfInBounds_toArray, List.set_cons_zero, List.set_cons_succ, Nat.reduceAdd] at hK ⊢
      have u9 : u 9 = .bool true := hdep 9 (by kernel_rfl) w1 (rb_refl _)
      have u12 : u 12 = .bool true := hdep 12 (by kernel_rfl) w1 (rb_refl _)
      simp only [u9, u12] at hK ⊢
      clear u9 u12
      clear hdep
      go_simp
      refine hK _ _ (rb_refl _) fun w3 h3 => ?_
      exact rfl
    · intro u w1 hR hdep K hK
      rw [if_pos (by rfl)]
      simp only [frameF, Act.put, List.setIfInBounds_toArray, List.set_cons_zero, List.set_cons_succ, Nat.reduceAdd] at hK ⊢
      have u13 : u 13 = .bool true := hdep 13 (by kernel_rfl) w1 (rb_refl _)
      simp only [u13] at hK ⊢
      clear u13
      clear hdep
      go_simp
      refine hK _ _ (rb_refl _) fun w3 h3 => ?_
      exact rfl
    · intro u w1 hR hdep K hK
      have ug : u 14 = .bool true := hdep 14 (by kernel_rfl) w1 (rb_refl _)
      rw [if_pos (by simp [Region.wanted, yielded, frameF, Act.put, ug])]
      simp only [frameF, Act.put, List.setIfInBounds_toArray, List.set_cons_zero, List.set_cons_succ, Nat.reduceAdd] at hK ⊢
      clear ug
      clear hdep
      go_simp
      refine hK _ _ (rb_refl _) fun w3 h3 => ?_
      exact rfl
    · intro u w1 hR hdep K hK
      have ug : u 14 = .bool true := hdep 14 (by kernel_rfl) w1 (rb_refl _)
      rw [if_pos (by simp [Region.wanted, yielded, frameF, Act.put, ug])]
      simp only [frameF, Act.put, List.setIfInBounds_toArray, List.set_cons_zero, List.set_cons_succ, Nat.reduceAdd] at hK ⊢
      have u15 : u 15 = .pointer (some ⟨G, 2, none⟩) := hdep 15 (by kernel_rfl) w1 (rb_refl _)
      have cg := block_cell (block_below hR HG.out) (i := 2) rfl
      simp only [u15, ug] at hK ⊢
      clear u15 ug
      clear hdep
      go_simp
      refine hK _ _ (rb_refl _) fun w3 h3 => ?_
      exact rfl
    · intro u w1 hR hdep K hK
      have ug : u 14 = .bool true := hdep 14 (by kernel_rfl) w1 (rb_refl _)
      rw [if_pos (by simp [Region.wanted, yielded, frameF, Act.put, ug])]
      simp only [frameF, Act.put, List.setIfInBounds_toArray, List.set_cons_zero, List.set_cons_succ, Nat.reduceAdd] at hK ⊢
      clear ug
      clear hdep
      go_simp
      refine ((HGN.out w1)).mono ?_
      rintro x w2 ⟨rfl, b2⟩
      refine hK _ _ b2 fun w3 h3 => ?_
      exact rfl
    · intro u w1 hR hdep K hK
      have ug : u 14 = .bool true := hdep 14 (by kernel_rfl) w1 (rb_refl _)
      rw [if_pos (by simp [Region.wanted, yielded, frameF, Act.put, ug])]
      simp only [frameF, Act.put, List.setIfInBounds_toArray, List.set_cons_zero, List.set_cons_succ, Nat.reduceAdd] at hK ⊢
      have u16 : u 16 = .string m.block := hdep 16 (by kernel_rfl) w1 (rb_refl _)
      have u17 : u 17 = .string z := hdep 17 (by kernel_rfl) w1 (rb_refl _)
      have hb := HB.out
      simp only [u16, u17, ug] at hK ⊢
      clear u16 u17 ug
      clear hdep
      go_simp
      refine hK _ _ (rb_refl _) fun w3 h3 => ?_
      exact rfl
    · intro u w1 hR hdep K hK
      rw [if_pos (by rfl)]
      simp only [frameF, Act.put, List.setIfInBounds_toArray, List.set_cons_zero, List.set_cons_succ, Nat.reduceAdd] at hK ⊢
      have u14 : u 14 = .bool true := hdep 14 (by kernel_rfl) w1 (rb_refl _)
      have u18 : u 18 = .bool b := hdep 18 (by kernel_rfl) w1 (rb_refl _)
      simp only [u14, u18] at hK ⊢
      clear u14 u18
      clear hdep
      go_simp
      refine hK _ _ (rb_refl _) fun w3 h3 => ?_
      exact rfl
    · intro u w' hR hall
      have h19 : u 19 = .bool b := hall 19 (by decide)
      have bw' := bl_trans (bl_drew q0) hR
      have g := block_below hR HG.out
      have r3 := block_cell g (i := 3) rfl
      clear hall
      simp only [frameF, Act.put, List.setIfInBounds_toArray, List.set_cons_zero, List.set_cons_succ, Nat.reduceAdd, h19]
      clear h19 g
      cases b
      · rcases hq1 with hx | ⟨hx, hy⟩
        all_goals
          go_wp2_with fail
          go_ret
          exact ⟨by rw [HR2.out]; rfl, bw'⟩
      · clear hq1
        go_wp2_with fail
        go_ret
        exact ⟨by rw [HR2.out]; rfl, bw'⟩
  case neg =>
    have hr : res = 41 := by
      rw [← HRES.out, if_neg]
      intro h
      have := HM.out.1 h
      exact hall ⟨this.1, this.2.1⟩
    have HR2 := Lib.hid hr
    have hcs : (m.view == 0) = false ∨ ((m.view == 0) = true ∧ (m.height == 0) = false) := by
      by_cases h1 : m.view = 0
      · right; exact ⟨by rw [h1]; rfl, by rw [beq_eq_false_iff_ne]; exact fun h2 => hall ⟨h1, h2⟩⟩
      · left; rw [beq_eq_false_iff_ne]; exact h1
    clear hall hr HM HRES
    rcases hcs with hd | ⟨hd, he⟩
    all_goals
      go_enter Try.func24, Try.ntmps24
      go_upto_region 1 with fail
      generalize w.alloc (.cells #[.int .i64 m.view, .int .i64 m.height, .string m.block, .slice A 0 c] 35) = V at *
      simp only [hG] at a0 ⊢
      clear hG
      have r0 := block_cell a0 (i := 0) rfl
      have r1 := block_cell a0 (i := 1) rfl
      have r2 := block_cell a0 (i := 2) rfl
      have r3 := block_cell a0 (i := 3) rfl
      go_quiet (fail)
      rcases hq1 with hx | ⟨hx, hy⟩
      all_goals
        go_wp2_with fail
        go_ret
        exact ⟨by rw [HR2.out]; rfl, bl_drewN q0 _⟩
def rcA (G V9 i n' nr c cr : Nat) (ad : Addr) (Ar : Option Addr) (v : Vote) (m : Mark) (ps : Int) (q : Bool) : Nat → Value → World → Prop
  | 0, y, _ => y = .pointer (some ⟨V9, 0, none⟩)
  | 1, y, _ => y = .int .i64 v.kind
  | 2, y, _ => y = .bool false
  | 3, y, _ => y = .bool false
  | 4, y, _ => y = .pointer (some ⟨V9, 1, none⟩)
  | 5, y, _ => y = .int .i64 v.view
  | 6, y, _ => y = .pointer (some ⟨G, 0, none⟩)
  | 7, y, _ => y = .int .i64 m.view
  | 8, y, _ => y = .bool false
  | 9, y, _ => y = .bool false
  | 10, y, _ => y = .bool false
  | 11, y, _ => y = .pointer (some ⟨V9, 2, none⟩)
  | 12, y, _ => y = .int .i64 v.height
  | 13, y, _ => y = .pointer (some ⟨G, 1, none⟩)
  | 14, y, _ => y = .int .i64 m.height
  | 15, y, _ => y = .bool false
  | 16, y, _ => y = .bool false
  | 17, y, _ => y = .bool false
  | 18, y, _ => y = .pointer (some ⟨V9, 3, none⟩)
  | 19, y, _ => y = .string v.block
  | 20, y, _ => y = .pointer (some ⟨G, 2, none⟩)
  | 21, y, _ => y = .string m.block
  | 22, y, _ => y = .bool false
  | 23, y, _ => y = .bool false
  | 24, y, _ => y = .bool false
  | 25, y, _ => y = .agg (vcs v)
  | 26, y, _ => y = .slice Ar nr cr
  | 27, y, _ => y = .bool false
  | 28, y, _ => y = .bool true
  | 29, y, _ => y = .bool true
  | 30, y, _ => y = .bool true
  | 31, y, _ => y = undef
  | 32, y, _ => y = undef
  | 33, y, _ => y = undef
  | 34, y, _ => y = undef
  | 35, y, _ => y = undef
  | 36, y, _ => y = undef
  | 37, y, _ => y = undef
  | 38, y, _ => y = undef
  | 39, y, _ => y = undef
  | 40, y, _ => y = undef
  | 41, y, _ => y = undef
  | 42, y, _ => y = undef
  | 43, y, _ => y = undef
  | 44, y, _ => y = undef
  | 45, y, _ => y = .bool true
  | _, _, _ => True
def rcB (G V9 i n' nr c cr : Nat) (ad : Addr) (Ar : Option Addr) (v : Vote) (m : Mark) (ps : Int) (q : Bool) : Nat → Value → World → Prop
  | 0, y, _ => y = .pointer (some ⟨V9, 0, none⟩)
  | 1, y, _ => y = .int .i64 v.kind
  | 2, y, _ => y = .bool false
  | 3, y, _ => y = .bool false
  | 4, y, _ => y = .pointer (some ⟨V9, 1, none⟩)
  | 5, y, _ => y = .int .i64 v.view
  | 6, y, _ => y = .pointer (some ⟨G, 0, none⟩)
  | 7, y, _ => y = .int .i64 m.view
  | 8, y, _ => y = .bool false
  | 9, y, _ => y = .bool false
  | 10, y, _ => y = .bool false
  | 11, y, _ => y = .pointer (some ⟨V9, 2, none⟩)
  | 12, y, _ => y = .int .i64 v.height
  | 13, y, _ => y = .pointer (some ⟨G, 1, none⟩)
  | 14, y, _ => y = .int .i64 m.height
  | 15, y, _ => y = .bool false
  | 16, y, _ => y = .bool false
  | 17, y, _ => y = .bool false
  | 18, y, _ => y = .pointer (some ⟨V9, 3, none⟩)
  | 19, y, _ => y = .string v.block
  | 20, y, _ => y = .pointer (some ⟨G, 2, none⟩)
  | 21, y, _ => y = .string m.block
  | 22, y, _ => y = .bool false
  | 23, y, _ => y = .bool false
  | 24, y, _ => y = .bool false
  | 25, y, _ => y = .agg (vcs v)
  | 26, y, _ => y = .slice Ar nr cr
  | 27, y, _ => y = .bool true
  | 28, y, _ => y = .bool false
  | 29, y, _ => y = .bool false
  | 30, y, _ => y = .bool false
  | 31, y, _ => y = .int .i64 (i : Nat)
  | 32, y, _ => y = .bool false
  | 33, y, _ => y = .bool false
  | 34, y, _ => y = undef
  | 35, y, _ => y = undef
  | 36, y, _ => y = undef
  | 37, y, _ => y = undef
  | 38, y, _ => y = undef
  | 39, y, _ => y = undef
  | 40, y, _ => y = undef
  | 41, y, _ => y = undef
  | 42, y, _ => y = undef
  | 43, y, _ => y = undef
  | 44, y, _ => y = .bool false
  | 45, y, _ => y = .bool false
  | _, _, _ => True
def rcC (G V9 i n' nr c cr : Nat) (ad : Addr) (Ar : Option Addr) (v : Vote) (m : Mark) (ps : Int) (q : Bool) : Nat → Value → World → Prop
  | 0, y, _ => y = .pointer (some ⟨V9, 0, none⟩)
  | 1, y, _ => y = .int .i64 v.kind
  | 2, y, _ => y = .bool false
  | 3, y, _ => y = .bool false
  | 4, y, _ => y = .pointer (some ⟨V9, 1, none⟩)
  | 5, y, _ => y = .int .i64 v.view
  | 6, y, _ => y = .pointer (some ⟨G, 0, none⟩)
  | 7, y, _ => y = .int .i64 m.view
  | 8, y, _ => y = .bool false
  | 9, y, _ => y = .bool false
  | 10, y, _ => y = .bool false
  | 11, y, _ => y = .pointer (some ⟨V9, 2, none⟩)
  | 12, y, _ => y = .int .i64 v.height
  | 13, y, _ => y = .pointer (some ⟨G, 1, none⟩)
  | 14, y, _ => y = .int .i64 m.height
  | 15, y, _ => y = .bool false
  | 16, y, _ => y = .bool false
  | 17, y, _ => y = .bool false
  | 18, y, _ => y = .pointer (some ⟨V9, 3, none⟩)
  | 19, y, _ => y = .string v.block
  | 20, y, _ => y = .pointer (some ⟨G, 2, none⟩)
  | 21, y, _ => y = .string m.block
  | 22, y, _ => y = .bool false
  | 23, y, _ => y = .bool false
  | 24, y, _ => y = .bool false
  | 25, y, _ => y = .agg (vcs v)
  | 26, y, _ => y = .slice Ar nr cr
  | 27, y, _ => y = .bool true
  | 28, y, _ => y = .bool false
  | 29, y, _ => y = .bool false
  | 30, y, _ => y = .bool false
  | 31, y, _ => y = .int .i64 (i : Nat)
  | 32, y, _ => y = .bool true
  | 33, y, _ => y = .bool true
  | 34, y, _ => y = .pointer (some ⟨G, 3, none⟩)
  | 35, y, _ => y = .slice (some ad) n' c
  | 36, y, _ => y = .int .i64 (i : Nat)
  | 37, y, _ => y = .int .i64 ((i - 1 : Nat) : Int)
  | 38, y, _ => y = .pointer (some (ad.add ((i - 1) * 7)))
  | 39, y, _ => y = .pointer (some ⟨(ad.add ((i - 1) * 7)).block, (ad.add ((i - 1) * 7)).off + 5, none⟩)
  | 40, y, _ => y = .int .i64 ps
  | 41, y, _ => y = .pointer (some ⟨V9, 5, none⟩)
  | 42, y, _ => y = .int .i64 v.signer
  | 43, y, _ => y = .bool q
  | 44, y, _ => y = .bool q
  | 45, y, _ => y = .bool q
  | _, _, _ => True
set_option maxHeartbeats 64000000 in
set_option maxRecDepth 100000 in
theorem refcert_cons (m : Mark) (l : List Vote) (roots : List ByteArray) (q : Int) (A Ar : Option Addr) (n nr c cr B : Nat) (w : World) (hn : n = l.length) (hnr : nr = roots.length) (hl : l.length ≤ 1048576) (h0 : l.length ≠ 0) (hlr : roots.length ≤ 1048576)
    (hr : kVote.Row 28 B w A l) (hrr : Kd.str.Row 9 B w Ar roots) :
    Calls Try.prog 24 #[.agg #[.int .i64 m.view, .int .i64 m.height, .string m.block, .slice A n c], .slice Ar nr cr, .int .i64 q] w fun e w' => e = .returned (.int .i64 (chkC m l roots q)) ∧ Below w.heap.size w w' := by
  subst hn hnr
  have q0 := bl_alloc (Below.refl w.heap.size w) (.cells #[.int .i64 m.view, .int .i64 m.height, .string m.block, .slice A l.length c] 35)
  have a0 := alloc_new w (.cells #[.int .i64 m.view, .int .i64 m.height, .string m.block, .slice A l.length c] 35)
  have hn0 : ((l.length : Int) == 0) = false := by rw [beq_eq_false_iff_ne]; omega
  by_cases hq : q < 1
  · have hc : chkC m l roots q = 41 := by unfold chkC; rw [if_neg h0, if_pos (.inl hq)]
    rw [hc]
    clear hc
    go_enter Try.func24, Try.ntmps24
    go_upto_region 1 with fail
    generalize w.alloc (.cells #[.int .i64 m.view, .int .i64 m.height, .string m.block, .slice A l.length c] 35) = W at *
    have r3 := block_cell a0 (i := 3) rfl
    go_quiet (fail)
    go_wp2_with fail
    go_ret
    exact ⟨rfl, bl_drewN q0 _⟩
  · by_cases hlq : (l.length : Int) = q
    case neg =>
      have hc : chkC m l roots q = 41 := by unfold chkC; rw [if_neg h0, if_pos (.inr hlq)]
      have hb : ((l.length : Int) != q) = true := by rw [bne_iff_ne]; exact hlq
      rw [hc]
      clear hc hlq
      go_enter Try.func24, Try.ntmps24
      go_upto_region 1 with fail
      generalize w.alloc (.cells #[.int .i64 m.view, .int .i64 m.height, .string m.block, .slice A l.length c] 35) = W at *
      have r3 := block_cell a0 (i := 3) rfl
      go_quiet (fail)
      go_wp2_with fail
      go_ret
      exact ⟨rfl, bl_drewN q0 _⟩
    case pos =>
      have hc : chkC m l roots q = if allOk m roots l l.length = true then 0 else 41 := by unfold chkC; rw [if_neg h0, if_neg (by omega)]
      have hb : ((l.length : Int) != q) = false := by rw [bne_eq_false_iff_eq]; exact hlq
      rw [hc]
      obtain ⟨res, hres⟩ : ∃ r : Int, (if allOk m roots l l.length = true then 0 else 41) = r := ⟨_, rfl⟩
      rw [hres]
      have HRES := Lib.hid hres
      clear hres
      have hrq : kVote.Row 28 B _ A l := Kd.row_below q0 hr
      have hrrq : Kd.str.Row 9 B _ Ar roots := Kd.row_below q0 hrr
      clear hc hlq hr hrr
      go_enter Try.func24, Try.ntmps24
      go_upto_region 1 with fail
      obtain ⟨G, hG⟩ : ∃ G, w.heap.size = G := ⟨_, rfl⟩
      generalize w.alloc (.cells #[.int .i64 m.view, .int .i64 m.height, .string m.block, .slice A l.length c] 35) = W1 at *
      simp only [hG] at a0 ⊢
      clear hG
      have r3 := block_cell a0 (i := 3) rfl
      go_quiet (fail)
      have bd := bl_drewN q0 nq
      have gd : _ := block_below (bl_drewN (Below.refl W1.heap.size W1) nq) a0
      have rowd := Kd.row_below (bl_drewN (Below.refl W1.heap.size W1) nq) hrq
      have rrowd := Kd.row_below (bl_drewN (Below.refl W1.heap.size W1) nq) hrrq
      go_upto_region 6 with fail
      clear r3 hrq hrrq a0 q0
      generalize W1.drewN nq = W2 at *
      go_loopw [7] (fun kv w' => ∃ i : Nat, i ≤ l.length ∧ kv = .int .i64 i ∧ allOk m roots l i = true ∧ Below W2.heap.size W2 w') (fun kv _ => l.length - (intOf kv).toNat)
      case atStart => exact ⟨0, by omega, rfl, rfl, Below.refl _ _⟩
      case round =>
        obtain ⟨i, hk, rfl, hok, bel⟩ := hrel
        have B3 := bl_trans bd bel
        have gk := block_below bel gd
        have r3 := block_cell gk (i := 3) rfl
        by_cases h : i < l.length
        case neg =>
          obtain rfl : i = l.length := by omega
          have hnI : ¬ ((l.length : Int) < (l.length : Int)) := by omega
          have HOK := Lib.hid hok
          clear hok
          go_wp2_with fail
          go_ret
          exact ⟨by rw [← HRES.out, if_pos HOK.out]; rfl, B3⟩
        case pos =>
          obtain ⟨v, hv⟩ : ∃ v, l[i]? = some v := ⟨_, List.getElem?_eq_getElem h⟩
          have row3 := Kd.row_below bel rowd
          obtain ⟨ad, rfl, e0, e1, e2, e3, e4, e5, e6, g0, g1, g2', g3, g4, g5, g6⟩ := kVote_at row3 hv
          have hsz : v.sig.size ≤ 140737488351232 := g6
          obtain ⟨val, hval⟩ : ∃ b, validV v roots = b := ⟨_, rfl⟩
          have hvl := fun (W : World) (hx : Kd.str.Row 9 B W Ar roots) => refvalid_calls v roots Ar roots.length cr B W rfl hx hsz hlr
          rw [hval] at hvl
          have HVAL := Lib.hid hvl
          have hst : okAt m roots l i = (isW m v && (!prevGe l i v && val)) := by unfold okAt; rw [hv, ← hval]
          have hsucc := allOk_succ m roots l i
          rw [hok, Bool.true_and, hst] at hsucc
          have HS := Lib.hid hsucc
          have hno : (isW m v && (!prevGe l i v && val)) = false → allOk m roots l l.length = false := fun hf => by
            cases hx : allOk m roots l l.length with
            | false => rfl
            | true =>
              have := allOk_le (Nat.succ_le_of_lt h) hx
              rw [hsucc, hf] at this
              cases this
          have HNO := Lib.hid hno
          have hkI : (i : Int) < (l.length : Int) := by omega
          have hk0 : (0 : Int) ≤ (i : Int) := by omega
          have bt := bl_alloc (Below.refl wr.heap.size wr) (.cells (vcs v) 28)
          have bb : (wr.alloc (.cells (vcs v) 28)).heap[wr.heap.size]? = some (.cells (vcs v) 28 (0, 0)) := alloc_new wr _
          have B4 : Below w.heap.size w (wr.alloc (.cells (vcs v) 28)) := bl_trans B3 bt
          have belt := bl_trans bel bt
          have gt := block_below belt gd
          have HG9 := Lib.hid gt
          have HROW := Lib.hid (Kd.row_below belt rrowd)
          have rowt := Kd.row_below bt row3
          clear hvl hval hst hsucc hok hno g0 g1 g2' g3 g4 g5 g6 hsz gk
          go_upto_region 9 with fail
          change Code.wp _ _ _ _ (wr.alloc (.cells (vcs v) 28))
          obtain ⟨V9, hV9⟩ : ∃ V9, wr.heap.size = V9 := ⟨_, rfl⟩
          generalize wr.alloc (.cells (vcs v) 28) = V at *
          simp only [hV9] at bb ⊢
          have HV9 := Lib.hid bb
          clear hV9 e0 e1 e2 e3 e4 e5 e6 bt r3
          by_cases hall : v.kind = 1 ∧ v.view = m.view ∧ v.height = m.height ∧ v.block = m.block
          case neg =>
            have hmis : (v.kind != 1) = true ∨ ((v.kind != 1) = false ∧ (v.view != m.view) = true) ∨ ((v.kind != 1) = false ∧ (v.view != m.view) = false ∧ (v.height != m.height) = true) ∨ ((v.kind != 1) = false ∧ (v.view != m.view) = false ∧ (v.height != m.height) = false ∧ (v.block.toList == m.block.toList) = false) := by
              by_cases h1 : v.kind = 1
              · right
                by_cases h2 : v.view = m.view
                · right
                  by_cases h3 : v.height = m.height
                  · right
                    have h4 : v.block ≠ m.block := fun h4 => hall ⟨h1, h2, h3, h4⟩
                    refine ⟨by simp [h1], by simp [h2], by simp [h3], ?_⟩
                    simp only [bytes_beq, decide_eq_false h4]
                  · left; exact ⟨by simp [h1], by simp [h2], by simp [h3]⟩
                · left; exact ⟨by simp [h1], by simp [h2]⟩
              · left; simp [h1]
            have hiw : isW m v = false := by
              unfold isW Vote.mk3
              by_cases h1 : v.kind = 1
              · rw [decide_eq_false]
                · simp
                · intro h2
                  cases m
                  injection h2 with h3 h4 h5
                  exact hall ⟨h1, h3, h4, h5⟩
              · simp [h1]
            have HF := Lib.hid (HNO.out (by rw [hiw]; rfl))
            clear hall hiw rowt row3 HS HNO
            obtain ⟨r0, r1, r2, r3, r4, r5, r6⟩ := vcells bb
            have k0 := block_cell gt (i := 0) rfl
            have k1 := block_cell gt (i := 1) rfl
            have k2 := block_cell gt (i := 2) rfl
            have k3 := block_cell gt (i := 3) rfl
            rcases hmis with d1 | ⟨d1, d2⟩ | ⟨d1, d2, d3⟩ | ⟨d1, d2, d3, d4⟩
            all_goals
              go_quiet (fail)
              go_wp2_with fail
              go_ret
              exact ⟨by rw [← HRES.out, HF.out]; rfl, bl_drewN B4 _⟩
          case pos =>
            obtain ⟨h1, h2, h3, h4⟩ := hall
            have hiw : isW m v = true := by
              unfold isW Vote.mk3
              rw [h1, h2, h3, h4]
              simp
            rw [hiw] at HS HNO
            have HKD := Lib.hid (show (v.kind != 1) = false by simp [h1])
            have HVW := Lib.hid (show (v.view != m.view) = false by simp [h2])
            have HHT := Lib.hid (show (v.height != m.height) = false by simp [h3])
            have HBK := Lib.hid (show (v.block.toList == m.block.toList) = true by rw [h4, bytes_beq]; simp)
            clear h1 h2 h3 h4 hiw bb gt
            cases val
            case false =>
              have ps : Int := 0
              refine wp_region_invA (by kernel_rfl) (by kernel_rfl) Rb (rcA G V9 i l.length roots.length c cr ad Ar v m ps false) rb_refl rb_trans ⟨?_, ?_, ?_, ?_, ?_, ?_, ?_, ?_, ?_, ?_, ?_, ?_, ?_, ?_, ?_, ?_, ?_, ?_, ?_, ?_, ?_, ?_, ?_, ?_, ?_, ?_, ?_, ?_, ?_, ?_, ?_, ?_, ?_, ?_, ?_, ?_, ?_, ?_, ?_, ?_, ?_, ?_, ?_, ?_, ?_, ?_, trivial⟩ ?_
              · intro Fr u hN hO w1 hR hdep K hK
                rw [if_pos (by rfl)]
                have y8 : Fr.tmps[8]? = some (.pointer (some ⟨V9, 0, none⟩)) := hO 8 _ rfl rfl
                clear hN hO hdep
                go_simp
                refine hK _ _ (rb_refl _) fun w3 h3 => ?_
                exact rfl
              · intro Fr u hN hO w1 hR hdep K hK
                rw [if_pos (by rfl)]
                have x0 : Fr.tmps[50]? = some (u 0) := hN 0 _ 50 rfl rfl rfl
                rw [show u 0 = .pointer (some ⟨V9, 0, none⟩) from hdep 0 (by kernel_rfl) w1 (rb_refl _)] at x0
                clear hN hO hdep
                obtain ⟨r0, r1, r2, r3, r4, r5, r6⟩ := vcells (block_below hR HV9.out)
                go_simp
                refine hK _ _ (rb_refl _) fun w3 h3 => ?_
                exact rfl
              · intro Fr u hN hO w1 hR hdep K hK
                rw [if_pos (by rfl)]
                have x1 : Fr.tmps[51]? = some (u 1) := hN 1 _ 51 rfl rfl rfl
                rw [show u 1 = .int .i64 v.kind from hdep 1 (by kernel_rfl) w1 (rb_refl _)] at x1
                clear hN hO hdep
                have hkd := HKD.out
                go_simp
                refine hK _ _ (rb_refl _) fun w3 h3 => ?_
                exact rfl
              · intro Fr u hN hO w1 hR hdep K hK
                rw [if_pos (by rfl)]
                have x2 : Fr.tmps[52]? = some (u 2) := hN 2 _ 52 rfl rfl rfl
                rw [show u 2 = .bool false from hdep 2 (by kernel_rfl) w1 (rb_refl _)] at x2
                clear hN hO hdep
                go_simp
                refine hK _ _ (rb_refl _) fun w3 h3 => ?_
                exact rfl
              · intro Fr u hN hO w1 hR hdep K hK
                have gx : Fr.tmps[53]? = some (u 3) := hN 3 _ 53 rfl rfl rfl
                rw [show u 3 = .bool false from hdep 3 (by kernel_rfl) w1 (rb_refl _)] at gx
                rw [if_pos (wanted_on (s := 53) rfl (by kernel_rfl) gx)]
                have y8 : Fr.tmps[8]? = some (.pointer (some ⟨V9, 0, none⟩)) := hO 8 _ rfl rfl
                clear hN hO hdep gx
                go_simp
                refine hK _ _ (rb_refl _) fun w3 h3 => ?_
                exact rfl
              · intro Fr u hN hO w1 hR hdep K hK
                have gx : Fr.tmps[53]? = some (u 3) := hN 3 _ 53 rfl rfl rfl
                rw [show u 3 = .bool false from hdep 3 (by kernel_rfl) w1 (rb_refl _)] at gx
                rw [if_pos (wanted_on (s := 53) rfl (by kernel_rfl) gx)]
                have x4 : Fr.tmps[54]? = some (u 4) := hN 4 _ 54 rfl rfl rfl
                rw [show u 4 = .pointer (some ⟨V9, 1, none⟩) from hdep 4 (by kernel_rfl) w1 (rb_refl _)] at x4
                clear hN hO hdep gx
                obtain ⟨r0, r1, r2, r3, r4, r5, r6⟩ := vcells (block_below hR HV9.out)
                go_simp
                refine hK _ _ (rb_refl _) fun w3 h3 => ?_
                exact rfl
              · intro Fr u hN hO w1 hR hdep K hK
                have gx : Fr.tmps[53]? = some (u 3) := hN 3 _ 53 rfl rfl rfl
                rw [show u 3 = .bool false from hdep 3 (by kernel_rfl) w1 (rb_refl _)] at gx
                rw [if_pos (wanted_on (s := 53) rfl (by kernel_rfl) gx)]
                have y3 : Fr.tmps[3]? = some (.pointer (some ⟨G, 0, none⟩)) := hO 3 _ rfl rfl
                clear hN hO hdep gx
                go_simp
                refine hK _ _ (rb_refl _) fun w3 h3 => ?_
                exact rfl
              · intro Fr u hN hO w1 hR hdep K hK
                have gx : Fr.tmps[53]? = some (u 3) := hN 3 _ 53 rfl rfl rfl
                rw [show u 3 = .bool false from hdep 3 (by kernel_rfl) w1 (rb_refl _)] at gx
                rw [if_pos (wanted_on (s := 53) rfl (by kernel_rfl) gx)]
                have x6 : Fr.tmps[56]? = some (u 6) := hN 6 _ 56 rfl rfl rfl
                rw [show u 6 = .pointer (some ⟨G, 0, none⟩) from hdep 6 (by kernel_rfl) w1 (rb_refl _)] at x6
                clear hN hO hdep gx
                have cg := block_cell (block_below hR HG9.out) (i := 0) rfl
                go_simp
                refine hK _ _ (rb_refl _) fun w3 h3 => ?_
                exact rfl
              · intro Fr u hN hO w1 hR hdep K hK
                have gx : Fr.tmps[53]? = some (u 3) := hN 3 _ 53 rfl rfl rfl
                rw [show u 3 = .bool false from hdep 3 (by kernel_rfl) w1 (rb_refl _)] at gx
                rw [if_pos (wanted_on (s := 53) rfl (by kernel_rfl) gx)]
                have x5 : Fr.tmps[55]? = some (u 5) := hN 5 _ 55 rfl rfl rfl
                rw [show u 5 = .int .i64 v.view from hdep 5 (by kernel_rfl) w1 (rb_refl _)] at x5
                have x7 : Fr.tmps[57]? = some (u 7) := hN 7 _ 57 rfl rfl rfl
                rw [show u 7 = .int .i64 m.view from hdep 7 (by kernel_rfl) w1 (rb_refl _)] at x7
                clear hN hO hdep gx
                have hvw := HVW.out
                go_simp
                refine hK _ _ (rb_refl _) fun w3 h3 => ?_
                exact rfl
              · intro Fr u hN hO w1 hR hdep K hK
                rw [if_pos (by rfl)]
                have x3 : Fr.tmps[53]? = some (u 3) := hN 3 _ 53 rfl rfl rfl
                rw [show u 3 = .bool false from hdep 3 (by kernel_rfl) w1 (rb_refl _)] at x3
                have x8 : Fr.tmps[58]? = some (u 8) := hN 8 _ 58 rfl rfl rfl
                rw [show u 8 = .bool false from hdep 8 (by kernel_rfl) w1 (rb_refl _)] at x8
                clear hN hO hdep
                go_simp
                refine hK _ _ (rb_refl _) fun w3 h3 => ?_
                exact rfl
              · intro Fr u hN hO w1 hR hdep K hK
                rw [if_pos (by rfl)]
                have x9 : Fr.tmps[59]? = some (u 9) := hN 9 _ 59 rfl rfl rfl
                rw [show u 9 = .bool false from hdep 9 (by kernel_rfl) w1 (rb_refl _)] at x9
                clear hN hO hdep
                go_simp
                refine hK _ _ (rb_refl _) fun w3 h3 => ?_
                exact rfl
              · intro Fr u hN hO w1 hR hdep K hK
                have gx : Fr.tmps[60]? = some (u 10) := hN 10 _ 60 rfl rfl rfl
                rw [show u 10 = .bool false from hdep 10 (by kernel_rfl) w1 (rb_refl _)] at gx
                rw [if_pos (wanted_on (s := 60) rfl (by kernel_rfl) gx)]
                have y8 : Fr.tmps[8]? = some (.pointer (some ⟨V9, 0, none⟩)) := hO 8 _ rfl rfl
                clear hN hO hdep gx
                go_simp
                refine hK _ _ (rb_refl _) fun w3 h3 => ?_
                exact rfl
              · intro Fr u hN hO w1 hR hdep K hK
                have gx : Fr.tmps[60]? = some (u 10) := hN 10 _ 60 rfl rfl rfl
                rw [show u 10 = .bool false from hdep 10 (by kernel_rfl) w1 (rb_refl _)] at gx
                rw [if_pos (wanted_on (s := 60) rfl (by kernel_rfl) gx)]
                have x11 : Fr.tmps[61]? = some (u 11) := hN 11 _ 61 rfl rfl rfl
                rw [show u 11 = .pointer (some ⟨V9, 2, none⟩) from hdep 11 (by kernel_rfl) w1 (rb_refl _)] at x11
                clear hN hO hdep gx
                obtain ⟨r0, r1, r2, r3, r4, r5, r6⟩ := vcells (block_below hR HV9.out)
                go_simp
                refine hK _ _ (rb_refl _) fun w3 h3 => ?_
                exact rfl
              · intro Fr u hN hO w1 hR hdep K hK
                have gx : Fr.tmps[60]? = some (u 10) := hN 10 _ 60 rfl rfl rfl
                rw [show u 10 = .bool false from hdep 10 (by kernel_rfl) w1 (rb_refl _)] at gx
                rw [if_pos (wanted_on (s := 60) rfl (by kernel_rfl) gx)]
                have y3 : Fr.tmps[3]? = some (.pointer (some ⟨G, 0, none⟩)) := hO 3 _ rfl rfl
                clear hN hO hdep gx
                go_simp
                refine hK _ _ (rb_refl _) fun w3 h3 => ?_
                exact rfl
              · intro Fr u hN hO w1 hR hdep K hK
                have gx : Fr.tmps[60]? = some (u 10) := hN 10 _ 60 rfl rfl rfl
                rw [show u 10 = .bool false from hdep 10 (by kernel_rfl) w1 (rb_refl _)] at gx
                rw [if_pos (wanted_on (s := 60) rfl (by kernel_rfl) gx)]
                have x13 : Fr.tmps[63]? = some (u 13) := hN 13 _ 63 rfl rfl rfl
                rw [show u 13 = .pointer (some ⟨G, 1, none⟩) from hdep 13 (by kernel_rfl) w1 (rb_refl _)] at x13
                clear hN hO hdep gx
                have cg := block_cell (block_below hR HG9.out) (i := 1) rfl
                go_simp
                refine hK _ _ (rb_refl _) fun w3 h3 => ?_
                exact rfl
              · intro Fr u hN hO w1 hR hdep K hK
                have gx : Fr.tmps[60]? = some (u 10) := hN 10 _ 60 rfl rfl rfl
                rw [show u 10 = .bool false from hdep 10 (by kernel_rfl) w1 (rb_refl _)] at gx
                rw [if_pos (wanted_on (s := 60) rfl (by kernel_rfl) gx)]
                have x12 : Fr.tmps[62]? = some (u 12) := hN 12 _ 62 rfl rfl rfl
                rw [show u 12 = .int .i64 v.height from hdep 12 (by kernel_rfl) w1 (rb_refl _)] at x12
                have x14 : Fr.tmps[64]? = some (u 14) := hN 14 _ 64 rfl rfl rfl
                rw [show u 14 = .int .i64 m.height from hdep 14 (by kernel_rfl) w1 (rb_refl _)] at x14
                clear hN hO hdep gx
                have hht := HHT.out
                go_simp
                refine hK _ _ (rb_refl _) fun w3 h3 => ?_
                exact rfl
              · intro Fr u hN hO w1 hR hdep K hK
                rw [if_pos (by rfl)]
                have x10 : Fr.tmps[60]? = some (u 10) := hN 10 _ 60 rfl rfl rfl
                rw [show u 10 = .bool false from hdep 10 (by kernel_rfl) w1 (rb_refl _)] at x10
                have x15 : Fr.tmps[65]? = some (u 15) := hN 15 _ 65 rfl rfl rfl
                rw [show u 15 = .bool false from hdep 15 (by kernel_rfl) w1 (rb_refl _)] at x15
                clear hN hO hdep
                go_simp
                refine hK _ _ (rb_refl _) fun w3 h3 => ?_
                exact rfl
              · intro Fr u hN hO w1 hR hdep K hK
                rw [if_pos (by rfl)]
                have x16 : Fr.tmps[66]? = some (u 16) := hN 16 _ 66 rfl rfl rfl
                rw [show u 16 = .bool false from hdep 16 (by kernel_rfl) w1 (rb_refl _)] at x16
                clear hN hO hdep
                go_simp
                refine hK _ _ (rb_refl _) fun w3 h3 => ?_
                exact rfl
              · intro Fr u hN hO w1 hR hdep K hK
                have gx : Fr.tmps[67]? = some (u 17) := hN 17 _ 67 rfl rfl rfl
                rw [show u 17 = .bool false from hdep 17 (by kernel_rfl) w1 (rb_refl _)] at gx
                rw [if_pos (wanted_on (s := 67) rfl (by kernel_rfl) gx)]
                have y8 : Fr.tmps[8]? = some (.pointer (some ⟨V9, 0, none⟩)) := hO 8 _ rfl rfl
                clear hN hO hdep gx
                go_simp
                refine hK _ _ (rb_refl _) fun w3 h3 => ?_
                exact rfl
              · intro Fr u hN hO w1 hR hdep K hK
                have gx : Fr.tmps[67]? = some (u 17) := hN 17 _ 67 rfl rfl rfl
                rw [show u 17 = .bool false from hdep 17 (by kernel_rfl) w1 (rb_refl _)] at gx
                rw [if_pos (wanted_on (s := 67) rfl (by kernel_rfl) gx)]
                have x18 : Fr.tmps[68]? = some (u 18) := hN 18 _ 68 rfl rfl rfl
                rw [show u 18 = .pointer (some ⟨V9, 3, none⟩) from hdep 18 (by kernel_rfl) w1 (rb_refl _)] at x18
                clear hN hO hdep gx
                obtain ⟨r0, r1, r2, r3, r4, r5, r6⟩ := vcells (block_below hR HV9.out)
                go_simp
                refine hK _ _ (rb_refl _) fun w3 h3 => ?_
                exact rfl
              · intro Fr u hN hO w1 hR hdep K hK
                have gx : Fr.tmps[67]? = some (u 17) := hN 17 _ 67 rfl rfl rfl
                rw [show u 17 = .bool false from hdep 17 (by kernel_rfl) w1 (rb_refl _)] at gx
                rw [if_pos (wanted_on (s := 67) rfl (by kernel_rfl) gx)]
                have y3 : Fr.tmps[3]? = some (.pointer (some ⟨G, 0, none⟩)) := hO 3 _ rfl rfl
                clear hN hO hdep gx
                go_simp
                refine hK _ _ (rb_refl _) fun w3 h3 => ?_
                exact rfl
              · intro Fr u hN hO w1 hR hdep K hK
                have gx : Fr.tmps[67]? = some (u 17) := hN 17 _ 67 rfl rfl rfl
                rw [show u 17 = .bool false from hdep 17 (by kernel_rfl) w1 (rb_refl _)] at gx
                rw [if_pos (wanted_on (s := 67) rfl (by kernel_rfl) gx)]
                have x20 : Fr.tmps[70]? = some (u 20) := hN 20 _ 70 rfl rfl rfl
                rw [show u 20 = .pointer (some ⟨G, 2, none⟩) from hdep 20 (by kernel_rfl) w1 (rb_refl _)] at x20
                clear hN hO hdep gx
                have cg := block_cell (block_below hR HG9.out) (i := 2) rfl
                go_simp
                refine hK _ _ (rb_refl _) fun w3 h3 => ?_
                exact rfl
              · intro Fr u hN hO w1 hR hdep K hK
                have gx : Fr.tmps[67]? = some (u 17) := hN 17 _ 67 rfl rfl rfl
                rw [show u 17 = .bool false from hdep 17 (by kernel_rfl) w1 (rb_refl _)] at gx
                rw [if_pos (wanted_on (s := 67) rfl (by kernel_rfl) gx)]
                have x19 : Fr.tmps[69]? = some (u 19) := hN 19 _ 69 rfl rfl rfl
                rw [show u 19 = .string v.block from hdep 19 (by kernel_rfl) w1 (rb_refl _)] at x19
                have x21 : Fr.tmps[71]? = some (u 21) := hN 21 _ 71 rfl rfl rfl
                rw [show u 21 = .string m.block from hdep 21 (by kernel_rfl) w1 (rb_refl _)] at x21
                clear hN hO hdep gx
                have hbk := HBK.out
                go_simp
                refine hK _ _ (rb_refl _) fun w3 h3 => ?_
                exact rfl
              · intro Fr u hN hO w1 hR hdep K hK
                rw [if_pos (by rfl)]
                have x17 : Fr.tmps[67]? = some (u 17) := hN 17 _ 67 rfl rfl rfl
                rw [show u 17 = .bool false from hdep 17 (by kernel_rfl) w1 (rb_refl _)] at x17
                have x22 : Fr.tmps[72]? = some (u 22) := hN 22 _ 72 rfl rfl rfl
                rw [show u 22 = .bool false from hdep 22 (by kernel_rfl) w1 (rb_refl _)] at x22
                clear hN hO hdep
                go_simp
                refine hK _ _ (rb_refl _) fun w3 h3 => ?_
                exact rfl
              · intro Fr u hN hO w1 hR hdep K hK
                rw [if_pos (by rfl)]
                have x23 : Fr.tmps[73]? = some (u 23) := hN 23 _ 73 rfl rfl rfl
                rw [show u 23 = .bool false from hdep 23 (by kernel_rfl) w1 (rb_refl _)] at x23
                clear hN hO hdep
                go_simp
                refine hK _ _ (rb_refl _) fun w3 h3 => ?_
                exact rfl
              · intro Fr u hN hO w1 hR hdep K hK
                have gx : Fr.tmps[74]? = some (u 24) := hN 24 _ 74 rfl rfl rfl
                rw [show u 24 = .bool false from hdep 24 (by kernel_rfl) w1 (rb_refl _)] at gx
                rw [if_pos (wanted_on (s := 74) rfl (by kernel_rfl) gx)]
                have y8 : Fr.tmps[8]? = some (.pointer (some ⟨V9, 0, none⟩)) := hO 8 _ rfl rfl
                clear hN hO hdep gx
                obtain ⟨r0, r1, r2, r3, r4, r5, r6⟩ := vcells (block_below hR HV9.out)
                go_simp
                refine hK _ _ (rb_refl _) fun w3 h3 => ?_
                exact rfl
              · intro Fr u hN hO w1 hR hdep K hK
                have gx : Fr.tmps[74]? = some (u 24) := hN 24 _ 74 rfl rfl rfl
                rw [show u 24 = .bool false from hdep 24 (by kernel_rfl) w1 (rb_refl _)] at gx
                rw [if_pos (wanted_on (s := 74) rfl (by kernel_rfl) gx)]
                have y1 : Fr.tmps[1]? = some (.slice Ar roots.length cr) := hO 1 _ rfl rfl
                clear hN hO hdep gx
                go_simp
                refine hK _ _ (rb_refl _) fun w3 h3 => ?_
                exact rfl
              · intro Fr u hN hO w1 hR hdep K hK
                have gx : Fr.tmps[74]? = some (u 24) := hN 24 _ 74 rfl rfl rfl
                rw [show u 24 = .bool false from hdep 24 (by kernel_rfl) w1 (rb_refl _)] at gx
                rw [if_pos (wanted_on (s := 74) rfl (by kernel_rfl) gx)]
                have x25 : Fr.tmps[75]? = some (u 25) := hN 25 _ 75 rfl rfl rfl
                rw [show u 25 = .agg (vcs v) from hdep 25 (by kernel_rfl) w1 (rb_refl _)] at x25
                have x26 : Fr.tmps[76]? = some (u 26) := hN 26 _ 76 rfl rfl rfl
                rw [show u 26 = .slice Ar roots.length cr from hdep 26 (by kernel_rfl) w1 (rb_refl _)] at x26
                clear hN hO hdep gx
                go_simp
                refine ((HVAL.out w1 (Kd.row_below hR HROW.out))).mono ?_
                rintro x w2 ⟨rfl, b2⟩
                refine hK _ _ b2 fun w3 h3 => ?_
                exact rfl
              · intro Fr u hN hO w1 hR hdep K hK
                have gx : Fr.tmps[74]? = some (u 24) := hN 24 _ 74 rfl rfl rfl
                rw [show u 24 = .bool false from hdep 24 (by kernel_rfl) w1 (rb_refl _)] at gx
                rw [if_pos (wanted_on (s := 74) rfl (by kernel_rfl) gx)]
                have x27 : Fr.tmps[77]? = some (u 27) := hN 27 _ 77 rfl rfl rfl
                rw [show u 27 = .bool false from hdep 27 (by kernel_rfl) w1 (rb_refl _)] at x27
                clear hN hO hdep gx
                go_simp
                refine hK _ _ (rb_refl _) fun w3 h3 => ?_
                exact rfl
              · intro Fr u hN hO w1 hR hdep K hK
                rw [if_pos (by rfl)]
                have x24 : Fr.tmps[74]? = some (u 24) := hN 24 _ 74 rfl rfl rfl
                rw [show u 24 = .bool false from hdep 24 (by kernel_rfl) w1 (rb_refl _)] at x24
                have x28 : Fr.tmps[78]? = some (u 28) := hN 28 _ 78 rfl rfl rfl
                rw [show u 28 = .bool true from hdep 28 (by kernel_rfl) w1 (rb_refl _)] at x28
                clear hN hO hdep
                go_simp
                refine hK _ _ (rb_refl _) fun w3 h3 => ?_
                exact rfl
              · intro Fr u hN hO w1 hR hdep K hK
                rw [if_pos (by rfl)]
                have x29 : Fr.tmps[79]? = some (u 29) := hN 29 _ 79 rfl rfl rfl
                rw [show u 29 = .bool true from hdep 29 (by kernel_rfl) w1 (rb_refl _)] at x29
                clear hN hO hdep
                go_simp
                refine hK _ _ (rb_refl _) fun w3 h3 => ?_
                exact rfl
              · intro Fr u hN hO w1 hR hdep K hK
                have gx : Fr.tmps[80]? = some (u 30) := hN 30 _ 80 rfl rfl rfl
                rw [show u 30 = .bool true from hdep 30 (by kernel_rfl) w1 (rb_refl _)] at gx
                rw [if_neg (wanted_off (s := 80) rfl (by kernel_rfl) gx (by decide))]
                exact hK _ _ (rb_refl _) fun w3 h3 => rfl
              · intro Fr u hN hO w1 hR hdep K hK
                have gx : Fr.tmps[80]? = some (u 30) := hN 30 _ 80 rfl rfl rfl
                rw [show u 30 = .bool true from hdep 30 (by kernel_rfl) w1 (rb_refl _)] at gx
                rw [if_neg (wanted_off (s := 80) rfl (by kernel_rfl) gx (by decide))]
                exact hK _ _ (rb_refl _) fun w3 h3 => rfl
              · intro Fr u hN hO w1 hR hdep K hK
                have gx : Fr.tmps[80]? = some (u 30) := hN 30 _ 80 rfl rfl rfl
                rw [show u 30 = .bool true from hdep 30 (by kernel_rfl) w1 (rb_refl _)] at gx
                rw [if_neg (wanted_off (s := 80) rfl (by kernel_rfl) gx (by decide))]
                exact hK _ _ (rb_refl _) fun w3 h3 => rfl
              · intro Fr u hN hO w1 hR hdep K hK
                have gx : Fr.tmps[83]? = some (u 33) := hN 33 _ 83 rfl rfl rfl
                rw [show u 33 = undef from hdep 33 (by kernel_rfl) w1 (rb_refl _)] at gx
                rw [if_neg (wanted_undef (s := 83) rfl (by kernel_rfl) gx)]
                exact hK _ _ (rb_refl _) fun w3 h3 => rfl
              · intro Fr u hN hO w1 hR hdep K hK
                have gx : Fr.tmps[83]? = some (u 33) := hN 33 _ 83 rfl rfl rfl
                rw [show u 33 = undef from hdep 33 (by kernel_rfl) w1 (rb_refl _)] at gx
                rw [if_neg (wanted_undef (s := 83) rfl (by kernel_rfl) gx)]
                exact hK _ _ (rb_refl _) fun w3 h3 => rfl
              · intro Fr u hN hO w1 hR hdep K hK
                have gx : Fr.tmps[83]? = some (u 33) := hN 33 _ 83 rfl rfl rfl
                rw [show u 33 = undef from hdep 33 (by kernel_rfl) w1 (rb_refl _)] at gx
                rw [if_neg (wanted_undef (s := 83) rfl (by kernel_rfl) gx)]
                exact hK _ _ (rb_refl _) fun w3 h3 => rfl
              · intro Fr u hN hO w1 hR hdep K hK
                have gx : Fr.tmps[83]? = some (u 33) := hN 33 _ 83 rfl rfl rfl
                rw [show u 33 = undef from hdep 33 (by kernel_rfl) w1 (rb_refl _)] at gx
                rw [if_neg (wanted_undef (s := 83) rfl (by kernel_rfl) gx)]
                exact hK _ _ (rb_refl _) fun w3 h3 => rfl
              · intro Fr u hN hO w1 hR hdep K hK
                have gx : Fr.tmps[83]? = some (u 33) := hN 33 _ 83 rfl rfl rfl
                rw [show u 33 = undef from hdep 33 (by kernel_rfl) w1 (rb_refl _)] at gx
                rw [if_neg (wanted_undef (s := 83) rfl (by kernel_rfl) gx)]
                exact hK _ _ (rb_refl _) fun w3 h3 => rfl
              · intro Fr u hN hO w1 hR hdep K hK
                have gx : Fr.tmps[83]? = some (u 33) := hN 33 _ 83 rfl rfl rfl
                rw [show u 33 = undef from hdep 33 (by kernel_rfl) w1 (rb_refl _)] at gx
                rw [if_neg (wanted_undef (s := 83) rfl (by kernel_rfl) gx)]
                exact hK _ _ (rb_refl _) fun w3 h3 => rfl
              · intro Fr u hN hO w1 hR hdep K hK
                have gx : Fr.tmps[83]? = some (u 33) := hN 33 _ 83 rfl rfl rfl
                rw [show u 33 = undef from hdep 33 (by kernel_rfl) w1 (rb_refl _)] at gx
                rw [if_neg (wanted_undef (s := 83) rfl (by kernel_rfl) gx)]
                exact hK _ _ (rb_refl _) fun w3 h3 => rfl
              · intro Fr u hN hO w1 hR hdep K hK
                have gx : Fr.tmps[83]? = some (u 33) := hN 33 _ 83 rfl rfl rfl
                rw [show u 33 = undef from hdep 33 (by kernel_rfl) w1 (rb_refl _)] at gx
                rw [if_neg (wanted_undef (s := 83) rfl (by kernel_rfl) gx)]
                exact hK _ _ (rb_refl _) fun w3 h3 => rfl
              · intro Fr u hN hO w1 hR hdep K hK
                have gx : Fr.tmps[83]? = some (u 33) := hN 33 _ 83 rfl rfl rfl
                rw [show u 33 = undef from hdep 33 (by kernel_rfl) w1 (rb_refl _)] at gx
                rw [if_neg (wanted_undef (s := 83) rfl (by kernel_rfl) gx)]
                exact hK _ _ (rb_refl _) fun w3 h3 => rfl
              · intro Fr u hN hO w1 hR hdep K hK
                have gx : Fr.tmps[83]? = some (u 33) := hN 33 _ 83 rfl rfl rfl
                rw [show u 33 = undef from hdep 33 (by kernel_rfl) w1 (rb_refl _)] at gx
                rw [if_neg (wanted_undef (s := 83) rfl (by kernel_rfl) gx)]
                exact hK _ _ (rb_refl _) fun w3 h3 => rfl
              · intro Fr u hN hO w1 hR hdep K hK
                have gx : Fr.tmps[80]? = some (u 30) := hN 30 _ 80 rfl rfl rfl
                rw [show u 30 = .bool true from hdep 30 (by kernel_rfl) w1 (rb_refl _)] at gx
                rw [if_neg (wanted_off (s := 80) rfl (by kernel_rfl) gx (by decide))]
                exact hK _ _ (rb_refl _) fun w3 h3 => rfl
              · intro Fr u hN hO w1 hR hdep K hK
                rw [if_pos (by rfl)]
                have x30 : Fr.tmps[80]? = some (u 30) := hN 30 _ 80 rfl rfl rfl
                rw [show u 30 = .bool true from hdep 30 (by kernel_rfl) w1 (rb_refl _)] at x30
                have x44 : Fr.tmps[94]? = some (u 44) := hN 44 _ 94 rfl rfl rfl
                rw [show u 44 = undef from hdep 44 (by kernel_rfl) w1 (rb_refl _)] at x44
                clear hN hO hdep
                go_simp
                refine hK _ _ (rb_refl _) fun w3 h3 => ?_
                exact rfl
              · intro u w' hR hall
                have h45 : u 45 = .bool true := hall 45 (by decide)
                have bw' := bl_trans (bl_drew B4) hR
                have belw := bl_trans (bl_drew belt) hR
                clear hall
                simp only [frameF, Act.put, List.setIfInBounds_toArray, List.set_cons_zero, List.set_cons_succ, Nat.reduceAdd, h45]
                clear h45
                have HF := Lib.hid (HNO.out (by simp))
                go_wp2_with fail
                go_ret
                exact ⟨by rw [← HRES.out, HF.out]; rfl, bw'⟩
            case true =>
              rcases Nat.eq_zero_or_pos i with hi0 | hip
              · have hpg : prevGe l i v = false := by rw [hi0]; rfl
                rw [hpg] at HS HNO
                have HP := Lib.hid (show ¬ ((0 : Int) < (i : Int)) by omega)
                have HPN := Lib.hid (show ¬ (0 < i) by omega)
                have ps : Int := 0
                clear hpg hi0 hk0 hkI rowt row3
                refine wp_region_invA (by kernel_rfl) (by kernel_rfl) Rb (rcB G V9 i l.length roots.length c cr ad Ar v m ps false) rb_refl rb_trans ⟨?_, ?_, ?_, ?_, ?_, ?_, ?_, ?_, ?_, ?_, ?_, ?_, ?_, ?_, ?_, ?_, ?_, ?_, ?_, ?_, ?_, ?_, ?_, ?_, ?_, ?_, ?_, ?_, ?_, ?_, ?_, ?_, ?_, ?_, ?_, ?_, ?_, ?_, ?_, ?_, ?_, ?_, ?_, ?_, ?_, ?_, trivial⟩ ?_
                · intro Fr u hN hO w1 hR hdep K hK
                  rw [if_pos (by rfl)]
                  have y8 : Fr.tmps[8]? = some (.pointer (some ⟨V9, 0, none⟩)) := hO 8 _ rfl rfl
                  clear hN hO hdep
                  go_simp
                  refine hK _ _ (rb_refl _) fun w3 h3 => ?_
                  exact rfl
                · intro Fr u hN hO w1 hR hdep K hK
                  rw [if_pos (by rfl)]
                  have x0 : Fr.tmps[50]? = some (u 0) := hN 0 _ 50 rfl rfl rfl
                  rw [show u 0 = .pointer (some ⟨V9, 0, none⟩) from hdep 0 (by kernel_rfl) w1 (rb_refl _)] at x0
                  clear hN hO hdep
                  obtain ⟨r0, r1, r2, r3, r4, r5, r6⟩ := vcells (block_below hR HV9.out)
                  go_simp
                  refine hK _ _ (rb_refl _) fun w3 h3 => ?_
                  exact rfl
                · intro Fr u hN hO w1 hR hdep K hK
                  rw [if_pos (by rfl)]
                  have x1 : Fr.tmps[51]? = some (u 1) := hN 1 _ 51 rfl rfl rfl
                  rw [show u 1 = .int .i64 v.kind from hdep 1 (by kernel_rfl) w1 (rb_refl _)] at x1
                  clear hN hO hdep
                  have hkd := HKD.out
                  go_simp
                  refine hK _ _ (rb_refl _) fun w3 h3 => ?_
                  exact rfl
                · intro Fr u hN hO w1 hR hdep K hK
                  rw [if_pos (by rfl)]
                  have x2 : Fr.tmps[52]? = some (u 2) := hN 2 _ 52 rfl rfl rfl
                  rw [show u 2 = .bool false from hdep 2 (by kernel_rfl) w1 (rb_refl _)] at x2
                  clear hN hO hdep
                  go_simp
                  refine hK _ _ (rb_refl _) fun w3 h3 => ?_
                  exact rfl
                · intro Fr u hN hO w1 hR hdep K hK
                  have gx : Fr.tmps[53]? = some (u 3) := hN 3 _ 53 rfl rfl rfl
                  rw [show u 3 = .bool false from hdep 3 (by kernel_rfl) w1 (rb_refl _)] at gx
                  rw [if_pos (wanted_on (s := 53) rfl (by kernel_rfl) gx)]
                  have y8 : Fr.tmps[8]? = some (.pointer (some ⟨V9, 0, none⟩)) := hO 8 _ rfl rfl
                  clear hN hO hdep gx
                  go_simp
                  refine hK _ _ (rb_refl _) fun w3 h3 => ?_
                  exact rfl
                · intro Fr u hN hO w1 hR hdep K hK
                  have gx : Fr.tmps[53]? = some (u 3) := hN 3 _ 53 rfl rfl rfl
                  rw [show u 3 = .bool false from hdep 3 (by kernel_rfl) w1 (rb_refl _)] at gx
                  rw [if_pos (wanted_on (s := 53) rfl (by kernel_rfl) gx)]
                  have x4 : Fr.tmps[54]? = some (u 4) := hN 4 _ 54 rfl rfl rfl
                  rw [show u 4 = .pointer (some ⟨V9, 1, none⟩) from hdep 4 (by kernel_rfl) w1 (rb_refl _)] at x4
                  clear hN hO hdep gx
                  obtain ⟨r0, r1, r2, r3, r4, r5, r6⟩ := vcells (block_below hR HV9.out)
                  go_simp
                  refine hK _ _ (rb_refl _) fun w3 h3 => ?_
                  exact rfl
                · intro Fr u hN hO w1 hR hdep K hK
                  have gx : Fr.tmps[53]? = some (u 3) := hN 3 _ 53 rfl rfl rfl
                  rw [show u 3 = .bool false from hdep 3 (by kernel_rfl) w1 (rb_refl _)] at gx
                  rw [if_pos (wanted_on (s := 53) rfl (by kernel_rfl) gx)]
                  have y3 : Fr.tmps[3]? = some (.pointer (some ⟨G, 0, none⟩)) := hO 3 _ rfl rfl
                  clear hN hO hdep gx
                  go_simp
                  refine hK _ _ (rb_refl _) fun w3 h3 => ?_
                  exact rfl
                · intro Fr u hN hO w1 hR hdep K hK
                  have gx : Fr.tmps[53]? = some (u 3) := hN 3 _ 53 rfl rfl rfl
                  rw [show u 3 = .bool false from hdep 3 (by kernel_rfl) w1 (rb_refl _)] at gx
                  rw [if_pos (wanted_on (s := 53) rfl (by kernel_rfl) gx)]
                  have x6 : Fr.tmps[56]? = some (u 6) := hN 6 _ 56 rfl rfl rfl
                  rw [show u 6 = .pointer (some ⟨G, 0, none⟩) from hdep 6 (by kernel_rfl) w1 (rb_refl _)] at x6
                  clear hN hO hdep gx
                  have cg := block_cell (block_below hR HG9.out) (i := 0) rfl
                  go_simp
                  refine hK _ _ (rb_refl _) fun w3 h3 => ?_
                  exact rfl
                · intro Fr u hN hO w1 hR hdep K hK
                  have gx : Fr.tmps[53]? = some (u 3) := hN 3 _ 53 rfl rfl rfl
                  rw [show u 3 = .bool false from hdep 3 (by kernel_rfl) w1 (rb_refl _)] at gx
                  rw [if_pos (wanted_on (s := 53) rfl (by kernel_rfl) gx)]
                  have x5 : Fr.tmps[55]? = some (u 5) := hN 5 _ 55 rfl rfl rfl
                  rw [show u 5 = .int .i64 v.view from hdep 5 (by kernel_rfl) w1 (rb_refl _)] at x5
                  have x7 : Fr.tmps[57]? = some (u 7) := hN 7 _ 57 rfl rfl rfl
                  rw [show u 7 = .int .i64 m.view from hdep 7 (by kernel_rfl) w1 (rb_refl _)] at x7
                  clear hN hO hdep gx
                  have hvw := HVW.out
                  go_simp
                  refine hK _ _ (rb_refl _) fun w3 h3 => ?_
                  exact rfl
                · intro Fr u hN hO w1 hR hdep K hK
                  rw [if_pos (by rfl)]
                  have x3 : Fr.tmps[53]? = some (u 3) := hN 3 _ 53 rfl rfl rfl
                  rw [show u 3 = .bool false from hdep 3 (by kernel_rfl) w1 (rb_refl _)] at x3
                  have x8 : Fr.tmps[58]? = some (u 8) := hN 8 _ 58 rfl rfl rfl
                  rw [show u 8 = .bool false from hdep 8 (by kernel_rfl) w1 (rb_refl _)] at x8
                  clear hN hO hdep
                  go_simp
                  refine hK _ _ (rb_refl _) fun w3 h3 => ?_
                  exact rfl
                · intro Fr u hN hO w1 hR hdep K hK
                  rw [if_pos (by rfl)]
                  have x9 : Fr.tmps[59]? = some (u 9) := hN 9 _ 59 rfl rfl rfl
                  rw [show u 9 = .bool false from hdep 9 (by kernel_rfl) w1 (rb_refl _)] at x9
                  clear hN hO hdep
                  go_simp
                  refine hK _ _ (rb_refl _) fun w3 h3 => ?_
                  exact rfl
                · intro Fr u hN hO w1 hR hdep K hK
                  have gx : Fr.tmps[60]? = some (u 10) := hN 10 _ 60 rfl rfl rfl
                  rw [show u 10 = .bool false from hdep 10 (by kernel_rfl) w1 (rb_refl _)] at gx
                  rw [if_pos (wanted_on (s := 60) rfl (by kernel_rfl) gx)]
                  have y8 : Fr.tmps[8]? = some (.pointer (some ⟨V9, 0, none⟩)) := hO 8 _ rfl rfl
                  clear hN hO hdep gx
                  go_simp
                  refine hK _ _ (rb_refl _) fun w3 h3 => ?_
                  exact rfl
                · intro Fr u hN hO w1 hR hdep K hK
                  have gx : Fr.tmps[60]? = some (u 10) := hN 10 _ 60 rfl rfl rfl
                  rw [show u 10 = .bool false from hdep 10 (by kernel_rfl) w1 (rb_refl _)] at gx
                  rw [if_pos (wanted_on (s := 60) rfl (by kernel_rfl) gx)]
                  have x11 : Fr.tmps[61]? = some (u 11) := hN 11 _ 61 rfl rfl rfl
                  rw [show u 11 = .pointer (some ⟨V9, 2, none⟩) from hdep 11 (by kernel_rfl) w1 (rb_refl _)] at x11
                  clear hN hO hdep gx
                  obtain ⟨r0, r1, r2, r3, r4, r5, r6⟩ := vcells (block_below hR HV9.out)
                  go_simp
                  refine hK _ _ (rb_refl _) fun w3 h3 => ?_
                  exact rfl
                · intro Fr u hN hO w1 hR hdep K hK
                  have gx : Fr.tmps[60]? = some (u 10) := hN 10 _ 60 rfl rfl rfl
                  rw [show u 10 = .bool false from hdep 10 (by kernel_rfl) w1 (rb_refl _)] at gx
                  rw [if_pos (wanted_on (s := 60) rfl (by kernel_rfl) gx)]
                  have y3 : Fr.tmps[3]? = some (.pointer (some ⟨G, 0, none⟩)) := hO 3 _ rfl rfl
                  clear hN hO hdep gx
                  go_simp
                  refine hK _ _ (rb_refl _) fun w3 h3 => ?_
                  exact rfl
                · intro Fr u hN hO w1 hR hdep K hK
                  have gx : Fr.tmps[60]? = some (u 10) := hN 10 _ 60 rfl rfl rfl
                  rw [show u 10 = .bool false from hdep 10 (by kernel_rfl) w1 (rb_refl _)] at gx
                  rw [if_pos (wanted_on (s := 60) rfl (by kernel_rfl) gx)]
                  have x13 : Fr.tmps[63]? = some (u 13) := hN 13 _ 63 rfl rfl rfl
                  rw [show u 13 = .pointer (some ⟨G, 1, none⟩) from hdep 13 (by kernel_rfl) w1 (rb_refl _)] at x13
                  clear hN hO hdep gx
                  have cg := block_cell (block_below hR HG9.out) (i := 1) rfl
                  go_simp
                  refine hK _ _ (rb_refl _) fun w3 h3 => ?_
                  exact rfl
                · intro Fr u hN hO w1 hR hdep K hK
                  have gx : Fr.tmps[60]? = some (u 10) := hN 10 _ 60 rfl rfl rfl
                  rw [show u 10 = .bool false from hdep 10 (by kernel_rfl) w1 (rb_refl _)] at gx
                  rw [if_pos (wanted_on (s := 60) rfl (by kernel_rfl) gx)]
                  have x12 : Fr.tmps[62]? = some (u 12) := hN 12 _ 62 rfl rfl rfl
                  rw [show u 12 = .int .i64 v.height from hdep 12 (by kernel_rfl) w1 (rb_refl _)] at x12
                  have x14 : Fr.tmps[64]? = some (u 14) := hN 14 _ 64 rfl rfl rfl
                  rw [show u 14 = .int .i64 m.height from hdep 14 (by kernel_rfl) w1 (rb_refl _)] at x14
                  clear hN hO hdep gx
                  have hht := HHT.out
                  go_simp
                  refine hK _ _ (rb_refl _) fun w3 h3 => ?_
                  exact rfl
                · intro Fr u hN hO w1 hR hdep K hK
                  rw [if_pos (by rfl)]
                  have x10 : Fr.tmps[60]? = some (u 10) := hN 10 _ 60 rfl rfl rfl
                  rw [show u 10 = .bool false from hdep 10 (by kernel_rfl) w1 (rb_refl _)] at x10
                  have x15 : Fr.tmps[65]? = some (u 15) := hN 15 _ 65 rfl rfl rfl
                  rw [show u 15 = .bool false from hdep 15 (by kernel_rfl) w1 (rb_refl _)] at x15
                  clear hN hO hdep
                  go_simp
                  refine hK _ _ (rb_refl _) fun w3 h3 => ?_
                  exact rfl
                · intro Fr u hN hO w1 hR hdep K hK
                  rw [if_pos (by rfl)]
                  have x16 : Fr.tmps[66]? = some (u 16) := hN 16 _ 66 rfl rfl rfl
                  rw [show u 16 = .bool false from hdep 16 (by kernel_rfl) w1 (rb_refl _)] at x16
                  clear hN hO hdep
                  go_simp
                  refine hK _ _ (rb_refl _) fun w3 h3 => ?_
                  exact rfl
                · intro Fr u hN hO w1 hR hdep K hK
                  have gx : Fr.tmps[67]? = some (u 17) := hN 17 _ 67 rfl rfl rfl
                  rw [show u 17 = .bool false from hdep 17 (by kernel_rfl) w1 (rb_refl _)] at gx
                  rw [if_pos (wanted_on (s := 67) rfl (by kernel_rfl) gx)]
                  have y8 : Fr.tmps[8]? = some (.pointer (some ⟨V9, 0, none⟩)) := hO 8 _ rfl rfl
                  clear hN hO hdep gx
                  go_simp
                  refine hK _ _ (rb_refl _) fun w3 h3 => ?_
                  exact rfl
                · intro Fr u hN hO w1 hR hdep K hK
                  have gx : Fr.tmps[67]? = some (u 17) := hN 17 _ 67 rfl rfl rfl
                  rw [show u 17 = .bool false from hdep 17 (by kernel_rfl) w1 (rb_refl _)] at gx
                  rw [if_pos (wanted_on (s := 67) rfl (by kernel_rfl) gx)]
                  have x18 : Fr.tmps[68]? = some (u 18) := hN 18 _ 68 rfl rfl rfl
                  rw [show u 18 = .pointer (some ⟨V9, 3, none⟩) from hdep 18 (by kernel_rfl) w1 (rb_refl _)] at x18
                  clear hN hO hdep gx
                  obtain ⟨r0, r1, r2, r3, r4, r5, r6⟩ := vcells (block_below hR HV9.out)
                  go_simp
                  refine hK _ _ (rb_refl _) fun w3 h3 => ?_
                  exact rfl
                · intro Fr u hN hO w1 hR hdep K hK
                  have gx : Fr.tmps[67]? = some (u 17) := hN 17 _ 67 rfl rfl rfl
                  rw [show u 17 = .bool false from hdep 17 (by kernel_rfl) w1 (rb_refl _)] at gx
                  rw [if_pos (wanted_on (s := 67) rfl (by kernel_rfl) gx)]
                  have y3 : Fr.tmps[3]? = some (.pointer (some ⟨G, 0, none⟩)) := hO 3 _ rfl rfl
                  clear hN hO hdep gx
                  go_simp
                  refine hK _ _ (rb_refl _) fun w3 h3 => ?_
                  exact rfl
                · intro Fr u hN hO w1 hR hdep K hK
                  have gx : Fr.tmps[67]? = some (u 17) := hN 17 _ 67 rfl rfl rfl
                  rw [show u 17 = .bool false from hdep 17 (by kernel_rfl) w1 (rb_refl _)] at gx
                  rw [if_pos (wanted_on (s := 67) rfl (by kernel_rfl) gx)]
                  have x20 : Fr.tmps[70]? = some (u 20) := hN 20 _ 70 rfl rfl rfl
                  rw [show u 20 = .pointer (some ⟨G, 2, none⟩) from hdep 20 (by kernel_rfl) w1 (rb_refl _)] at x20
                  clear hN hO hdep gx
                  have cg := block_cell (block_below hR HG9.out) (i := 2) rfl
                  go_simp
                  refine hK _ _ (rb_refl _) fun w3 h3 => ?_
                  exact rfl
                · intro Fr u hN hO w1 hR hdep K hK
                  have gx : Fr.tmps[67]? = some (u 17) := hN 17 _ 67 rfl rfl rfl
                  rw [show u 17 = .bool false from hdep 17 (by kernel_rfl) w1 (rb_refl _)] at gx
                  rw [if_pos (wanted_on (s := 67) rfl (by kernel_rfl) gx)]
                  have x19 : Fr.tmps[69]? = some (u 19) := hN 19 _ 69 rfl rfl rfl
                  rw [show u 19 = .string v.block from hdep 19 (by kernel_rfl) w1 (rb_refl _)] at x19
                  have x21 : Fr.tmps[71]? = some (u 21) := hN 21 _ 71 rfl rfl rfl
                  rw [show u 21 = .string m.block from hdep 21 (by kernel_rfl) w1 (rb_refl _)] at x21
                  clear hN hO hdep gx
                  have hbk := HBK.out
                  go_simp
                  refine hK _ _ (rb_refl _) fun w3 h3 => ?_
                  exact rfl
                · intro Fr u hN hO w1 hR hdep K hK
                  rw [if_pos (by rfl)]
                  have x17 : Fr.tmps[67]? = some (u 17) := hN 17 _ 67 rfl rfl rfl
                  rw [show u 17 = .bool false from hdep 17 (by kernel_rfl) w1 (rb_refl _)] at x17
                  have x22 : Fr.tmps[72]? = some (u 22) := hN 22 _ 72 rfl rfl rfl
                  rw [show u 22 = .bool false from hdep 22 (by kernel_rfl) w1 (rb_refl _)] at x22
                  clear hN hO hdep
                  go_simp
                  refine hK _ _ (rb_refl _) fun w3 h3 => ?_
                  exact rfl
                · intro Fr u hN hO w1 hR hdep K hK
                  rw [if_pos (by rfl)]
                  have x23 : Fr.tmps[73]? = some (u 23) := hN 23 _ 73 rfl rfl rfl
                  rw [show u 23 = .bool false from hdep 23 (by kernel_rfl) w1 (rb_refl _)] at x23
                  clear hN hO hdep
                  go_simp
                  refine hK _ _ (rb_refl _) fun w3 h3 => ?_
                  exact rfl
                · intro Fr u hN hO w1 hR hdep K hK
                  have gx : Fr.tmps[74]? = some (u 24) := hN 24 _ 74 rfl rfl rfl
                  rw [show u 24 = .bool false from hdep 24 (by kernel_rfl) w1 (rb_refl _)] at gx
                  rw [if_pos (wanted_on (s := 74) rfl (by kernel_rfl) gx)]
                  have y8 : Fr.tmps[8]? = some (.pointer (some ⟨V9, 0, none⟩)) := hO 8 _ rfl rfl
                  clear hN hO hdep gx
                  obtain ⟨r0, r1, r2, r3, r4, r5, r6⟩ := vcells (block_below hR HV9.out)
                  go_simp
                  refine hK _ _ (rb_refl _) fun w3 h3 => ?_
                  exact rfl
                · intro Fr u hN hO w1 hR hdep K hK
                  have gx : Fr.tmps[74]? = some (u 24) := hN 24 _ 74 rfl rfl rfl
                  rw [show u 24 = .bool false from hdep 24 (by kernel_rfl) w1 (rb_refl _)] at gx
                  rw [if_pos (wanted_on (s := 74) rfl (by kernel_rfl) gx)]
                  have y1 : Fr.tmps[1]? = some (.slice Ar roots.length cr) := hO 1 _ rfl rfl
                  clear hN hO hdep gx
                  go_simp
                  refine hK _ _ (rb_refl _) fun w3 h3 => ?_
                  exact rfl
                · intro Fr u hN hO w1 hR hdep K hK
                  have gx : Fr.tmps[74]? = some (u 24) := hN 24 _ 74 rfl rfl rfl
                  rw [show u 24 = .bool false from hdep 24 (by kernel_rfl) w1 (rb_refl _)] at gx
                  rw [if_pos (wanted_on (s := 74) rfl (by kernel_rfl) gx)]
                  have x25 : Fr.tmps[75]? = some (u 25) := hN 25 _ 75 rfl rfl rfl
                  rw [show u 25 = .agg (vcs v) from hdep 25 (by kernel_rfl) w1 (rb_refl _)] at x25
                  have x26 : Fr.tmps[76]? = some (u 26) := hN 26 _ 76 rfl rfl rfl
                  rw [show u 26 = .slice Ar roots.length cr from hdep 26 (by kernel_rfl) w1 (rb_refl _)] at x26
                  clear hN hO hdep gx
                  go_simp
                  refine ((HVAL.out w1 (Kd.row_below hR HROW.out))).mono ?_
                  rintro x w2 ⟨rfl, b2⟩
                  refine hK _ _ b2 fun w3 h3 => ?_
                  exact rfl
                · intro Fr u hN hO w1 hR hdep K hK
                  have gx : Fr.tmps[74]? = some (u 24) := hN 24 _ 74 rfl rfl rfl
                  rw [show u 24 = .bool false from hdep 24 (by kernel_rfl) w1 (rb_refl _)] at gx
                  rw [if_pos (wanted_on (s := 74) rfl (by kernel_rfl) gx)]
                  have x27 : Fr.tmps[77]? = some (u 27) := hN 27 _ 77 rfl rfl rfl
                  rw [show u 27 = .bool true from hdep 27 (by kernel_rfl) w1 (rb_refl _)] at x27
                  clear hN hO hdep gx
                  go_simp
                  refine hK _ _ (rb_refl _) fun w3 h3 => ?_
                  exact rfl
                · intro Fr u hN hO w1 hR hdep K hK
                  rw [if_pos (by rfl)]
                  have x24 : Fr.tmps[74]? = some (u 24) := hN 24 _ 74 rfl rfl rfl
                  rw [show u 24 = .bool false from hdep 24 (by kernel_rfl) w1 (rb_refl _)] at x24
                  have x28 : Fr.tmps[78]? = some (u 28) := hN 28 _ 78 rfl rfl rfl
                  rw [show u 28 = .bool false from hdep 28 (by kernel_rfl) w1 (rb_refl _)] at x28
                  clear hN hO hdep
                  go_simp
                  refine hK _ _ (rb_refl _) fun w3 h3 => ?_
                  exact rfl
                · intro Fr u hN hO w1 hR hdep K hK
                  rw [if_pos (by rfl)]
                  have x29 : Fr.tmps[79]? = some (u 29) := hN 29 _ 79 rfl rfl rfl
                  rw [show u 29 = .bool false from hdep 29 (by kernel_rfl) w1 (rb_refl _)] at x29
                  clear hN hO hdep
                  go_simp
                  refine hK _ _ (rb_refl _) fun w3 h3 => ?_
                  exact rfl
                · intro Fr u hN hO w1 hR hdep K hK
                  have gx : Fr.tmps[80]? = some (u 30) := hN 30 _ 80 rfl rfl rfl
                  rw [show u 30 = .bool false from hdep 30 (by kernel_rfl) w1 (rb_refl _)] at gx
                  rw [if_pos (wanted_on (s := 80) rfl (by kernel_rfl) gx)]
                  have y7 : Fr.tmps[7]? = some (.int .i64 (i : Nat)) := hO 7 _ rfl rfl
                  clear hN hO hdep gx
                  go_simp
                  refine hK _ _ (rb_refl _) fun w3 h3 => ?_
                  exact rfl
                · intro Fr u hN hO w1 hR hdep K hK
                  have gx : Fr.tmps[80]? = some (u 30) := hN 30 _ 80 rfl rfl rfl
                  rw [show u 30 = .bool false from hdep 30 (by kernel_rfl) w1 (rb_refl _)] at gx
                  rw [if_pos (wanted_on (s := 80) rfl (by kernel_rfl) gx)]
                  have x31 : Fr.tmps[81]? = some (u 31) := hN 31 _ 81 rfl rfl rfl
                  rw [show u 31 = .int .i64 (i : Nat) from hdep 31 (by kernel_rfl) w1 (rb_refl _)] at x31
                  clear hN hO hdep gx
                  have hp := HP.out
                  have hpn := HPN.out
                  go_simp
                  refine hK _ _ (rb_refl _) fun w3 h3 => ?_
                  exact rfl
                · intro Fr u hN hO w1 hR hdep K hK
                  have gx : Fr.tmps[80]? = some (u 30) := hN 30 _ 80 rfl rfl rfl
                  rw [show u 30 = .bool false from hdep 30 (by kernel_rfl) w1 (rb_refl _)] at gx
                  rw [if_pos (wanted_on (s := 80) rfl (by kernel_rfl) gx)]
                  have x32 : Fr.tmps[82]? = some (u 32) := hN 32 _ 82 rfl rfl rfl
                  rw [show u 32 = .bool false from hdep 32 (by kernel_rfl) w1 (rb_refl _)] at x32
                  clear hN hO hdep gx
                  go_simp
                  refine hK _ _ (rb_refl _) fun w3 h3 => ?_
                  exact rfl
                · intro Fr u hN hO w1 hR hdep K hK
                  have gx : Fr.tmps[83]? = some (u 33) := hN 33 _ 83 rfl rfl rfl
                  rw [show u 33 = .bool false from hdep 33 (by kernel_rfl) w1 (rb_refl _)] at gx
                  rw [if_neg (wanted_off (s := 83) rfl (by kernel_rfl) gx (by decide))]
                  exact hK _ _ (rb_refl _) fun w3 h3 => rfl
                · intro Fr u hN hO w1 hR hdep K hK
                  have gx : Fr.tmps[83]? = some (u 33) := hN 33 _ 83 rfl rfl rfl
                  rw [show u 33 = .bool false from hdep 33 (by kernel_rfl) w1 (rb_refl _)] at gx
                  rw [if_neg (wanted_off (s := 83) rfl (by kernel_rfl) gx (by decide))]
                  exact hK _ _ (rb_refl _) fun w3 h3 => rfl
                · intro Fr u hN hO w1 hR hdep K hK
                  have gx : Fr.tmps[83]? = some (u 33) := hN 33 _ 83 rfl rfl rfl
                  rw [show u 33 = .bool false from hdep 33 (by kernel_rfl) w1 (rb_refl _)] at gx
                  rw [if_neg (wanted_off (s := 83) rfl (by kernel_rfl) gx (by decide))]
                  exact hK _ _ (rb_refl _) fun w3 h3 => rfl
                · intro Fr u hN hO w1 hR hdep K hK
                  have gx : Fr.tmps[83]? = some (u 33) := hN 33 _ 83 rfl rfl rfl
                  rw [show u 33 = .bool false from hdep 33 (by kernel_rfl) w1 (rb_refl _)] at gx
                  rw [if_neg (wanted_off (s := 83) rfl (by kernel_rfl) gx (by decide))]
                  exact hK _ _ (rb_refl _) fun w3 h3 => rfl
                · intro Fr u hN hO w1 hR hdep K hK
                  have gx : Fr.tmps[83]? = some (u 33) := hN 33 _ 83 rfl rfl rfl
                  rw [show u 33 = .bool false from hdep 33 (by kernel_rfl) w1 (rb_refl _)] at gx
                  rw [if_neg (wanted_off (s := 83) rfl (by kernel_rfl) gx (by decide))]
                  exact hK _ _ (rb_refl _) fun w3 h3 => rfl
                · intro Fr u hN hO w1 hR hdep K hK
                  have gx : Fr.tmps[83]? = some (u 33) := hN 33 _ 83 rfl rfl rfl
                  rw [show u 33 = .bool false from hdep 33 (by kernel_rfl) w1 (rb_refl _)] at gx
                  rw [if_neg (wanted_off (s := 83) rfl (by kernel_rfl) gx (by decide))]
                  exact hK _ _ (rb_refl _) fun w3 h3 => rfl
                · intro Fr u hN hO w1 hR hdep K hK
                  have gx : Fr.tmps[83]? = some (u 33) := hN 33 _ 83 rfl rfl rfl
                  rw [show u 33 = .bool false from hdep 33 (by kernel_rfl) w1 (rb_refl _)] at gx
                  rw [if_neg (wanted_off (s := 83) rfl (by kernel_rfl) gx (by decide))]
                  exact hK _ _ (rb_refl _) fun w3 h3 => rfl
                · intro Fr u hN hO w1 hR hdep K hK
                  have gx : Fr.tmps[83]? = some (u 33) := hN 33 _ 83 rfl rfl rfl
                  rw [show u 33 = .bool false from hdep 33 (by kernel_rfl) w1 (rb_refl _)] at gx
                  rw [if_neg (wanted_off (s := 83) rfl (by kernel_rfl) gx (by decide))]
                  exact hK _ _ (rb_refl _) fun w3 h3 => rfl
                · intro Fr u hN hO w1 hR hdep K hK
                  have gx : Fr.tmps[83]? = some (u 33) := hN 33 _ 83 rfl rfl rfl
                  rw [show u 33 = .bool false from hdep 33 (by kernel_rfl) w1 (rb_refl _)] at gx
                  rw [if_neg (wanted_off (s := 83) rfl (by kernel_rfl) gx (by decide))]
                  exact hK _ _ (rb_refl _) fun w3 h3 => rfl
                · intro Fr u hN hO w1 hR hdep K hK
                  have gx : Fr.tmps[83]? = some (u 33) := hN 33 _ 83 rfl rfl rfl
                  rw [show u 33 = .bool false from hdep 33 (by kernel_rfl) w1 (rb_refl _)] at gx
                  rw [if_neg (wanted_off (s := 83) rfl (by kernel_rfl) gx (by decide))]
                  exact hK _ _ (rb_refl _) fun w3 h3 => rfl
                · intro Fr u hN hO w1 hR hdep K hK
                  have gx : Fr.tmps[80]? = some (u 30) := hN 30 _ 80 rfl rfl rfl
                  rw [show u 30 = .bool false from hdep 30 (by kernel_rfl) w1 (rb_refl _)] at gx
                  rw [if_pos (wanted_on (s := 80) rfl (by kernel_rfl) gx)]
                  have x33 : Fr.tmps[83]? = some (u 33) := hN 33 _ 83 rfl rfl rfl
                  rw [show u 33 = .bool false from hdep 33 (by kernel_rfl) w1 (rb_refl _)] at x33
                  have x43 : Fr.tmps[93]? = some (u 43) := hN 43 _ 93 rfl rfl rfl
                  rw [show u 43 = undef from hdep 43 (by kernel_rfl) w1 (rb_refl _)] at x43
                  clear hN hO hdep gx
                  go_simp
                  refine hK _ _ (rb_refl _) fun w3 h3 => ?_
                  exact rfl
                · intro Fr u hN hO w1 hR hdep K hK
                  rw [if_pos (by rfl)]
                  have x30 : Fr.tmps[80]? = some (u 30) := hN 30 _ 80 rfl rfl rfl
                  rw [show u 30 = .bool false from hdep 30 (by kernel_rfl) w1 (rb_refl _)] at x30
                  have x44 : Fr.tmps[94]? = some (u 44) := hN 44 _ 94 rfl rfl rfl
                  rw [show u 44 = .bool false from hdep 44 (by kernel_rfl) w1 (rb_refl _)] at x44
                  clear hN hO hdep
                  go_simp
                  refine hK _ _ (rb_refl _) fun w3 h3 => ?_
                  exact rfl
                · intro u w' hR hall
                  have h45 : u 45 = .bool false := hall 45 (by decide)
                  have bw' := bl_trans (bl_drew B4) hR
                  have belw := bl_trans (bl_drew belt) hR
                  clear hall
                  simp only [frameF, Act.put, List.setIfInBounds_toArray, List.set_cons_zero, List.set_cons_succ, Nat.reduceAdd, h45]
                  clear h45
                  have HF := Lib.hid HS.out
                  go_wp2_with fail
                  exact ⟨⟨i + 1, by omega, by go_num, by rw [HF.out]; rfl, belw⟩, by simp [intOf]; omega⟩
              · obtain ⟨p, hp⟩ : ∃ p, l[i - 1]? = some p := ⟨_, List.getElem?_eq_getElem (show i - 1 < l.length by omega)⟩
                obtain ⟨ad', hAd, -, -, -, -, -, c5, -⟩ := kVote_at rowt hp
                obtain rfl : ad = ad' := by injection hAd
                have HPS := Lib.hid c5
                have hpg : prevGe l i v = decide (v.signer ≤ p.signer) := by
                  cases i with
                  | zero => omega
                  | succ k => simp only [prevGe]; rw [show k + 1 - 1 = k by omega] at hp; rw [hp]
                have HP := Lib.hid (show ((0 : Int) < (i : Int)) by omega)
                have HPN := Lib.hid (show 0 < i by omega)
                have HK0 := Lib.hid (show (0 : Int) ≤ ((i - 1 : Nat) : Int) by omega)
                have HK1 := Lib.hid (show ((i - 1 : Nat) : Int) < (l.length : Int) by omega)
                have HI1 := Lib.hid (show IntKind.i64.wrap ((i : Int) - 1) = ((i - 1 : Nat) : Int) by
                  rw [show (i : Int) - 1 = ((i - 1 : Nat) : Int) by omega]; exact IntWalk.i64_in _ (by omega))
                obtain ⟨ps, hps⟩ : ∃ ps, ps = p.signer := ⟨_, rfl⟩
                rw [← hps] at HPS hpg
                obtain ⟨q', hq'⟩ : ∃ b, decide (v.signer ≤ ps) = b := ⟨_, rfl⟩
                rw [hpg, hq'] at HS HNO
                have HQ := Lib.hid hq'
                clear hpg hk0 hkI rowt row3 c5 hps hp hAd hq'
                refine wp_region_invA (by kernel_rfl) (by kernel_rfl) Rb (rcC G V9 i l.length roots.length c cr ad Ar v m ps q') rb_refl rb_trans ⟨?_, ?_, ?_, ?_, ?_, ?_, ?_, ?_, ?_, ?_, ?_, ?_, ?_, ?_, ?_, ?_, ?_, ?_, ?_, ?_, ?_, ?_, ?_, ?_, ?_, ?_, ?_, ?_, ?_, ?_, ?_, ?_, ?_, ?_, ?_, ?_, ?_, ?_, ?_, ?_, ?_, ?_, ?_, ?_, ?_, ?_, trivial⟩ ?_
                · intro Fr u hN hO w1 hR hdep K hK
                  rw [if_pos (by rfl)]
                  have y8 : Fr.tmps[8]? = some (.pointer (some ⟨V9, 0, none⟩)) := hO 8 _ rfl rfl
                  clear hN hO hdep
                  go_simp
                  refine hK _ _ (rb_refl _) fun w3 h3 => ?_
                  exact rfl
                · intro Fr u hN hO w1 hR hdep K hK
                  rw [if_pos (by rfl)]
                  have x0 : Fr.tmps[50]? = some (u 0) := hN 0 _ 50 rfl rfl rfl
                  rw [show u 0 = .pointer (some ⟨V9, 0, none⟩) from hdep 0 (by kernel_rfl) w1 (rb_refl _)] at x0
                  clear hN hO hdep
                  obtain ⟨r0, r1, r2, r3, r4, r5, r6⟩ := vcells (block_below hR HV9.out)
                  go_simp
                  refine hK _ _ (rb_refl _) fun w3 h3 => ?_
                  exact rfl
                · intro Fr u hN hO w1 hR hdep K hK
                  rw [if_pos (by rfl)]
                  have x1 : Fr.tmps[51]? = some (u 1) := hN 1 _ 51 rfl rfl rfl
                  rw [show u 1 = .int .i64 v.kind from hdep 1 (by kernel_rfl) w1 (rb_refl _)] at x1
                  clear hN hO hdep
                  have hkd := HKD.out
                  go_simp
                  refine hK _ _ (rb_refl _) fun w3 h3 => ?_
                  exact rfl
                · intro Fr u hN hO w1 hR hdep K hK
                  rw [if_pos (by rfl)]
                  have x2 : Fr.tmps[52]? = some (u 2) := hN 2 _ 52 rfl rfl rfl
                  rw [show u 2 = .bool false from hdep 2 (by kernel_rfl) w1 (rb_refl _)] at x2
                  clear hN hO hdep
                  go_simp
                  refine hK _ _ (rb_refl _) fun w3 h3 => ?_
                  exact rfl
                · intro Fr u hN hO w1 hR hdep K hK
                  have gx : Fr.tmps[53]? = some (u 3) := hN 3 _ 53 rfl rfl rfl
                  rw [show u 3 = .bool false from hdep 3 (by kernel_rfl) w1 (rb_refl _)] at gx
                  rw [if_pos (wanted_on (s := 53) rfl (by kernel_rfl) gx)]
                  have y8 : Fr.tmps[8]? = some (.pointer (some ⟨V9, 0, none⟩)) := hO 8 _ rfl rfl
                  clear hN hO hdep gx
                  go_simp
                  refine hK _ _ (rb_refl _) fun w3 h3 => ?_
                  exact rfl
                · intro Fr u hN hO w1 hR hdep K hK
                  have gx : Fr.tmps[53]? = some (u 3) := hN 3 _ 53 rfl rfl rfl
                  rw [show u 3 = .bool false from hdep 3 (by kernel_rfl) w1 (rb_refl _)] at gx
                  rw [if_pos (wanted_on (s := 53) rfl (by kernel_rfl) gx)]
                  have x4 : Fr.tmps[54]? = some (u 4) := hN 4 _ 54 rfl rfl rfl
                  rw [show u 4 = .pointer (some ⟨V9, 1, none⟩) from hdep 4 (by kernel_rfl) w1 (rb_refl _)] at x4
                  clear hN hO hdep gx
                  obtain ⟨r0, r1, r2, r3, r4, r5, r6⟩ := vcells (block_below hR HV9.out)
                  go_simp
                  refine hK _ _ (rb_refl _) fun w3 h3 => ?_
                  exact rfl
                · intro Fr u hN hO w1 hR hdep K hK
                  have gx : Fr.tmps[53]? = some (u 3) := hN 3 _ 53 rfl rfl rfl
                  rw [show u 3 = .bool false from hdep 3 (by kernel_rfl) w1 (rb_refl _)] at gx
                  rw [if_pos (wanted_on (s := 53) rfl (by kernel_rfl) gx)]
                  have y3 : Fr.tmps[3]? = some (.pointer (some ⟨G, 0, none⟩)) := hO 3 _ rfl rfl
                  clear hN hO hdep gx
                  go_simp
                  refine hK _ _ (rb_refl _) fun w3 h3 => ?_
                  exact rfl
                · intro Fr u hN hO w1 hR hdep K hK
                  have gx : Fr.tmps[53]? = some (u 3) := hN 3 _ 53 rfl rfl rfl
                  rw [show u 3 = .bool false from hdep 3 (by kernel_rfl) w1 (rb_refl _)] at gx
                  rw [if_pos (wanted_on (s := 53) rfl (by kernel_rfl) gx)]
                  have x6 : Fr.tmps[56]? = some (u 6) := hN 6 _ 56 rfl rfl rfl
                  rw [show u 6 = .pointer (some ⟨G, 0, none⟩) from hdep 6 (by kernel_rfl) w1 (rb_refl _)] at x6
                  clear hN hO hdep gx
                  have cg := block_cell (block_below hR HG9.out) (i := 0) rfl
                  go_simp
                  refine hK _ _ (rb_refl _) fun w3 h3 => ?_
                  exact rfl
                · intro Fr u hN hO w1 hR hdep K hK
                  have gx : Fr.tmps[53]? = some (u 3) := hN 3 _ 53 rfl rfl rfl
                  rw [show u 3 = .bool false from hdep 3 (by kernel_rfl) w1 (rb_refl _)] at gx
                  rw [if_pos (wanted_on (s := 53) rfl (by kernel_rfl) gx)]
                  have x5 : Fr.tmps[55]? = some (u 5) := hN 5 _ 55 rfl rfl rfl
                  rw [show u 5 = .int .i64 v.view from hdep 5 (by kernel_rfl) w1 (rb_refl _)] at x5
                  have x7 : Fr.tmps[57]? = some (u 7) := hN 7 _ 57 rfl rfl rfl
                  rw [show u 7 = .int .i64 m.view from hdep 7 (by kernel_rfl) w1 (rb_refl _)] at x7
                  clear hN hO hdep gx
                  have hvw := HVW.out
                  go_simp
                  refine hK _ _ (rb_refl _) fun w3 h3 => ?_
                  exact rfl
                · intro Fr u hN hO w1 hR hdep K hK
                  rw [if_pos (by rfl)]
                  have x3 : Fr.tmps[53]? = some (u 3) := hN 3 _ 53 rfl rfl rfl
                  rw [show u 3 = .bool false from hdep 3 (by kernel_rfl) w1 (rb_refl _)] at x3
                  have x8 : Fr.tmps[58]? = some (u 8) := hN 8 _ 58 rfl rfl rfl
                  rw [show u 8 = .bool false from hdep 8 (by kernel_rfl) w1 (rb_refl _)] at x8
                  clear hN hO hdep
                  go_simp
                  refine hK _ _ (rb_refl _) fun w3 h3 => ?_
                  exact rfl
                · intro Fr u hN hO w1 hR hdep K hK
                  rw [if_pos (by rfl)]
                  have x9 : Fr.tmps[59]? = some (u 9) := hN 9 _ 59 rfl rfl rfl
                  rw [show u 9 = .bool false from hdep 9 (by kernel_rfl) w1 (rb_refl _)] at x9
                  clear hN hO hdep
                  go_simp
                  refine hK _ _ (rb_refl _) fun w3 h3 => ?_
                  exact rfl
                · intro Fr u hN hO w1 hR hdep K hK
                  have gx : Fr.tmps[60]? = some (u 10) := hN 10 _ 60 rfl rfl rfl
                  rw [show u 10 = .bool false from hdep 10 (by kernel_rfl) w1 (rb_refl _)] at gx
                  rw [if_pos (wanted_on (s := 60) rfl (by kernel_rfl) gx)]
                  have y8 : Fr.tmps[8]? = some (.pointer (some ⟨V9, 0, none⟩)) := hO 8 _ rfl rfl
                  clear hN hO hdep gx
                  go_simp
                  refine hK _ _ (rb_refl _) fun w3 h3 => ?_
                  exact rfl
                · intro Fr u hN hO w1 hR hdep K hK
                  have gx : Fr.tmps[60]? = some (u 10) := hN 10 _ 60 rfl rfl rfl
                  rw [show u 10 = .bool false from hdep 10 (by kernel_rfl) w1 (rb_refl _)] at gx
                  rw [if_pos (wanted_on (s := 60) rfl (by kernel_rfl) gx)]
                  have x11 : Fr.tmps[61]? = some (u 11) := hN 11 _ 61 rfl rfl rfl
                  rw [show u 11 = .pointer (some ⟨V9, 2, none⟩) from hdep 11 (by kernel_rfl) w1 (rb_refl _)] at x11
                  clear hN hO hdep gx
                  obtain ⟨r0, r1, r2, r3, r4, r5, r6⟩ := vcells (block_below hR HV9.out)
                  go_simp
                  refine hK _ _ (rb_refl _) fun w3 h3 => ?_
                  exact rfl
                · intro Fr u hN hO w1 hR hdep K hK
                  have gx : Fr.tmps[60]? = some (u 10) := hN 10 _ 60 rfl rfl rfl
                  rw [show u 10 = .bool false from hdep 10 (by kernel_rfl) w1 (rb_refl _)] at gx
                  rw [if_pos (wanted_on (s := 60) rfl (by kernel_rfl) gx)]
                  have y3 : Fr.tmps[3]? = some (.pointer (some ⟨G, 0, none⟩)) := hO 3 _ rfl rfl
                  clear hN hO hdep gx
                  go_simp
                  refine hK _ _ (rb_refl _) fun w3 h3 => ?_
                  exact rfl
                · intro Fr u hN hO w1 hR hdep K hK
                  have gx : Fr.tmps[60]? = some (u 10) := hN 10 _ 60 rfl rfl rfl
                  rw [show u 10 = .bool false from hdep 10 (by kernel_rfl) w1 (rb_refl _)] at gx
                  rw [if_pos (wanted_on (s := 60) rfl (by kernel_rfl) gx)]
                  have x13 : Fr.tmps[63]? = some (u 13) := hN 13 _ 63 rfl rfl rfl
                  rw [show u 13 = .pointer (some ⟨G, 1, none⟩) from hdep 13 (by kernel_rfl) w1 (rb_refl _)] at x13
                  clear hN hO hdep gx
                  have cg := block_cell (block_below hR HG9.out) (i := 1) rfl
                  go_simp
                  refine hK _ _ (rb_refl _) fun w3 h3 => ?_
                  exact rfl
                · intro Fr u hN hO w1 hR hdep K hK
                  have gx : Fr.tmps[60]? = some (u 10) := hN 10 _ 60 rfl rfl rfl
                  rw [show u 10 = .bool false from hdep 10 (by kernel_rfl) w1 (rb_refl _)] at gx
                  rw [if_pos (wanted_on (s := 60) rfl (by kernel_rfl) gx)]
                  have x12 : Fr.tmps[62]? = some (u 12) := hN 12 _ 62 rfl rfl rfl
                  rw [show u 12 = .int .i64 v.height from hdep 12 (by kernel_rfl) w1 (rb_refl _)] at x12
                  have x14 : Fr.tmps[64]? = some (u 14) := hN 14 _ 64 rfl rfl rfl
                  rw [show u 14 = .int .i64 m.height from hdep 14 (by kernel_rfl) w1 (rb_refl _)] at x14
                  clear hN hO hdep gx
                  have hht := HHT.out
                  go_simp
                  refine hK _ _ (rb_refl _) fun w3 h3 => ?_
                  exact rfl
                · intro Fr u hN hO w1 hR hdep K hK
                  rw [if_pos (by rfl)]
                  have x10 : Fr.tmps[60]? = some (u 10) := hN 10 _ 60 rfl rfl rfl
                  rw [show u 10 = .bool false from hdep 10 (by kernel_rfl) w1 (rb_refl _)] at x10
                  have x15 : Fr.tmps[65]? = some (u 15) := hN 15 _ 65 rfl rfl rfl
                  rw [show u 15 = .bool false from hdep 15 (by kernel_rfl) w1 (rb_refl _)] at x15
                  clear hN hO hdep
                  go_simp
                  refine hK _ _ (rb_refl _) fun w3 h3 => ?_
                  exact rfl
                · intro Fr u hN hO w1 hR hdep K hK
                  rw [if_pos (by rfl)]
                  have x16 : Fr.tmps[66]? = some (u 16) := hN 16 _ 66 rfl rfl rfl
                  rw [show u 16 = .bool false from hdep 16 (by kernel_rfl) w1 (rb_refl _)] at x16
                  clear hN hO hdep
                  go_simp
                  refine hK _ _ (rb_refl _) fun w3 h3 => ?_
                  exact rfl
                · intro Fr u hN hO w1 hR hdep K hK
                  have gx : Fr.tmps[67]? = some (u 17) := hN 17 _ 67 rfl rfl rfl
                  rw [show u 17 = .bool false from hdep 17 (by kernel_rfl) w1 (rb_refl _)] at gx
                  rw [if_pos (wanted_on (s := 67) rfl (by kernel_rfl) gx)]
                  have y8 : Fr.tmps[8]? = some (.pointer (some ⟨V9, 0, none⟩)) := hO 8 _ rfl rfl
                  clear hN hO hdep gx
                  go_simp
                  refine hK _ _ (rb_refl _) fun w3 h3 => ?_
                  exact rfl
                · intro Fr u hN hO w1 hR hdep K hK
                  have gx : Fr.tmps[67]? = some (u 17) := hN 17 _ 67 rfl rfl rfl
                  rw [show u 17 = .bool false from hdep 17 (by kernel_rfl) w1 (rb_refl _)] at gx
                  rw [if_pos (wanted_on (s := 67) rfl (by kernel_rfl) gx)]
                  have x18 : Fr.tmps[68]? = some (u 18) := hN 18 _ 68 rfl rfl rfl
                  rw [show u 18 = .pointer (some ⟨V9, 3, none⟩) from hdep 18 (by kernel_rfl) w1 (rb_refl _)] at x18
                  clear hN hO hdep gx
                  obtain ⟨r0, r1, r2, r3, r4, r5, r6⟩ := vcells (block_below hR HV9.out)
                  go_simp
                  refine hK _ _ (rb_refl _) fun w3 h3 => ?_
                  exact rfl
                · intro Fr u hN hO w1 hR hdep K hK
                  have gx : Fr.tmps[67]? = some (u 17) := hN 17 _ 67 rfl rfl rfl
                  rw [show u 17 = .bool false from hdep 17 (by kernel_rfl) w1 (rb_refl _)] at gx
                  rw [if_pos (wanted_on (s := 67) rfl (by kernel_rfl) gx)]
                  have y3 : Fr.tmps[3]? = some (.pointer (some ⟨G, 0, none⟩)) := hO 3 _ rfl rfl
                  clear hN hO hdep gx
                  go_simp
                  refine hK _ _ (rb_refl _) fun w3 h3 => ?_
                  exact rfl
                · intro Fr u hN hO w1 hR hdep K hK
                  have gx : Fr.tmps[67]? = some (u 17) := hN 17 _ 67 rfl rfl rfl
                  rw [show u 17 = .bool false from hdep 17 (by kernel_rfl) w1 (rb_refl _)] at gx
                  rw [if_pos (wanted_on (s := 67) rfl (by kernel_rfl) gx)]
                  have x20 : Fr.tmps[70]? = some (u 20) := hN 20 _ 70 rfl rfl rfl
                  rw [show u 20 = .pointer (some ⟨G, 2, none⟩) from hdep 20 (by kernel_rfl) w1 (rb_refl _)] at x20
                  clear hN hO hdep gx
                  have cg := block_cell (block_below hR HG9.out) (i := 2) rfl
                  go_simp
                  refine hK _ _ (rb_refl _) fun w3 h3 => ?_
                  exact rfl
                · intro Fr u hN hO w1 hR hdep K hK
                  have gx : Fr.tmps[67]? = some (u 17) := hN 17 _ 67 rfl rfl rfl
                  rw [show u 17 = .bool false from hdep 17 (by kernel_rfl) w1 (rb_refl _)] at gx
                  rw [if_pos (wanted_on (s := 67) rfl (by kernel_rfl) gx)]
                  have x19 : Fr.tmps[69]? = some (u 19) := hN 19 _ 69 rfl rfl rfl
                  rw [show u 19 = .string v.block from hdep 19 (by kernel_rfl) w1 (rb_refl _)] at x19
                  have x21 : Fr.tmps[71]? = some (u 21) := hN 21 _ 71 rfl rfl rfl
                  rw [show u 21 = .string m.block from hdep 21 (by kernel_rfl) w1 (rb_refl _)] at x21
                  clear hN hO hdep gx
                  have hbk := HBK.out
                  go_simp
                  refine hK _ _ (rb_refl _) fun w3 h3 => ?_
                  exact rfl
                · intro Fr u hN hO w1 hR hdep K hK
                  rw [if_pos (by rfl)]
                  have x17 : Fr.tmps[67]? = some (u 17) := hN 17 _ 67 rfl rfl rfl
                  rw [show u 17 = .bool false from hdep 17 (by kernel_rfl) w1 (rb_refl _)] at x17
                  have x22 : Fr.tmps[72]? = some (u 22) := hN 22 _ 72 rfl rfl rfl
                  rw [show u 22 = .bool false from hdep 22 (by kernel_rfl) w1 (rb_refl _)] at x22
                  clear hN hO hdep
                  go_simp
                  refine hK _ _ (rb_refl _) fun w3 h3 => ?_
                  exact rfl
                · intro Fr u hN hO w1 hR hdep K hK
                  rw [if_pos (by rfl)]
                  have x23 : Fr.tmps[73]? = some (u 23) := hN 23 _ 73 rfl rfl rfl
                  rw [show u 23 = .bool false from hdep 23 (by kernel_rfl) w1 (rb_refl _)] at x23
                  clear hN hO hdep
                  go_simp
                  refine hK _ _ (rb_refl _) fun w3 h3 => ?_
                  exact rfl
                · intro Fr u hN hO w1 hR hdep K hK
                  have gx : Fr.tmps[74]? = some (u 24) := hN 24 _ 74 rfl rfl rfl
                  rw [show u 24 = .bool false from hdep 24 (by kernel_rfl) w1 (rb_refl _)] at gx
                  rw [if_pos (wanted_on (s := 74) rfl (by kernel_rfl) gx)]
                  have y8 : Fr.tmps[8]? = some (.pointer (some ⟨V9, 0, none⟩)) := hO 8 _ rfl rfl
                  clear hN hO hdep gx
                  obtain ⟨r0, r1, r2, r3, r4, r5, r6⟩ := vcells (block_below hR HV9.out)
                  go_simp
                  refine hK _ _ (rb_refl _) fun w3 h3 => ?_
                  exact rfl
                · intro Fr u hN hO w1 hR hdep K hK
                  have gx : Fr.tmps[74]? = some (u 24) := hN 24 _ 74 rfl rfl rfl
                  rw [show u 24 = .bool false from hdep 24 (by kernel_rfl) w1 (rb_refl _)] at gx
                  rw [if_pos (wanted_on (s := 74) rfl (by kernel_rfl) gx)]
                  have y1 : Fr.tmps[1]? = some (.slice Ar roots.length cr) := hO 1 _ rfl rfl
                  clear hN hO hdep gx
                  go_simp
                  refine hK _ _ (rb_refl _) fun w3 h3 => ?_
                  exact rfl
                · intro Fr u hN hO w1 hR hdep K hK
                  have gx : Fr.tmps[74]? = some (u 24) := hN 24 _ 74 rfl rfl rfl
                  rw [show u 24 = .bool false from hdep 24 (by kernel_rfl) w1 (rb_refl _)] at gx
                  rw [if_pos (wanted_on (s := 74) rfl (by kernel_rfl) gx)]
                  have x25 : Fr.tmps[75]? = some (u 25) := hN 25 _ 75 rfl rfl rfl
                  rw [show u 25 = .agg (vcs v) from hdep 25 (by kernel_rfl) w1 (rb_refl _)] at x25
                  have x26 : Fr.tmps[76]? = some (u 26) := hN 26 _ 76 rfl rfl rfl
                  rw [show u 26 = .slice Ar roots.length cr from hdep 26 (by kernel_rfl) w1 (rb_refl _)] at x26
                  clear hN hO hdep gx
                  go_simp
                  refine ((HVAL.out w1 (Kd.row_below hR HROW.out))).mono ?_
                  rintro x w2 ⟨rfl, b2⟩
                  refine hK _ _ b2 fun w3 h3 => ?_
                  exact rfl
                · intro Fr u hN hO w1 hR hdep K hK
                  have gx : Fr.tmps[74]? = some (u 24) := hN 24 _ 74 rfl rfl rfl
                  rw [show u 24 = .bool false from hdep 24 (by kernel_rfl) w1 (rb_refl _)] at gx
                  rw [if_pos (wanted_on (s := 74) rfl (by kernel_rfl) gx)]
                  have x27 : Fr.tmps[77]? = some (u 27) := hN 27 _ 77 rfl rfl rfl
                  rw [show u 27 = .bool true from hdep 27 (by kernel_rfl) w1 (rb_refl _)] at x27
                  clear hN hO hdep gx
                  go_simp
                  refine hK _ _ (rb_refl _) fun w3 h3 => ?_
                  exact rfl
                · intro Fr u hN hO w1 hR hdep K hK
                  rw [if_pos (by rfl)]
                  have x24 : Fr.tmps[74]? = some (u 24) := hN 24 _ 74 rfl rfl rfl
                  rw [show u 24 = .bool false from hdep 24 (by kernel_rfl) w1 (rb_refl _)] at x24
                  have x28 : Fr.tmps[78]? = some (u 28) := hN 28 _ 78 rfl rfl rfl
                  rw [show u 28 = .bool false from hdep 28 (by kernel_rfl) w1 (rb_refl _)] at x28
                  clear hN hO hdep
                  go_simp
                  refine hK _ _ (rb_refl _) fun w3 h3 => ?_
                  exact rfl
                · intro Fr u hN hO w1 hR hdep K hK
                  rw [if_pos (by rfl)]
                  have x29 : Fr.tmps[79]? = some (u 29) := hN 29 _ 79 rfl rfl rfl
                  rw [show u 29 = .bool false from hdep 29 (by kernel_rfl) w1 (rb_refl _)] at x29
                  clear hN hO hdep
                  go_simp
                  refine hK _ _ (rb_refl _) fun w3 h3 => ?_
                  exact rfl
                · intro Fr u hN hO w1 hR hdep K hK
                  have gx : Fr.tmps[80]? = some (u 30) := hN 30 _ 80 rfl rfl rfl
                  rw [show u 30 = .bool false from hdep 30 (by kernel_rfl) w1 (rb_refl _)] at gx
                  rw [if_pos (wanted_on (s := 80) rfl (by kernel_rfl) gx)]
                  have y7 : Fr.tmps[7]? = some (.int .i64 (i : Nat)) := hO 7 _ rfl rfl
                  clear hN hO hdep gx
                  go_simp
                  refine hK _ _ (rb_refl _) fun w3 h3 => ?_
                  exact rfl
                · intro Fr u hN hO w1 hR hdep K hK
                  have gx : Fr.tmps[80]? = some (u 30) := hN 30 _ 80 rfl rfl rfl
                  rw [show u 30 = .bool false from hdep 30 (by kernel_rfl) w1 (rb_refl _)] at gx
                  rw [if_pos (wanted_on (s := 80) rfl (by kernel_rfl) gx)]
                  have x31 : Fr.tmps[81]? = some (u 31) := hN 31 _ 81 rfl rfl rfl
                  rw [show u 31 = .int .i64 (i : Nat) from hdep 31 (by kernel_rfl) w1 (rb_refl _)] at x31
                  clear hN hO hdep gx
                  have hp := HP.out
                  have hpn := HPN.out
                  go_simp
                  refine hK _ _ (rb_refl _) fun w3 h3 => ?_
                  exact rfl
                · intro Fr u hN hO w1 hR hdep K hK
                  have gx : Fr.tmps[80]? = some (u 30) := hN 30 _ 80 rfl rfl rfl
                  rw [show u 30 = .bool false from hdep 30 (by kernel_rfl) w1 (rb_refl _)] at gx
                  rw [if_pos (wanted_on (s := 80) rfl (by kernel_rfl) gx)]
                  have x32 : Fr.tmps[82]? = some (u 32) := hN 32 _ 82 rfl rfl rfl
                  rw [show u 32 = .bool true from hdep 32 (by kernel_rfl) w1 (rb_refl _)] at x32
                  clear hN hO hdep gx
                  go_simp
                  refine hK _ _ (rb_refl _) fun w3 h3 => ?_
                  exact rfl
                · intro Fr u hN hO w1 hR hdep K hK
                  have gx : Fr.tmps[83]? = some (u 33) := hN 33 _ 83 rfl rfl rfl
                  rw [show u 33 = .bool true from hdep 33 (by kernel_rfl) w1 (rb_refl _)] at gx
                  rw [if_pos (wanted_on (s := 83) rfl (by kernel_rfl) gx)]
                  have y3 : Fr.tmps[3]? = some (.pointer (some ⟨G, 0, none⟩)) := hO 3 _ rfl rfl
                  clear hN hO hdep gx
                  go_simp
                  refine hK _ _ (rb_refl _) fun w3 h3 => ?_
                  exact rfl
                · intro Fr u hN hO w1 hR hdep K hK
                  have gx : Fr.tmps[83]? = some (u 33) := hN 33 _ 83 rfl rfl rfl
                  rw [show u 33 = .bool true from hdep 33 (by kernel_rfl) w1 (rb_refl _)] at gx
                  rw [if_pos (wanted_on (s := 83) rfl (by kernel_rfl) gx)]
                  have x34 : Fr.tmps[84]? = some (u 34) := hN 34 _ 84 rfl rfl rfl
                  rw [show u 34 = .pointer (some ⟨G, 3, none⟩) from hdep 34 (by kernel_rfl) w1 (rb_refl _)] at x34
                  clear hN hO hdep gx
                  have cg := block_cell (block_below hR HG9.out) (i := 3) rfl
                  go_simp
                  refine hK _ _ (rb_refl _) fun w3 h3 => ?_
                  exact rfl
                · intro Fr u hN hO w1 hR hdep K hK
                  have gx : Fr.tmps[83]? = some (u 33) := hN 33 _ 83 rfl rfl rfl
                  rw [show u 33 = .bool true from hdep 33 (by kernel_rfl) w1 (rb_refl _)] at gx
                  rw [if_pos (wanted_on (s := 83) rfl (by kernel_rfl) gx)]
                  have y7 : Fr.tmps[7]? = some (.int .i64 (i : Nat)) := hO 7 _ rfl rfl
                  clear hN hO hdep gx
                  go_simp
                  refine hK _ _ (rb_refl _) fun w3 h3 => ?_
                  exact rfl
                · intro Fr u hN hO w1 hR hdep K hK
                  have gx : Fr.tmps[83]? = some (u 33) := hN 33 _ 83 rfl rfl rfl
                  rw [show u 33 = .bool true from hdep 33 (by kernel_rfl) w1 (rb_refl _)] at gx
                  rw [if_pos (wanted_on (s := 83) rfl (by kernel_rfl) gx)]
                  have x36 : Fr.tmps[86]? = some (u 36) := hN 36 _ 86 rfl rfl rfl
                  rw [show u 36 = .int .i64 (i : Nat) from hdep 36 (by kernel_rfl) w1 (rb_refl _)] at x36
                  clear hN hO hdep gx
                  have hi1 : IntKind.i64.wrap ((i : Int) - 1) = ((i - 1 : Nat) : Int) := HI1.out
                  go_simp
                  refine hK _ _ (rb_refl _) fun w3 h3 => ?_
                  exact rfl
                · intro Fr u hN hO w1 hR hdep K hK
                  have gx : Fr.tmps[83]? = some (u 33) := hN 33 _ 83 rfl rfl rfl
                  rw [show u 33 = .bool true from hdep 33 (by kernel_rfl) w1 (rb_refl _)] at gx
                  rw [if_pos (wanted_on (s := 83) rfl (by kernel_rfl) gx)]
                  have x35 : Fr.tmps[85]? = some (u 35) := hN 35 _ 85 rfl rfl rfl
                  rw [show u 35 = .slice (some ad) l.length c from hdep 35 (by kernel_rfl) w1 (rb_refl _)] at x35
                  have x37 : Fr.tmps[87]? = some (u 37) := hN 37 _ 87 rfl rfl rfl
                  rw [show u 37 = .int .i64 ((i - 1 : Nat) : Int) from hdep 37 (by kernel_rfl) w1 (rb_refl _)] at x37
                  clear hN hO hdep gx
                  have hk0 := HK0.out
                  have hk1 := HK1.out
                  go_simp
                  refine hK _ _ (rb_refl _) fun w3 h3 => ?_
                  exact rfl
                · intro Fr u hN hO w1 hR hdep K hK
                  have gx : Fr.tmps[83]? = some (u 33) := hN 33 _ 83 rfl rfl rfl
                  rw [show u 33 = .bool true from hdep 33 (by kernel_rfl) w1 (rb_refl _)] at gx
                  rw [if_pos (wanted_on (s := 83) rfl (by kernel_rfl) gx)]
                  have x38 : Fr.tmps[88]? = some (u 38) := hN 38 _ 88 rfl rfl rfl
                  rw [show u 38 = .pointer (some (ad.add ((i - 1) * 7))) from hdep 38 (by kernel_rfl) w1 (rb_refl _)] at x38
                  clear hN hO hdep gx
                  go_simp
                  refine hK _ _ (rb_refl _) fun w3 h3 => ?_
                  exact rfl
                · intro Fr u hN hO w1 hR hdep K hK
                  have gx : Fr.tmps[83]? = some (u 33) := hN 33 _ 83 rfl rfl rfl
                  rw [show u 33 = .bool true from hdep 33 (by kernel_rfl) w1 (rb_refl _)] at gx
                  rw [if_pos (wanted_on (s := 83) rfl (by kernel_rfl) gx)]
                  have x39 : Fr.tmps[89]? = some (u 39) := hN 39 _ 89 rfl rfl rfl
                  rw [show u 39 = .pointer (some ⟨(ad.add ((i - 1) * 7)).block, (ad.add ((i - 1) * 7)).off + 5, none⟩) from hdep 39 (by kernel_rfl) w1 (rb_refl _)] at x39
                  clear hN hO hdep gx
                  have cp := cell_below hR HPS.out
                  go_simp
                  refine hK _ _ (rb_refl _) fun w3 h3 => ?_
                  exact rfl
                · intro Fr u hN hO w1 hR hdep K hK
                  have gx : Fr.tmps[83]? = some (u 33) := hN 33 _ 83 rfl rfl rfl
                  rw [show u 33 = .bool true from hdep 33 (by kernel_rfl) w1 (rb_refl _)] at gx
                  rw [if_pos (wanted_on (s := 83) rfl (by kernel_rfl) gx)]
                  have y8 : Fr.tmps[8]? = some (.pointer (some ⟨V9, 0, none⟩)) := hO 8 _ rfl rfl
                  clear hN hO hdep gx
                  go_simp
                  refine hK _ _ (rb_refl _) fun w3 h3 => ?_
                  exact rfl
                · intro Fr u hN hO w1 hR hdep K hK
                  have gx : Fr.tmps[83]? = some (u 33) := hN 33 _ 83 rfl rfl rfl
                  rw [show u 33 = .bool true from hdep 33 (by kernel_rfl) w1 (rb_refl _)] at gx
                  rw [if_pos (wanted_on (s := 83) rfl (by kernel_rfl) gx)]
                  have x41 : Fr.tmps[91]? = some (u 41) := hN 41 _ 91 rfl rfl rfl
                  rw [show u 41 = .pointer (some ⟨V9, 5, none⟩) from hdep 41 (by kernel_rfl) w1 (rb_refl _)] at x41
                  clear hN hO hdep gx
                  obtain ⟨r0, r1, r2, r3, r4, r5, r6⟩ := vcells (block_below hR HV9.out)
                  go_simp
                  refine hK _ _ (rb_refl _) fun w3 h3 => ?_
                  exact rfl
                · intro Fr u hN hO w1 hR hdep K hK
                  have gx : Fr.tmps[83]? = some (u 33) := hN 33 _ 83 rfl rfl rfl
                  rw [show u 33 = .bool true from hdep 33 (by kernel_rfl) w1 (rb_refl _)] at gx
                  rw [if_pos (wanted_on (s := 83) rfl (by kernel_rfl) gx)]
                  have x40 : Fr.tmps[90]? = some (u 40) := hN 40 _ 90 rfl rfl rfl
                  rw [show u 40 = .int .i64 ps from hdep 40 (by kernel_rfl) w1 (rb_refl _)] at x40
                  have x42 : Fr.tmps[92]? = some (u 42) := hN 42 _ 92 rfl rfl rfl
                  rw [show u 42 = .int .i64 v.signer from hdep 42 (by kernel_rfl) w1 (rb_refl _)] at x42
                  clear hN hO hdep gx
                  have hq := HQ.out
                  go_simp
                  refine hK _ _ (rb_refl _) fun w3 h3 => ?_
                  exact rfl
                · intro Fr u hN hO w1 hR hdep K hK
                  have gx : Fr.tmps[80]? = some (u 30) := hN 30 _ 80 rfl rfl rfl
                  rw [show u 30 = .bool false from hdep 30 (by kernel_rfl) w1 (rb_refl _)] at gx
                  rw [if_pos (wanted_on (s := 80) rfl (by kernel_rfl) gx)]
                  have x33 : Fr.tmps[83]? = some (u 33) := hN 33 _ 83 rfl rfl rfl
                  rw [show u 33 = .bool true from hdep 33 (by kernel_rfl) w1 (rb_refl _)] at x33
                  have x43 : Fr.tmps[93]? = some (u 43) := hN 43 _ 93 rfl rfl rfl
                  rw [show u 43 = .bool q' from hdep 43 (by kernel_rfl) w1 (rb_refl _)] at x43
                  clear hN hO hdep gx
                  go_simp
                  refine hK _ _ (rb_refl _) fun w3 h3 => ?_
                  exact rfl
                · intro Fr u hN hO w1 hR hdep K hK
                  rw [if_pos (by rfl)]
                  have x30 : Fr.tmps[80]? = some (u 30) := hN 30 _ 80 rfl rfl rfl
                  rw [show u 30 = .bool false from hdep 30 (by kernel_rfl) w1 (rb_refl _)] at x30
                  have x44 : Fr.tmps[94]? = some (u 44) := hN 44 _ 94 rfl rfl rfl
                  rw [show u 44 = .bool q' from hdep 44 (by kernel_rfl) w1 (rb_refl _)] at x44
                  clear hN hO hdep
                  go_simp
                  refine hK _ _ (rb_refl _) fun w3 h3 => ?_
                  exact rfl
                · intro u w' hR hall
                  have h45 : u 45 = .bool q' := hall 45 (by decide)
                  have bw' := bl_trans (bl_drew B4) hR
                  have belw := bl_trans (bl_drew belt) hR
                  clear hall
                  simp only [frameF, Act.put, List.setIfInBounds_toArray, List.set_cons_zero, List.set_cons_succ, Nat.reduceAdd, h45]
                  clear h45
                  cases q'
                  · have HF := Lib.hid HS.out
                    go_wp2_with fail
                    exact ⟨⟨i + 1, by omega, by go_num, by rw [HF.out]; rfl, belw⟩, by simp [intOf]; omega⟩
                  · have HF := Lib.hid (HNO.out (by simp))
                    go_wp2_with fail
                    go_ret
                    exact ⟨by rw [← HRES.out, HF.out]; rfl, bw'⟩
end Go.Proofs.Ytglneailkgminaa
