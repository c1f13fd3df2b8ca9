/- The learner's order of statements, in plain Lean. No claim of its own; no condition. -/
import Derived.Test.YtcbfpdenjdgnlaaGreatQt29
import Derived.Test.YtcbfpdenjdgnlaaGreatQt45
namespace Go.Proofs.YtcbfpdenjdgnlaaGreat
open Go.Sort
set_option linter.unusedVariables false
set_option linter.unusedSimpArgs false
/-- A comparison that is one. -/
structure GoodC {α : Type} (c : α → α → Int) : Prop where
  refl : ∀ a, c a a = 0
  symm : ∀ a b, c a b = 0 → c b a = 0
  tr0 : ∀ a b d, c a b = 0 → c b d = 0 → c a d = 0
  tr : ∀ a b d, c a b < 0 → c b d < 0 → c a d < 0
  l0 : ∀ a b d, c a b = 0 → c b d < 0 → c a d < 0
  r0 : ∀ a b d, c a b < 0 → c b d = 0 → c a d < 0
  tri : ∀ a b, 0 < c a b → c b a < 0
  asym : ∀ a b, c a b < 0 → 0 < c b a
theorem good_int {α : Type} (k : α → Int) : GoodC fun a b => Lib.compareInt (k a) (k b) := by
  have h : ∀ x y : Int, (Lib.compareInt x y < 0 ↔ x < y) ∧ (Lib.compareInt x y = 0 ↔ x = y) ∧ (0 < Lib.compareInt x y ↔ y < x) := by
    intro x y
    unfold Lib.compareInt
    repeat' split
    all_goals refine ⟨?_, ?_, ?_⟩ <;> constructor <;> intro h <;> omega
  constructor <;> intros <;> simp only [h] at * <;> omega
theorem good_str {α : Type} (k : α → ByteArray) : GoodC fun a b => cmpStr (k a) (k b) := by
  have h : ∀ x y : ByteArray, (cmpStr x y < 0 ↔ strLt x y = true) ∧ (cmpStr x y = 0 ↔ x = y) ∧ (0 < cmpStr x y ↔ strLt y x = true) := by
    intro x y
    unfold cmpStr
    by_cases h1 : strLt x y = true
    · have h2 : ¬ strLt y x = true := fun h2 => by have := strLt_tr h1 h2; rw [strLt_irr] at this; cases this
      have h3 : x ≠ y := fun e => by subst e; rw [strLt_irr] at h1; cases h1
      simp [h1, h2, h3]
    · by_cases h2 : strLt y x = true
      · have h3 : x ≠ y := fun e => by subst e; exact h1 h2
        simp [h1, h2, h3]
      · have h3 : x = y := strLt_tri (by simpa using h1) (by simpa using h2)
        rw [if_neg h1, if_neg h2]
        exact ⟨⟨fun h => by omega, fun h => absurd h h1⟩, ⟨fun _ => h3, fun _ => rfl⟩, ⟨fun h => by omega, fun h => absurd h h2⟩⟩
  constructor
  · intro a; exact (h _ _).2.1.2 rfl
  · intro a b e; exact (h _ _).2.1.2 ((h _ _).2.1.1 e).symm
  · intro a b d e1 e2; exact (h _ _).2.1.2 (((h _ _).2.1.1 e1).trans ((h _ _).2.1.1 e2))
  · intro a b d e1 e2; exact (h _ _).1.2 (strLt_tr ((h _ _).1.1 e1) ((h _ _).1.1 e2))
  · intro a b d e1 e2; rw [(h _ _).2.1] at e1; simp only [e1]; exact e2
  · intro a b d e1 e2; rw [(h _ _).2.1] at e2; simp only [← e2]; exact e1
  · intro a b e; exact (h _ _).1.2 ((h _ _).2.2.1 e)
  · intro a b e; exact (h _ _).2.2.2 ((h _ _).1.1 e)
def lexC {α : Type} (c d : α → α → Int) (a b : α) : Int := if c a b ≠ 0 then c a b else d a b
theorem lex_lt {α : Type} {c d : α → α → Int} {a b : α} : lexC c d a b < 0 ↔ c a b < 0 ∨ (c a b = 0 ∧ d a b < 0) := by
  unfold lexC; split <;> omega
theorem lex_gt {α : Type} {c d : α → α → Int} {a b : α} : 0 < lexC c d a b ↔ 0 < c a b ∨ (c a b = 0 ∧ 0 < d a b) := by
  unfold lexC; split <;> omega
theorem lex_eq {α : Type} {c d : α → α → Int} {a b : α} : lexC c d a b = 0 ↔ c a b = 0 ∧ d a b = 0 := by
  unfold lexC; split <;> omega
theorem good_lex {α : Type} {c d : α → α → Int} (hc : GoodC c) (hd : GoodC d) : GoodC (lexC c d) := by
  constructor
  · intro a; exact lex_eq.2 ⟨hc.refl a, hd.refl a⟩
  · intro a b h; rw [lex_eq] at *; exact ⟨hc.symm _ _ h.1, hd.symm _ _ h.2⟩
  · intro a b e h k; rw [lex_eq] at *; exact ⟨hc.tr0 _ _ _ h.1 k.1, hd.tr0 _ _ _ h.2 k.2⟩
  · intro a b e h k
    rw [lex_lt] at *
    rcases h with h | ⟨h, h'⟩ <;> rcases k with k | ⟨k, k'⟩
    · exact .inl (hc.tr _ _ _ h k)
    · exact .inl (hc.r0 _ _ _ h k)
    · exact .inl (hc.l0 _ _ _ h k)
    · exact .inr ⟨hc.tr0 _ _ _ h k, hd.tr _ _ _ h' k'⟩
  · intro a b e h k
    rw [lex_eq] at h
    rw [lex_lt] at *
    rcases k with k | ⟨k, k'⟩
    · exact .inl (hc.l0 _ _ _ h.1 k)
    · exact .inr ⟨hc.tr0 _ _ _ h.1 k, hd.l0 _ _ _ h.2 k'⟩
  · intro a b e h k
    rw [lex_eq] at k
    rw [lex_lt] at *
    rcases h with h | ⟨h, h'⟩
    · exact .inl (hc.r0 _ _ _ h k.1)
    · exact .inr ⟨hc.tr0 _ _ _ h k.1, hd.r0 _ _ _ h' k.2⟩
  · intro a b h
    rw [lex_gt] at h
    rw [lex_lt]
    exact h.imp (hc.tri _ _) fun h => ⟨hc.symm _ _ h.1, hd.tri _ _ h.2⟩
  · intro a b h
    rw [lex_lt] at h
    rw [lex_gt]
    exact h.imp (hc.asym _ _) fun h => ⟨hc.symm _ _ h.1, hd.asym _ _ h.2⟩
theorem good_swo {α : Type} {c : α → α → Int} (h : GoodC c) : SWO (ltOf c) where
  irrefl x := by unfold ltOf; rw [h.refl]; rfl
  trans x y z a b := by unfold ltOf at *; simp only [decide_eq_true_eq] at *; exact h.tr _ _ _ a b
  ntrans x y z a b := by
    unfold ltOf at *
    simp only [decide_eq_false_iff_not] at *
    intro hxz
    rcases Int.lt_trichotomy (c x y) 0 with k | k | k
    · exact a k
    · exact b (h.l0 _ _ _ (h.symm _ _ k) hxz)
    · exact b (h.tr _ _ _ (h.tri _ _ k) hxz)
/-- Two that are in order, of the same elements, are one. -/
theorem sorted_one {α : Type} {c : α → α → Int} (h : GoodC c) : ∀ (l m : List α), l.Perm m → l.Pairwise (fun a b => ltOf c b a = false) → m.Pairwise (fun a b => ltOf c b a = false) → (∀ a ∈ l, ∀ b ∈ l, c a b = 0 → a = b) → l = m
  | [], m, hp, _, _, _ => (List.nil_perm.1 hp).symm
  | a :: l, [], hp, _, _, _ => by have := hp.length_eq; simp at this
  | a :: l, b :: m, hp, hl, hm, he => by
    have hab : a = b := by
      have ha : a ∈ b :: m := hp.mem_iff.1 (by simp)
      have hb : b ∈ a :: l := hp.mem_iff.2 (by simp)
      rw [List.pairwise_cons] at hl hm
      rcases List.mem_cons.1 ha with e | ha
      · exact e
      rcases List.mem_cons.1 hb with e | hb'
      · exact e.symm
      have h1 := hl.1 b hb'
      have h2 := hm.1 a ha
      unfold ltOf at h1 h2
      simp only [decide_eq_false_iff_not] at h1 h2
      refine he a (by simp) b hb ?_
      rcases Int.lt_trichotomy (c a b) 0 with k | k | k
      · exact absurd k h2
      · exact k
      · exact absurd (h.tri _ _ k) h1
    subst hab
    rw [sorted_one h l m (List.Perm.cons_inv hp) (List.pairwise_cons.1 hl).2 (List.pairwise_cons.1 hm).2 fun x hx y hy => he x (by simp [hx]) y (by simp [hy])]
def ordV (a b : Vote) : Int := orF [Lib.compareInt a.kind b.kind, Lib.compareInt a.view b.view, Lib.compareInt a.height b.height, cmpStr a.block b.block, Lib.compareInt a.ticks b.ticks, Lib.compareInt a.signer b.signer]
theorem orF_cons (x : Int) (l : List Int) : orF (x :: l) = if x ≠ 0 then x else orF l := rfl
theorem ordV_lex : ordV = lexC (fun a b : Vote => Lib.compareInt a.kind b.kind) (lexC (fun a b => Lib.compareInt a.view b.view) (lexC (fun a b => Lib.compareInt a.height b.height) (lexC (fun a b => cmpStr a.block b.block) (lexC (fun a b => Lib.compareInt a.ticks b.ticks) (fun a b => Lib.compareInt a.signer b.signer))))) := by
  funext a b
  unfold ordV lexC
  simp only [orF_cons, orF]
  have : ∀ x : Int, (if x ≠ 0 then x else 0) = x := fun x => by split <;> omega
  simp only [this]
theorem ordV_good : GoodC ordV := by
  rw [ordV_lex]
  exact good_lex (good_int _) (good_lex (good_int _) (good_lex (good_int _) (good_lex (good_str _) (good_lex (good_int _) (good_int _)))))
theorem ordV_swo : SWO (ltOf ordV) := good_swo ordV_good
theorem ordV_eq {a b : Vote} (h : ordV a b = 0) : bareV a = bareV b := by
  rw [ordV_lex] at h
  simp only [lex_eq] at h
  obtain ⟨h1, h2, h3, h4, h5, h6⟩ := h
  have k := fun x y => (cmp_lt x y).2
  rw [k] at h1 h2 h3 h5 h6
  have h4' : a.block = b.block := by
    unfold cmpStr at h4
    split at h4
    · cases h4
    · split at h4
      · cases h4
      · rename_i p q; exact strLt_tri (by simpa using p) (by simpa using q)
  unfold bareV
  rw [h1, h2, h3, h4', h5, h6]
/-- Statements in their order. -/
def stmts (vs : List Vote) : List Vote := vs.mergeSort fun a b => !ltOf ordV b a
theorem stmts_perm (vs : List Vote) : (stmts vs).Perm vs := List.mergeSort_perm _ _
theorem stmts_sorted (vs : List Vote) : (stmts vs).Pairwise fun a b => ltOf ordV b a = false := by
  have := List.pairwise_mergeSort (le := fun a b : Vote => !ltOf ordV b a) (fun a b d h k => by
    simp only [Bool.not_eq_true', ltOf, decide_eq_false_iff_not] at *
    intro hh
    have := ordV_swo.ntrans d b a (by simpa [ltOf] using k) (by simpa [ltOf] using h)
    simp [ltOf] at this
    omega) (fun a b => by
    simp only [Bool.or_eq_true, Bool.not_eq_true', ltOf, decide_eq_false_iff_not]
    by_cases h : ordV a b < 0
    · left; have := ordV_good.asym _ _ h; omega
    · right; exact h) vs
  exact this.imp fun h => by simpa using h
theorem stmts_one {vs l : List Vote} (hp : l.Perm vs) (hs : l.Pairwise fun a b => ltOf ordV b a = false) (hn : vs.Pairwise fun a b => bareV a ≠ bareV b) : l = stmts vs := by
  refine sorted_one ordV_good l (stmts vs) (hp.trans (stmts_perm vs).symm) hs (stmts_sorted vs) fun a ha b hb h => ?_
  have ha' := hp.mem_iff.1 ha
  have hb' := hp.mem_iff.1 hb
  have he := ordV_eq h
  by_cases hab : a = b
  · exact hab
  · exfalso
    clear hp hs ha hb h
    induction vs with
    | nil => cases ha'
    | cons v vs ih =>
      rw [List.pairwise_cons] at hn
      rcases List.mem_cons.1 ha' with rfl | ha'' <;> rcases List.mem_cons.1 hb' with rfl | hb''
      · exact hab rfl
      · exact hn.1 _ hb'' he
      · exact hn.1 _ ha'' he.symm
      · exact ih hn.2 ha'' hb''
end Go.Proofs.YtcbfpdenjdgnlaaGreat
/- Package learner: order. No claim of its own; no condition. Printed by a program of this session. -/
namespace Go.Proofs.YtcbfpdenjdgnlaaGreat
open Go.ChangeShapes Go.WideShapes Go.ChangeAt Go.RowKit Go.Sort
set_option linter.unusedVariables false
set_option linter.unusedSimpArgs false
theorem gd_trans' (a b c : World) (h : Gd a b) (k : Gd b c) : Gd a c := gd_trans h k
theorem or6_at {a b c d e f : Int} {G : Nat} {w : World} (h : w.heap[G]? = some (.cells #[.int .i64 a, .int .i64 b, .int .i64 c, .int .i64 d, .int .i64 e, .int .i64 f] 3 (0, 0))) : ∀ (k : Nat) (u : Int), [a, b, c, d, e, f][k]? = some u → w.cell? ⟨G, k, none⟩ = some (.int .i64 u) := by
  intro k u hk
  refine block_cell h ?_
  match k, hk with
  | 0, h => simp at h; subst h; rfl
  | 1, h => simp at h; subst h; rfl
  | 2, h => simp at h; subst h; rfl
  | 3, h => simp at h; subst h; rfl
  | 4, h => simp at h; subst h; rfl
  | 5, h => simp at h; subst h; rfl
  | k + 6, h => simp at h
def orP (G1 G2 : Nat) (x y : Vote) : Nat → Value → World → Prop
  | 0, y', _ => y' = .pointer (some ⟨G1, 0, none⟩)
  | 1, y', _ => y' = .int .i64 x.kind
  | 2, y', _ => y' = .pointer (some ⟨G2, 0, none⟩)
  | 3, y', _ => y' = .int .i64 y.kind
  | 4, y', _ => y' = .int .i64 (Lib.compareInt x.kind y.kind)
  | 5, y', _ => y' = .pointer (some ⟨G1, 1, none⟩)
  | 6, y', _ => y' = .int .i64 x.view
  | 7, y', _ => y' = .pointer (some ⟨G2, 1, none⟩)
  | 8, y', _ => y' = .int .i64 y.view
  | 9, y', _ => y' = .int .i64 (Lib.compareInt x.view y.view)
  | 10, y', _ => y' = .pointer (some ⟨G1, 2, none⟩)
  | 11, y', _ => y' = .int .i64 x.height
  | 12, y', _ => y' = .pointer (some ⟨G2, 2, none⟩)
  | 13, y', _ => y' = .int .i64 y.height
  | 14, y', _ => y' = .int .i64 (Lib.compareInt x.height y.height)
  | 15, y', _ => y' = .pointer (some ⟨G1, 3, none⟩)
  | 16, y', _ => y' = .string x.block
  | 17, y', _ => y' = .pointer (some ⟨G2, 3, none⟩)
  | 18, y', _ => y' = .string y.block
  | 19, y', _ => y' = .int .i64 (cmpStr x.block y.block)
  | 20, y', _ => y' = .pointer (some ⟨G1, 4, none⟩)
  | 21, y', _ => y' = .int .i64 x.ticks
  | 22, y', _ => y' = .pointer (some ⟨G2, 4, none⟩)
  | 23, y', _ => y' = .int .i64 y.ticks
  | 24, y', _ => y' = .int .i64 (Lib.compareInt x.ticks y.ticks)
  | 25, y', _ => y' = .pointer (some ⟨G1, 5, none⟩)
  | 26, y', _ => y' = .int .i64 x.signer
  | 27, y', _ => y' = .pointer (some ⟨G2, 5, none⟩)
  | 28, y', _ => y' = .int .i64 y.signer
  | 29, y', _ => y' = .int .i64 (Lib.compareInt x.signer y.signer)
  | 30, y', w => ∃ G, y' = .slice (some ⟨G, 0, none⟩) 6 6 ∧ w.heap[G]? = some (.cells #[.int .i64 (Lib.compareInt x.kind y.kind), .int .i64 (Lib.compareInt x.view y.view), .int .i64 (Lib.compareInt x.height y.height), .int .i64 (cmpStr x.block y.block), .int .i64 (Lib.compareInt x.ticks y.ticks), .int .i64 (Lib.compareInt x.signer y.signer)] 3 (0, 0))
  | 31, y', _ => y' = .int .i64 (ordV x y)
  | 32, y', _ => y' = .int .i64 (ordV x y)
  | _, _, _ => True
set_option maxHeartbeats 6400000 in
set_option maxRecDepth 100000 in
theorem lorder_calls (x y : Vote) (W : World) : Calls Tryz.prog 67 #[.agg (vcs x), .agg (vcs y)] W fun e w' => e = .returned (.int .i64 (ordV x y)) ∧ Gd W w' := by
  have a1 := alloc_old (alloc_new W (.cells (vcs x) 52)) (.cells (vcs y) 52)
  have a2 := alloc_new (W.alloc (.cells (vcs x) 52)) (.cells (vcs y) 52)
  have s1 : (W.alloc (.cells (vcs x) 52)).heap.size = W.heap.size + 1 := by simp
  have g2 : Gd W ((W.alloc (.cells (vcs x) 52)).alloc (.cells (vcs y) 52)) := gd_alloc (gd_alloc (gd_refl W) _) _
  rw [s1] at a2
  clear s1
  go_enter Tryz.func67, Tryz.ntmps67
  go_upto_region 1 with fail
  change Code.wp _ _ _ _ ((W.alloc (.cells (vcs x) 52)).alloc (.cells (vcs y) 52))
  obtain ⟨G1, hG1⟩ : ∃ G, W.heap.size = G := ⟨_, rfl⟩
  obtain ⟨G2, hG2⟩ : ∃ G, W.heap.size + 1 = G := ⟨_, rfl⟩
  generalize (W.alloc (.cells (vcs x) 52)).alloc (.cells (vcs y) 52) = V at *
  simp only [hG2] at a2 ⊢
  simp only [hG1] at a1 ⊢
  clear hG1 hG2
  have HX := Lib.hid a1
  have HY := Lib.hid a2
  clear a1 a2
  refine wp_region_invA (by kernel_rfl) (by kernel_rfl) Gd (orP G1 G2 x y) gd_refl gd_trans' ⟨?_, ?_, ?_, ?_, ?_, ?_, ?_, ?_, ?_, ?_, ?_, ?_, ?_, ?_, ?_, ?_, ?_, ?_, ?_, ?_, ?_, ?_, ?_, ?_, ?_, ?_, ?_, ?_, ?_, ?_, ?_, ?_, ?_, trivial⟩ ?_
  · intro Fr u hN hO w1 hR hdep K hK
    rw [if_pos (by rfl)]
    have y2 : Fr.tmps[2]? = some (.pointer (some ⟨G1, 0, none⟩)) := hO 2 _ rfl rfl
    clear hN hO hdep
    go_simp
    refine hK _ _ (gd_refl _) fun w3 h3 => ?_
    exact rfl
  · intro Fr u hN hO w1 hR hdep K hK
    rw [if_pos (by rfl)]
    have x0 : Fr.tmps[5]? = some (u 0) := hN 0 _ 5 rfl rfl rfl
    rw [show u 0 = .pointer (some ⟨G1, 0, none⟩) from hdep 0 (by kernel_rfl) w1 (gd_refl _)] at x0
    clear hN hO hdep
    obtain ⟨z0, z1, z2, z3, z4, z5, z6⟩ := vcells (block_below (gd_below hR) HX.out)
    go_simp
    refine hK _ _ (gd_refl _) fun w3 h3 => ?_
    exact rfl
  · intro Fr u hN hO w1 hR hdep K hK
    rw [if_pos (by rfl)]
    have y3 : Fr.tmps[3]? = some (.pointer (some ⟨G2, 0, none⟩)) := hO 3 _ rfl rfl
    clear hN hO hdep
    go_simp
    refine hK _ _ (gd_refl _) fun w3 h3 => ?_
    exact rfl
  · intro Fr u hN hO w1 hR hdep K hK
    rw [if_pos (by rfl)]
    have x2 : Fr.tmps[7]? = some (u 2) := hN 2 _ 7 rfl rfl rfl
    rw [show u 2 = .pointer (some ⟨G2, 0, none⟩) from hdep 2 (by kernel_rfl) w1 (gd_refl _)] at x2
    clear hN hO hdep
    obtain ⟨z0, z1, z2, z3, z4, z5, z6⟩ := vcells (block_below (gd_below hR) HY.out)
    go_simp
    refine hK _ _ (gd_refl _) fun w3 h3 => ?_
    exact rfl
  · intro Fr u hN hO w1 hR hdep K hK
    rw [if_pos (by rfl)]
    have x1 : Fr.tmps[6]? = some (u 1) := hN 1 _ 6 rfl rfl rfl
    rw [show u 1 = .int .i64 x.kind from hdep 1 (by kernel_rfl) w1 (gd_refl _)] at x1
    have x3 : Fr.tmps[8]? = some (u 3) := hN 3 _ 8 rfl rfl rfl
    rw [show u 3 = .int .i64 y.kind from hdep 3 (by kernel_rfl) w1 (gd_refl _)] at x3
    clear hN hO hdep
    go_simp
    refine (compare_calls x.kind y.kind w1).mono ?_
    rintro x w2 ⟨rfl, rfl⟩
    refine hK _ _ (gd_refl _) fun w3 h3 => ?_
    exact rfl
  · intro Fr u hN hO w1 hR hdep K hK
    rw [if_pos (by rfl)]
    have y2 : Fr.tmps[2]? = some (.pointer (some ⟨G1, 0, none⟩)) := hO 2 _ rfl rfl
    clear hN hO hdep
    go_simp
    refine hK _ _ (gd_refl _) fun w3 h3 => ?_
    exact rfl
  · intro Fr u hN hO w1 hR hdep K hK
    rw [if_pos (by rfl)]
    have x5 : Fr.tmps[10]? = some (u 5) := hN 5 _ 10 rfl rfl rfl
    rw [show u 5 = .pointer (some ⟨G1, 1, none⟩) from hdep 5 (by kernel_rfl) w1 (gd_refl _)] at x5
    clear hN hO hdep
    obtain ⟨z0, z1, z2, z3, z4, z5, z6⟩ := vcells (block_below (gd_below hR) HX.out)
    go_simp
    refine hK _ _ (gd_refl _) fun w3 h3 => ?_
    exact rfl
  · intro Fr u hN hO w1 hR hdep K hK
    rw [if_pos (by rfl)]
    have y3 : Fr.tmps[3]? = some (.pointer (some ⟨G2, 0, none⟩)) := hO 3 _ rfl rfl
    clear hN hO hdep
    go_simp
    refine hK _ _ (gd_refl _) fun w3 h3 => ?_
    exact rfl
  · intro Fr u hN hO w1 hR hdep K hK
    rw [if_pos (by rfl)]
    have x7 : Fr.tmps[12]? = some (u 7) := hN 7 _ 12 rfl rfl rfl
    rw [show u 7 = .pointer (some ⟨G2, 1, none⟩) from hdep 7 (by kernel_rfl) w1 (gd_refl _)] at x7
    clear hN hO hdep
    obtain ⟨z0, z1, z2, z3, z4, z5, z6⟩ := vcells (block_below (gd_below hR) HY.out)
    go_simp
    refine hK _ _ (gd_refl _) fun w3 h3 => ?_
    exact rfl
  · intro Fr u hN hO w1 hR hdep K hK
    rw [if_pos (by rfl)]
    have x6 : Fr.tmps[11]? = some (u 6) := hN 6 _ 11 rfl rfl rfl
    rw [show u 6 = .int .i64 x.view from hdep 6 (by kernel_rfl) w1 (gd_refl _)] at x6
    have x8 : Fr.tmps[13]? = some (u 8) := hN 8 _ 13 rfl rfl rfl
    rw [show u 8 = .int .i64 y.view from hdep 8 (by kernel_rfl) w1 (gd_refl _)] at x8
    clear hN hO hdep
    go_simp
    refine (compare_calls x.view y.view w1).mono ?_
    rintro x w2 ⟨rfl, rfl⟩
    refine hK _ _ (gd_refl _) fun w3 h3 => ?_
    exact rfl
  · intro Fr u hN hO w1 hR hdep K hK
    rw [if_pos (by rfl)]
    have y2 : Fr.tmps[2]? = some (.pointer (some ⟨G1, 0, none⟩)) := hO 2 _ rfl rfl
    clear hN hO hdep
    go_simp
    refine hK _ _ (gd_refl _) fun w3 h3 => ?_
    exact rfl
  · intro Fr u hN hO w1 hR hdep K hK
    rw [if_pos (by rfl)]
    have x10 : Fr.tmps[15]? = some (u 10) := hN 10 _ 15 rfl rfl rfl
    rw [show u 10 = .pointer (some ⟨G1, 2, none⟩) from hdep 10 (by kernel_rfl) w1 (gd_refl _)] at x10
    clear hN hO hdep
    obtain ⟨z0, z1, z2, z3, z4, z5, z6⟩ := vcells (block_below (gd_below hR) HX.out)
    go_simp
    refine hK _ _ (gd_refl _) fun w3 h3 => ?_
    exact rfl
  · intro Fr u hN hO w1 hR hdep K hK
    rw [if_pos (by rfl)]
    have y3 : Fr.tmps[3]? = some (.pointer (some ⟨G2, 0, none⟩)) := hO 3 _ rfl rfl
    clear hN hO hdep
    go_simp
    refine hK _ _ (gd_refl _) fun w3 h3 => ?_
    exact rfl
  · intro Fr u hN hO w1 hR hdep K hK
    rw [if_pos (by rfl)]
    have x12 : Fr.tmps[17]? = some (u 12) := hN 12 _ 17 rfl rfl rfl
    rw [show u 12 = .pointer (some ⟨G2, 2, none⟩) from hdep 12 (by kernel_rfl) w1 (gd_refl _)] at x12
    clear hN hO hdep
    obtain ⟨z0, z1, z2, z3, z4, z5, z6⟩ := vcells (block_below (gd_below hR) HY.out)
    go_simp
    refine hK _ _ (gd_refl _) fun w3 h3 => ?_
    exact rfl
  · intro Fr u hN hO w1 hR hdep K hK
    rw [if_pos (by rfl)]
    have x11 : Fr.tmps[16]? = some (u 11) := hN 11 _ 16 rfl rfl rfl
    rw [show u 11 = .int .i64 x.height from hdep 11 (by kernel_rfl) w1 (gd_refl _)] at x11
    have x13 : Fr.tmps[18]? = some (u 13) := hN 13 _ 18 rfl rfl rfl
    rw [show u 13 = .int .i64 y.height from hdep 13 (by kernel_rfl) w1 (gd_refl _)] at x13
    clear hN hO hdep
    go_simp
    refine (compare_calls x.height y.height w1).mono ?_
    rintro x w2 ⟨rfl, rfl⟩
    refine hK _ _ (gd_refl _) fun w3 h3 => ?_
    exact rfl
  · intro Fr u hN hO w1 hR hdep K hK
    rw [if_pos (by rfl)]
    have y2 : Fr.tmps[2]? = some (.pointer (some ⟨G1, 0, none⟩)) := hO 2 _ rfl rfl
    clear hN hO hdep
    go_simp
    refine hK _ _ (gd_refl _) fun w3 h3 => ?_
    exact rfl
  · intro Fr u hN hO w1 hR hdep K hK
    rw [if_pos (by rfl)]
    have x15 : Fr.tmps[20]? = some (u 15) := hN 15 _ 20 rfl rfl rfl
    rw [show u 15 = .pointer (some ⟨G1, 3, none⟩) from hdep 15 (by kernel_rfl) w1 (gd_refl _)] at x15
    clear hN hO hdep
    obtain ⟨z0, z1, z2, z3, z4, z5, z6⟩ := vcells (block_below (gd_below hR) HX.out)
    go_simp
    refine hK _ _ (gd_refl _) fun w3 h3 => ?_
    exact rfl
  · intro Fr u hN hO w1 hR hdep K hK
    rw [if_pos (by rfl)]
    have y3 : Fr.tmps[3]? = some (.pointer (some ⟨G2, 0, none⟩)) := hO 3 _ rfl rfl
    clear hN hO hdep
    go_simp
    refine hK _ _ (gd_refl _) fun w3 h3 => ?_
    exact rfl
  · intro Fr u hN hO w1 hR hdep K hK
    rw [if_pos (by rfl)]
    have x17 : Fr.tmps[22]? = some (u 17) := hN 17 _ 22 rfl rfl rfl
    rw [show u 17 = .pointer (some ⟨G2, 3, none⟩) from hdep 17 (by kernel_rfl) w1 (gd_refl _)] at x17
    clear hN hO hdep
    obtain ⟨z0, z1, z2, z3, z4, z5, z6⟩ := vcells (block_below (gd_below hR) HY.out)
    go_simp
    refine hK _ _ (gd_refl _) fun w3 h3 => ?_
    exact rfl
  · intro Fr u hN hO w1 hR hdep K hK
    rw [if_pos (by rfl)]
    have x16 : Fr.tmps[21]? = some (u 16) := hN 16 _ 21 rfl rfl rfl
    rw [show u 16 = .string x.block from hdep 16 (by kernel_rfl) w1 (gd_refl _)] at x16
    have x18 : Fr.tmps[23]? = some (u 18) := hN 18 _ 23 rfl rfl rfl
    rw [show u 18 = .string y.block from hdep 18 (by kernel_rfl) w1 (gd_refl _)] at x18
    clear hN hO hdep
    go_simp
    refine (compareS_calls x.block y.block w1).mono ?_
    rintro x w2 ⟨rfl, rfl⟩
    refine hK _ _ (gd_refl _) fun w3 h3 => ?_
    exact rfl
  · intro Fr u hN hO w1 hR hdep K hK
    rw [if_pos (by rfl)]
    have y2 : Fr.tmps[2]? = some (.pointer (some ⟨G1, 0, none⟩)) := hO 2 _ rfl rfl
    clear hN hO hdep
    go_simp
    refine hK _ _ (gd_refl _) fun w3 h3 => ?_
    exact rfl
  · intro Fr u hN hO w1 hR hdep K hK
    rw [if_pos (by rfl)]
    have x20 : Fr.tmps[25]? = some (u 20) := hN 20 _ 25 rfl rfl rfl
    rw [show u 20 = .pointer (some ⟨G1, 4, none⟩) from hdep 20 (by kernel_rfl) w1 (gd_refl _)] at x20
    clear hN hO hdep
    obtain ⟨z0, z1, z2, z3, z4, z5, z6⟩ := vcells (block_below (gd_below hR) HX.out)
    go_simp
    refine hK _ _ (gd_refl _) fun w3 h3 => ?_
    exact rfl
  · intro Fr u hN hO w1 hR hdep K hK
    rw [if_pos (by rfl)]
    have y3 : Fr.tmps[3]? = some (.pointer (some ⟨G2, 0, none⟩)) := hO 3 _ rfl rfl
    clear hN hO hdep
    go_simp
    refine hK _ _ (gd_refl _) fun w3 h3 => ?_
    exact rfl
  · intro Fr u hN hO w1 hR hdep K hK
    rw [if_pos (by rfl)]
    have x22 : Fr.tmps[27]? = some (u 22) := hN 22 _ 27 rfl rfl rfl
    rw [show u 22 = .pointer (some ⟨G2, 4, none⟩) from hdep 22 (by kernel_rfl) w1 (gd_refl _)] at x22
    clear hN hO hdep
    obtain ⟨z0, z1, z2, z3, z4, z5, z6⟩ := vcells (block_below (gd_below hR) HY.out)
    go_simp
    refine hK _ _ (gd_refl _) fun w3 h3 => ?_
    exact rfl
  · intro Fr u hN hO w1 hR hdep K hK
    rw [if_pos (by rfl)]
    have x21 : Fr.tmps[26]? = some (u 21) := hN 21 _ 26 rfl rfl rfl
    rw [show u 21 = .int .i64 x.ticks from hdep 21 (by kernel_rfl) w1 (gd_refl _)] at x21
    have x23 : Fr.tmps[28]? = some (u 23) := hN 23 _ 28 rfl rfl rfl
    rw [show u 23 = .int .i64 y.ticks from hdep 23 (by kernel_rfl) w1 (gd_refl _)] at x23
    clear hN hO hdep
    go_simp
    refine (compare_calls x.ticks y.ticks w1).mono ?_
    rintro x w2 ⟨rfl, rfl⟩
    refine hK _ _ (gd_refl _) fun w3 h3 => ?_
    exact rfl
  · intro Fr u hN hO w1 hR hdep K hK
    rw [if_pos (by rfl)]
    have y2 : Fr.tmps[2]? = some (.pointer (some ⟨G1, 0, none⟩)) := hO 2 _ rfl rfl
    clear hN hO hdep
    go_simp
    refine hK _ _ (gd_refl _) fun w3 h3 => ?_
    exact rfl
  · intro Fr u hN hO w1 hR hdep K hK
    rw [if_pos (by rfl)]
    have x25 : Fr.tmps[30]? = some (u 25) := hN 25 _ 30 rfl rfl rfl
    rw [show u 25 = .pointer (some ⟨G1, 5, none⟩) from hdep 25 (by kernel_rfl) w1 (gd_refl _)] at x25
    clear hN hO hdep
    obtain ⟨z0, z1, z2, z3, z4, z5, z6⟩ := vcells (block_below (gd_below hR) HX.out)
    go_simp
    refine hK _ _ (gd_refl _) fun w3 h3 => ?_
    exact rfl
  · intro Fr u hN hO w1 hR hdep K hK
    rw [if_pos (by rfl)]
    have y3 : Fr.tmps[3]? = some (.pointer (some ⟨G2, 0, none⟩)) := hO 3 _ rfl rfl
    clear hN hO hdep
    go_simp
    refine hK _ _ (gd_refl _) fun w3 h3 => ?_
    exact rfl
  · intro Fr u hN hO w1 hR hdep K hK
    rw [if_pos (by rfl)]
    have x27 : Fr.tmps[32]? = some (u 27) := hN 27 _ 32 rfl rfl rfl
    rw [show u 27 = .pointer (some ⟨G2, 5, none⟩) from hdep 27 (by kernel_rfl) w1 (gd_refl _)] at x27
    clear hN hO hdep
    obtain ⟨z0, z1, z2, z3, z4, z5, z6⟩ := vcells (block_below (gd_below hR) HY.out)
    go_simp
    refine hK _ _ (gd_refl _) fun w3 h3 => ?_
    exact rfl
  · intro Fr u hN hO w1 hR hdep K hK
    rw [if_pos (by rfl)]
    have x26 : Fr.tmps[31]? = some (u 26) := hN 26 _ 31 rfl rfl rfl
    rw [show u 26 = .int .i64 x.signer from hdep 26 (by kernel_rfl) w1 (gd_refl _)] at x26
    have x28 : Fr.tmps[33]? = some (u 28) := hN 28 _ 33 rfl rfl rfl
    rw [show u 28 = .int .i64 y.signer from hdep 28 (by kernel_rfl) w1 (gd_refl _)] at x28
    clear hN hO hdep
    go_simp
    refine (compare_calls x.signer y.signer w1).mono ?_
    rintro x w2 ⟨rfl, rfl⟩
    refine hK _ _ (gd_refl _) fun w3 h3 => ?_
    exact rfl
  · intro Fr u hN hO w1 hR hdep K hK
    rw [if_pos (by rfl)]
    have x4 : Fr.tmps[9]? = some (u 4) := hN 4 _ 9 rfl rfl rfl
    rw [show u 4 = .int .i64 (Lib.compareInt x.kind y.kind) from hdep 4 (by kernel_rfl) w1 (gd_refl _)] at x4
    have x9 : Fr.tmps[14]? = some (u 9) := hN 9 _ 14 rfl rfl rfl
    rw [show u 9 = .int .i64 (Lib.compareInt x.view y.view) from hdep 9 (by kernel_rfl) w1 (gd_refl _)] at x9
    have x14 : Fr.tmps[19]? = some (u 14) := hN 14 _ 19 rfl rfl rfl
    rw [show u 14 = .int .i64 (Lib.compareInt x.height y.height) from hdep 14 (by kernel_rfl) w1 (gd_refl _)] at x14
    have x19 : Fr.tmps[24]? = some (u 19) := hN 19 _ 24 rfl rfl rfl
    rw [show u 19 = .int .i64 (cmpStr x.block y.block) from hdep 19 (by kernel_rfl) w1 (gd_refl _)] at x19
    have x24 : Fr.tmps[29]? = some (u 24) := hN 24 _ 29 rfl rfl rfl
    rw [show u 24 = .int .i64 (Lib.compareInt x.ticks y.ticks) from hdep 24 (by kernel_rfl) w1 (gd_refl _)] at x24
    have x29 : Fr.tmps[34]? = some (u 29) := hN 29 _ 34 rfl rfl rfl
    rw [show u 29 = .int .i64 (Lib.compareInt x.signer y.signer) from hdep 29 (by kernel_rfl) w1 (gd_refl _)] at x29
    clear hN hO hdep
    go_simp
    refine hK _ _ (gd_alloc (gd_refl _) _) fun w3 h3 => ?_
    exact ⟨w1.heap.size, rfl, block_below (gd_below h3) (alloc_new w1 _)⟩
  · intro Fr u hN hO w1 hR hdep K hK
    rw [if_pos (by rfl)]
    have x30 : Fr.tmps[35]? = some (u 30) := hN 30 _ 35 rfl rfl rfl
    obtain ⟨G, hu, hG⟩ := hdep 30 (by kernel_rfl) w1 (gd_refl _)
    rw [hu] at x30
    clear hN hO hdep
    go_simp
    refine (or_calls [Lib.compareInt x.kind y.kind, Lib.compareInt x.view y.view, Lib.compareInt x.height y.height, cmpStr x.block y.block, Lib.compareInt x.ticks y.ticks, Lib.compareInt x.signer y.signer] G 6 6 w1 rfl (Nat.le_of_ble_eq_true rfl) (or6_at hG)).mono ?_
    rintro x w2 ⟨rfl, rfl⟩
    refine hK _ _ (gd_refl _) fun w3 h3 => ?_
    exact rfl
  · intro Fr u hN hO w1 hR hdep K hK
    rw [if_pos (by rfl)]
    have x31 : Fr.tmps[36]? = some (u 31) := hN 31 _ 36 rfl rfl rfl
    rw [show u 31 = .int .i64 (ordV x y) from hdep 31 (by kernel_rfl) w1 (gd_refl _)] at x31
    clear hN hO hdep
    go_simp
    refine hK _ _ (gd_refl _) fun w3 h3 => ?_
    exact rfl
  · intro u w' hR hall
    have e32 : u 32 = .int .i64 (ordV x y) := hall 32 (by decide)
    have bw : Gd V w' := gd_trans (gd_drew (gd_refl _)) hR
    clear hall
    simp only [frameF, Act.put, List.setIfInBounds_toArray, List.set_cons_zero, List.set_cons_succ, Nat.reduceAdd, e32]
    clear e32
    go_wp2_with fail
    go_ret
    exact ⟨rfl, gd_trans g2 bw⟩
end Go.Proofs.YtcbfpdenjdgnlaaGreat
