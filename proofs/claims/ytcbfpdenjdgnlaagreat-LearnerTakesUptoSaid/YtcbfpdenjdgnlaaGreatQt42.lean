/- Package learner: statement. No claim of its own; no condition. Printed by a program of this session. -/
import Derived.Test.YtcbfpdenjdgnlaaGreatQt41
namespace Go.Proofs.YtcbfpdenjdgnlaaGreat
open Go.ChangeShapes Go.WideShapes Go.ChangeAt Go.RowKit
set_option linter.unusedVariables false
set_option linter.unusedSimpArgs false
def bareV (v : Vote) : Vote := ⟨v.kind, v.view, v.height, v.block, v.ticks, v.signer, ⟨#[]⟩⟩
def vzC : Array Value := #[.int .i64 0, .int .i64 0, .int .i64 0, .string ⟨#[]⟩, .int .i64 0, .int .i64 0, .string ⟨#[]⟩]
theorem size52s : (Tryz.prog.info? 52).map (·.size) = some 7 := by kernel_rfl
def StatPost (m : Nat) (es : List (Vote × Value)) (v : Vote) (is val : Bool) (w : World) (x : Ending) (w' : World) : Prop :=
      ((is = true ∨ ((v.kind != 2) = true ∧ (v.kind != 3) = true) ∨ val = false) ∧ x = .returned (.bool false) ∧ Below w.heap.size w w') ∨
      (is = false ∧ ((v.kind != 2) = false ∨ (v.kind != 3) = false) ∧ val = true ∧ x = .returned (.bool true) ∧ ∃ W, Below w.heap.size w W ∧ (∀ n, n ≤ m → Below n W w') ∧ (∀ k, k ≠ m → w'.heap[k]? = W.heap[k]?) ∧ SMap keyVote w' m (putS (bareV v) (.agg (vcs v)) es))
def stA (N m : Nat) (vb vo : Vote) (is : Bool) (V : Nat) : Nat → Value → World → Prop
  | 0, y, _ => y = .pointer (some ⟨N, 0, none⟩)
  | 1, y, _ => y = .pointer (some ⟨N, 0, none⟩)
  | 2, y, _ => y = .pointer (some ⟨N, 8, none⟩)
  | 3, y, _ => y = .map (some m)
  | 4, y, _ => y = .agg (vcs vb)
  | 5, y, _ => y = .tuple #[.agg (vcs vo), .bool is]
  | 6, y, _ => y = .tuple #[.agg (vcs vo), .bool is]
  | 7, y, _ => y = .agg (vcs vo)
  | 8, y, _ => y = .bool is
  | 9, y, w => ∃ X, y = .pointer (some ⟨X, 0, none⟩) ∧ w.heap[X]? = some (.cells vzC 52 (0, 0)) ∧ V ≤ X
  | _, _, _ => True
def stBA (G N L : Nat) (v : Vote) (Ar : Option Addr) (cr : Nat) (val : Bool) : Nat → Value → World → Prop
  | 0, y, _ => y = .bool true
  | 1, y, _ => y = .bool true
  | 2, y, _ => y = undef
  | 3, y, _ => y = undef
  | 4, y, _ => y = undef
  | 5, y, _ => y = undef
  | 6, y, _ => y = undef
  | 7, y, _ => y = undef
  | 8, y, _ => y = undef
  | 9, y, _ => y = undef
  | 10, y, _ => y = .bool true
  | 11, y, _ => y = .bool true
  | 12, y, _ => y = undef
  | 13, y, _ => y = undef
  | 14, y, _ => y = undef
  | 15, y, _ => y = undef
  | 16, y, _ => y = undef
  | 17, y, _ => y = undef
  | 18, y, _ => y = undef
  | 19, y, _ => y = undef
  | 20, y, _ => y = .bool true
  | _, _, _ => True
def stBB (G N L : Nat) (v : Vote) (Ar : Option Addr) (cr : Nat) (val : Bool) : Nat → Value → World → Prop
  | 0, y, _ => y = .bool false
  | 1, y, _ => y = .bool false
  | 2, y, _ => y = .pointer (some ⟨G, 0, none⟩)
  | 3, y, _ => y = .int .i64 v.kind
  | 4, y, _ => y = .bool false
  | 5, y, _ => y = .bool false
  | 6, y, _ => y = undef
  | 7, y, _ => y = undef
  | 8, y, _ => y = undef
  | 9, y, _ => y = .bool false
  | 10, y, _ => y = .bool false
  | 11, y, _ => y = .bool false
  | 12, y, _ => y = .agg (vcs v)
  | 13, y, _ => y = .pointer (some ⟨N, 0, none⟩)
  | 14, y, _ => y = .pointer (some ⟨N, 0, none⟩)
  | 15, y, _ => y = .pointer (some ⟨N, 1, none⟩)
  | 16, y, _ => y = .pointer (some ⟨N, 1, none⟩)
  | 17, y, _ => y = .slice Ar L cr
  | 18, y, _ => y = .bool val
  | 19, y, _ => y = .bool (!val)
  | 20, y, _ => y = .bool (!val)
  | _, _, _ => True
def stBC (G N L : Nat) (v : Vote) (Ar : Option Addr) (cr : Nat) (val : Bool) : Nat → Value → World → Prop
  | 0, y, _ => y = .bool false
  | 1, y, _ => y = .bool false
  | 2, y, _ => y = .pointer (some ⟨G, 0, none⟩)
  | 3, y, _ => y = .int .i64 v.kind
  | 4, y, _ => y = .bool true
  | 5, y, _ => y = .bool true
  | 6, y, _ => y = .pointer (some ⟨G, 0, none⟩)
  | 7, y, _ => y = .int .i64 v.kind
  | 8, y, _ => y = .bool false
  | 9, y, _ => y = .bool false
  | 10, y, _ => y = .bool false
  | 11, y, _ => y = .bool false
  | 12, y, _ => y = .agg (vcs v)
  | 13, y, _ => y = .pointer (some ⟨N, 0, none⟩)
  | 14, y, _ => y = .pointer (some ⟨N, 0, none⟩)
  | 15, y, _ => y = .pointer (some ⟨N, 1, none⟩)
  | 16, y, _ => y = .pointer (some ⟨N, 1, none⟩)
  | 17, y, _ => y = .slice Ar L cr
  | 18, y, _ => y = .bool val
  | 19, y, _ => y = .bool (!val)
  | 20, y, _ => y = .bool (!val)
  | _, _, _ => True
def stBD (G N L : Nat) (v : Vote) (Ar : Option Addr) (cr : Nat) (val : Bool) : Nat → Value → World → Prop
  | 0, y, _ => y = .bool false
  | 1, y, _ => y = .bool false
  | 2, y, _ => y = .pointer (some ⟨G, 0, none⟩)
  | 3, y, _ => y = .int .i64 v.kind
  | 4, y, _ => y = .bool true
  | 5, y, _ => y = .bool true
  | 6, y, _ => y = .pointer (some ⟨G, 0, none⟩)
  | 7, y, _ => y = .int .i64 v.kind
  | 8, y, _ => y = .bool true
  | 9, y, _ => y = .bool true
  | 10, y, _ => y = .bool true
  | 11, y, _ => y = .bool true
  | 12, y, _ => y = undef
  | 13, y, _ => y = undef
  | 14, y, _ => y = undef
  | 15, y, _ => y = undef
  | 16, y, _ => y = undef
  | 17, y, _ => y = undef
  | 18, y, _ => y = undef
  | 19, y, _ => y = undef
  | 20, y, _ => y = .bool true
  | _, _, _ => True
def stC (G N m : Nat) (v vb : Vote) : Nat → Value → World → Prop
  | 0, y, _ => y = .pointer (some ⟨N, 0, none⟩)
  | 1, y, _ => y = .pointer (some ⟨N, 0, none⟩)
  | 2, y, _ => y = .pointer (some ⟨N, 8, none⟩)
  | 3, y, _ => y = .map (some m)
  | 4, y, _ => y = .agg (vcs vb)
  | 5, y, _ => y = .agg (vcs v)
  | _, _, _ => True
set_option maxHeartbeats 6400000 in
set_option maxRecDepth 100000 in
theorem stat_calls (N m : Nat) (es : List (Vote × Value)) (v vo : Vote) (is val : Bool) (Ar : Option Addr) (L cr B : Nat) (roots : List ByteArray) (w : World) (h1 : w.cell? ⟨N, 1, none⟩ = some (.slice Ar L cr)) (h8 : w.cell? ⟨N, 8, none⟩ = some (.map (some m))) (hM : SMap keyVote w m es)
    (hlk : ∀ W, Below w.heap.size w W → (Instr.lookup 106 (.map (some m)) (.agg (vcs (bareV v))) true).run Tryz.prog W = .ok (.tuple #[.agg (vcs vo), .bool is]) W)
    (hL : L = roots.length) (hl : roots.length ≤ 1048576) (hr : Kd.str.Row 9 B w Ar roots) (hz : v.sig.size ≤ 140737488351232) (hval : validV v roots = val) :
    Calls Tryz.prog 64 #[.pointer (some ⟨N, 0, none⟩), .agg (vcs v)] w fun x w' => StatPost m es v is val w x w' := by
  have hvl := fun W (hW : Kd.str.Row 9 B W Ar roots) => vvalid_calls v roots Ar L cr B W hL hW hz hl
  rw [hval] at hvl
  have HVAL := Lib.hid hvl
  have qa := bl_alloc (Below.refl w.heap.size w) (.cells (vcs v) 52)
  have qb := bl_alloc qa (.cells (vcs v) 52)
  have g0 := alloc_old (alloc_new w (.cells (vcs v) 52)) (.cells (vcs v) 52)
  have b0 := alloc_new (w.alloc (.cells (vcs v) 52)) (.cells (vcs v) 52)
  rw [World.size_alloc] at b0
  obtain ⟨G, hG⟩ : ∃ G, w.heap.size = G := ⟨_, rfl⟩
  have leG1 : w.heap.size ≤ G + 1 := by omega
  rw [hG] at g0 b0
  have HLK := Lib.hid hlk
  have ne : G ≠ G + 1 := by omega
  obtain ⟨vb, hvb⟩ : ∃ x, bareV v = x := ⟨_, rfl⟩
  rw [hvb] at HLK
  have HVB := Lib.hid hvb
  have HGG := Lib.hid hG
  have HNE := Lib.hid ne
  have r0 := vcells (alloc_new w (.cells (vcs v) 52))
  rw [hG] at r0
  obtain ⟨r0, r1, r2, r3, r4, r5, r6⟩ := r0
  have HQB := Lib.hid qb
  have HG0 := Lib.hid g0
  have H1 := Lib.hid h1
  have H8 := Lib.hid h8
  have HM := Lib.hid hM
  have HR := Lib.hid hr
  clear hvl qa qb h1 h8 hM hr hlk hvb hval hz hl hL g0 ne
  go_enter Tryz.func64, Tryz.ntmps64
  go_upto_region 2 with fail
  change Code.wp _ _ _ _ ((w.alloc (.cells (vcs v) 52)).alloc (.cells (vcs v) 52))
  generalize (w.alloc (.cells (vcs v) 52)).alloc (.cells (vcs v) 52) = W2 at *
  clear r0 r1 r2 r3 r4 r5 r6 hG
  have x6 := block_cell b0 (i := 6) (v := .string v.sig) rfl
  have F6 : W2.frozen? ⟨G + 1, 6, none⟩ = false := block_free b0
  go_upto_region 3 with fail
  change Code.wp _ _ _ _ (W2.setCell ⟨G + 1, 6, none⟩ (.string ⟨#[]⟩))
  have HG : Hid ((W2.setCell ⟨G + 1, 6, none⟩ (.string ⟨#[]⟩)).heap[G]? = some (.cells (vcs v) 52 (0, 0))) := Lib.hid (block_far HG0.out HNE.out)
  have bset : (W2.setCell ⟨G + 1, 6, none⟩ (.string ⟨#[]⟩)).heap[G + 1]? = some (.cells (vcs (bareV v)) 52 (0, 0)) := block_set (i := 6) (u := .string ⟨#[]⟩) b0
  rw [HVB.out] at bset
  have HB := Lib.hid bset
  have HQ := Lib.hid (show Below w.heap.size w (W2.setCell ⟨G + 1, 6, none⟩ (.string ⟨#[]⟩)) from HQB.out.setCell (p := ⟨G + 1, 6, none⟩) leG1 _)
  have H1 := Lib.hid (cell_below HQ.out H1.out)
  have H8 := Lib.hid (cell_below HQ.out H8.out)
  have HM := Lib.hid (smap_below keyVote HM.out HQ.out)
  have HROW := Lib.hid (Kd.row_below HQ.out HR.out)
  clear bset x6 F6 b0 HG0 HQB HR
  generalize W2.setCell ⟨G + 1, 6, none⟩ (.string ⟨#[]⟩) = W3 at *
  obtain ⟨G1, hG1⟩ : ∃ x, G + 1 = x := ⟨_, rfl⟩
  simp only [hG1] at HB leG1 ⊢
  clear hG1
  refine wp_region_any (by kernel_rfl) ?_
  refine wpAny_invlA [true, true, true, true, true, true, true, true, true, true, false, false] [false, false, false, false, false, false, false, false, true, false, false, false] [10, 11] (by kernel_rfl) (by kernel_rfl) Rb (stA N m vb vo is W3.heap.size) rb_refl rb_trans (fun c a d v w h => by cases d <;> exact h) ⟨?_, ?_, ?_, ?_, ?_, ?_, ?_, ?_, ?_, ?_, trivial⟩ ?_
  · intro Fr u w1 hTold K hK
    obtain ⟨hN, hO, hR, hdep⟩ := hTold
    rw [if_pos (by rfl)]
    have y0 : Fr.tmps[0]? = some (.pointer (some ⟨N, 0, none⟩)) := hO 0 _ rfl rfl
    clear hN hO hdep
    go_simp
    refine hK _ _ (rb_refl _) fun w3 h3 => ?_
    exact rfl
  · intro Fr u w1 hTold K hK
    obtain ⟨hN, hO, hR, hdep⟩ := hTold
    rw [if_pos (by rfl)]
    have x0 : Fr.tmps[11]? = some (u 0) := hN 0 _ 11 rfl rfl rfl
    rw [show u 0 = .pointer (some ⟨N, 0, none⟩) from hdep 0 (by kernel_rfl) w1 (rb_refl _)] at x0
    clear hN hO hdep
    go_simp
    refine hK _ _ (rb_refl _) fun w3 h3 => ?_
    exact rfl
  · intro Fr u w1 hTold K hK
    obtain ⟨hN, hO, hR, hdep⟩ := hTold
    rw [if_pos (by rfl)]
    have x1 : Fr.tmps[12]? = some (u 1) := hN 1 _ 12 rfl rfl rfl
    rw [show u 1 = .pointer (some ⟨N, 0, none⟩) from hdep 1 (by kernel_rfl) w1 (rb_refl _)] at x1
    clear hN hO hdep
    go_simp
    refine hK _ _ (rb_refl _) fun w3 h3 => ?_
    exact rfl
  · intro Fr u w1 hTold K hK
    obtain ⟨hN, hO, hR, hdep⟩ := hTold
    rw [if_pos (by rfl)]
    have x2 : Fr.tmps[13]? = some (u 2) := hN 2 _ 13 rfl rfl rfl
    rw [show u 2 = .pointer (some ⟨N, 8, none⟩) from hdep 2 (by kernel_rfl) w1 (rb_refl _)] at x2
    clear hN hO hdep
    have z := cell_below hR H8.out
    go_simp
    refine hK _ _ (rb_refl _) fun w3 h3 => ?_
    exact rfl
  · intro Fr u w1 hTold K hK
    obtain ⟨hN, hO, hR, hdep⟩ := hTold
    rw [if_pos (by rfl)]
    have y5 : Fr.tmps[5]? = some (.pointer (some ⟨G1, 0, none⟩)) := hO 5 _ rfl rfl
    clear hN hO hdep
    obtain ⟨z0, z1, z2, z3, z4, z5, z6⟩ := vcells (block_below hR HB.out)
    go_simp
    refine hK _ _ (rb_refl _) fun w3 h3 => ?_
    exact rfl
  · intro Fr u w1 hTold K hK
    obtain ⟨hN, hO, hR, hdep⟩ := hTold
    rw [if_pos (by rfl)]
    have x3 : Fr.tmps[14]? = some (u 3) := hN 3 _ 14 rfl rfl rfl
    rw [show u 3 = .map (some m) from hdep 3 (by kernel_rfl) w1 (rb_refl _)] at x3
    have x4 : Fr.tmps[15]? = some (u 4) := hN 4 _ 15 rfl rfl rfl
    rw [show u 4 = .agg (vcs vb) from hdep 4 (by kernel_rfl) w1 (rb_refl _)] at x4
    clear hN hO hdep
    have hl := HLK.out w1 (bl_trans (bl_drew HQ.out) hR)
    go_simp
    refine hK _ _ (rb_refl _) fun w3 h3 => ?_
    exact rfl
  · intro Fr u w1 hTold K hK
    obtain ⟨hN, hO, hR, hdep⟩ := hTold
    rw [if_pos (by rfl)]
    have x5 : Fr.tmps[16]? = some (u 5) := hN 5 _ 16 rfl rfl rfl
    rw [show u 5 = .tuple #[.agg (vcs vo), .bool is] from hdep 5 (by kernel_rfl) w1 (rb_refl _)] at x5
    clear hN hO hdep
    go_simp
    refine hK _ _ (rb_refl _) fun w3 h3 => ?_
    exact rfl
  · intro Fr u w1 hTold K hK
    obtain ⟨hN, hO, hR, hdep⟩ := hTold
    rw [if_pos (by rfl)]
    have x6 : Fr.tmps[10]? = some (u 6) := hN 6 _ 10 rfl rfl rfl
    rw [show u 6 = .tuple #[.agg (vcs vo), .bool is] from hdep 6 (by kernel_rfl) w1 (rb_refl _)] at x6
    clear hN hO hdep
    go_simp
    refine hK _ _ (rb_refl _) fun w3 h3 => ?_
    exact rfl
  · intro Fr u w1 hTold
    obtain ⟨hN, hO, hR, hdep⟩ := hTold
    have x6 : Fr.tmps[10]? = some (u 6) := hN 6 _ 10 rfl rfl rfl
    rw [show u 6 = .tuple #[.agg (vcs vo), .bool is] from hdep 6 (by kernel_rfl) w1 (rb_refl _)] at x6
    clear hN hO hdep
    refine ⟨.bool is, fun w2 h2 => ?_, Or.inl ⟨by rfl, fun w => by go_simp⟩⟩
    exact rfl
  · intro Fr u w1 hTold K hK
    obtain ⟨hN, hO, hR, hdep⟩ := hTold
    rw [if_pos (by rfl)]
    clear hN hO hdep
    go_simp
    refine hK _ _ (bl_alloc (Below.refl _ _) _) fun w3 h3 => ?_
    exact ⟨w1.heap.size, rfl, block_below h3 (alloc_new w1 _), hR.size⟩
  · intro u w1 hR hall
    obtain ⟨X, e9, gX, leX⟩ := hall 9 rfl
    have e7 : u 7 = .agg (vcs vo) := hall 7 rfl
    have e8 : u 8 = .bool is := hall 8 rfl
    have bw : Below W3.heap.size W3 w1 := bl_trans (bl_drew (Below.refl _ _)) hR
    change wpList _ _ _ ([_, _]) _ _
    simp only [frameM, frameM_nil, Act.put, List.setIfInBounds_toArray, List.set_cons_zero, List.set_cons_succ, Nat.reduceAdd, e7, e8, e9]
    clear hall e7 e8 e9
    have b4 : Below W3.heap.size W3 (w1.setRow X (vcs vo)) := bl_setRow bw leX
    go_upto_region 4 with (refine wpList_store_rowOf rfl 52 (.tmp 6) (.tmp 17) rfl X rfl rfl 52 _ gX size52s rfl (by kernel_rfl) ?_)
    have HG := Lib.hid (block_below b4 HG.out)
    have HB := Lib.hid (block_below b4 HB.out)
    have H1 := Lib.hid (cell_below b4 H1.out)
    have H8 := Lib.hid (cell_below b4 H8.out)
    have HM := Lib.hid (smap_below keyVote HM.out b4)
    have HROW := Lib.hid (Kd.row_below b4 HROW.out)
    have HQ4 := Lib.hid (bl_trans HQ.out b4)
    clear HLK HQ b4 bw hR gX leX
    generalize w1.setRow X (vcs vo) = W4 at *
    cases is with
    | true =>
      refine wp_region_invA (by kernel_rfl) (by kernel_rfl) Rb (stBA G N L v Ar cr val) rb_refl rb_trans ⟨?_, ?_, ?_, ?_, ?_, ?_, ?_, ?_, ?_, ?_, ?_, ?_, ?_, ?_, ?_, ?_, ?_, ?_, ?_, ?_, ?_, trivial⟩ ?_
      · intro Fr u hN hO w1 hR hdep K hK
        rw [if_pos (by rfl)]
        have y7 : Fr.tmps[7]? = some (.bool true) := hO 7 _ rfl rfl
        clear hN hO hdep
        go_simp
        refine hK _ _ (rb_refl _) fun w3 h3 => ?_
        exact rfl
      · intro Fr u hN hO w1 hR hdep K hK
        rw [if_pos (by rfl)]
        have x0 : Fr.tmps[19]? = some (u 0) := hN 0 _ 19 rfl rfl rfl
        rw [show u 0 = .bool true from hdep 0 (by kernel_rfl) w1 (rb_refl _)] at x0
        clear hN hO hdep
        go_simp
        refine hK _ _ (rb_refl _) fun w3 h3 => ?_
        exact rfl
      · intro Fr u hN hO w1 hR hdep K hK
        have gx : Fr.tmps[20]? = some (u 1) := hN 1 _ 20 rfl rfl rfl
        rw [show u 1 = .bool true from hdep 1 (by kernel_rfl) w1 (rb_refl _)] at gx
        rw [if_neg (wanted_off (s := 20) rfl (by kernel_rfl) gx (by decide))]
        exact hK _ _ (rb_refl _) fun w3 h3 => rfl
      · intro Fr u hN hO w1 hR hdep K hK
        have gx : Fr.tmps[20]? = some (u 1) := hN 1 _ 20 rfl rfl rfl
        rw [show u 1 = .bool true from hdep 1 (by kernel_rfl) w1 (rb_refl _)] at gx
        rw [if_neg (wanted_off (s := 20) rfl (by kernel_rfl) gx (by decide))]
        exact hK _ _ (rb_refl _) fun w3 h3 => rfl
      · intro Fr u hN hO w1 hR hdep K hK
        have gx : Fr.tmps[20]? = some (u 1) := hN 1 _ 20 rfl rfl rfl
        rw [show u 1 = .bool true from hdep 1 (by kernel_rfl) w1 (rb_refl _)] at gx
        rw [if_neg (wanted_off (s := 20) rfl (by kernel_rfl) gx (by decide))]
        exact hK _ _ (rb_refl _) fun w3 h3 => rfl
      · intro Fr u hN hO w1 hR hdep K hK
        have gx : Fr.tmps[20]? = some (u 1) := hN 1 _ 20 rfl rfl rfl
        rw [show u 1 = .bool true from hdep 1 (by kernel_rfl) w1 (rb_refl _)] at gx
        rw [if_neg (wanted_off (s := 20) rfl (by kernel_rfl) gx (by decide))]
        exact hK _ _ (rb_refl _) fun w3 h3 => rfl
      · intro Fr u hN hO w1 hR hdep K hK
        have gx : Fr.tmps[24]? = some (u 5) := hN 5 _ 24 rfl rfl rfl
        rw [show u 5 = undef from hdep 5 (by kernel_rfl) w1 (rb_refl _)] at gx
        rw [if_neg (wanted_undef (s := 24) rfl (by kernel_rfl) gx)]
        exact hK _ _ (rb_refl _) fun w3 h3 => rfl
      · intro Fr u hN hO w1 hR hdep K hK
        have gx : Fr.tmps[24]? = some (u 5) := hN 5 _ 24 rfl rfl rfl
        rw [show u 5 = undef from hdep 5 (by kernel_rfl) w1 (rb_refl _)] at gx
        rw [if_neg (wanted_undef (s := 24) rfl (by kernel_rfl) gx)]
        exact hK _ _ (rb_refl _) fun w3 h3 => rfl
      · intro Fr u hN hO w1 hR hdep K hK
        have gx : Fr.tmps[24]? = some (u 5) := hN 5 _ 24 rfl rfl rfl
        rw [show u 5 = undef from hdep 5 (by kernel_rfl) w1 (rb_refl _)] at gx
        rw [if_neg (wanted_undef (s := 24) rfl (by kernel_rfl) gx)]
        exact hK _ _ (rb_refl _) fun w3 h3 => rfl
      · intro Fr u hN hO w1 hR hdep K hK
        have gx : Fr.tmps[20]? = some (u 1) := hN 1 _ 20 rfl rfl rfl
        rw [show u 1 = .bool true from hdep 1 (by kernel_rfl) w1 (rb_refl _)] at gx
        rw [if_neg (wanted_off (s := 20) rfl (by kernel_rfl) gx (by decide))]
        exact hK _ _ (rb_refl _) fun w3 h3 => rfl
      · intro Fr u hN hO w1 hR hdep K hK
        rw [if_pos (by rfl)]
        have x1 : Fr.tmps[20]? = some (u 1) := hN 1 _ 20 rfl rfl rfl
        rw [show u 1 = .bool true from hdep 1 (by kernel_rfl) w1 (rb_refl _)] at x1
        have x9 : Fr.tmps[28]? = some (u 9) := hN 9 _ 28 rfl rfl rfl
        rw [show u 9 = undef from hdep 9 (by kernel_rfl) w1 (rb_refl _)] at x9
        clear hN hO hdep
        go_simp
        refine hK _ _ (rb_refl _) fun w3 h3 => ?_
        exact rfl
      · intro Fr u hN hO w1 hR hdep K hK
        rw [if_pos (by rfl)]
        have x10 : Fr.tmps[29]? = some (u 10) := hN 10 _ 29 rfl rfl rfl
        rw [show u 10 = .bool true from hdep 10 (by kernel_rfl) w1 (rb_refl _)] at x10
        clear hN hO hdep
        go_simp
        refine hK _ _ (rb_refl _) fun w3 h3 => ?_
        exact rfl
      · intro Fr u hN hO w1 hR hdep K hK
        have gx : Fr.tmps[30]? = some (u 11) := hN 11 _ 30 rfl rfl rfl
        rw [show u 11 = .bool true from hdep 11 (by kernel_rfl) w1 (rb_refl _)] at gx
        rw [if_neg (wanted_off (s := 30) rfl (by kernel_rfl) gx (by decide))]
        exact hK _ _ (rb_refl _) fun w3 h3 => rfl
      · intro Fr u hN hO w1 hR hdep K hK
        have gx : Fr.tmps[30]? = some (u 11) := hN 11 _ 30 rfl rfl rfl
        rw [show u 11 = .bool true from hdep 11 (by kernel_rfl) w1 (rb_refl _)] at gx
        rw [if_neg (wanted_off (s := 30) rfl (by kernel_rfl) gx (by decide))]
        exact hK _ _ (rb_refl _) fun w3 h3 => rfl
      · intro Fr u hN hO w1 hR hdep K hK
        have gx : Fr.tmps[30]? = some (u 11) := hN 11 _ 30 rfl rfl rfl
        rw [show u 11 = .bool true from hdep 11 (by kernel_rfl) w1 (rb_refl _)] at gx
        rw [if_neg (wanted_off (s := 30) rfl (by kernel_rfl) gx (by decide))]
        exact hK _ _ (rb_refl _) fun w3 h3 => rfl
      · intro Fr u hN hO w1 hR hdep K hK
        have gx : Fr.tmps[30]? = some (u 11) := hN 11 _ 30 rfl rfl rfl
        rw [show u 11 = .bool true from hdep 11 (by kernel_rfl) w1 (rb_refl _)] at gx
        rw [if_neg (wanted_off (s := 30) rfl (by kernel_rfl) gx (by decide))]
        exact hK _ _ (rb_refl _) fun w3 h3 => rfl
      · intro Fr u hN hO w1 hR hdep K hK
        have gx : Fr.tmps[30]? = some (u 11) := hN 11 _ 30 rfl rfl rfl
        rw [show u 11 = .bool true from hdep 11 (by kernel_rfl) w1 (rb_refl _)] at gx
        rw [if_neg (wanted_off (s := 30) rfl (by kernel_rfl) gx (by decide))]
        exact hK _ _ (rb_refl _) fun w3 h3 => rfl
      · intro Fr u hN hO w1 hR hdep K hK
        have gx : Fr.tmps[30]? = some (u 11) := hN 11 _ 30 rfl rfl rfl
        rw [show u 11 = .bool true from hdep 11 (by kernel_rfl) w1 (rb_refl _)] at gx
        rw [if_neg (wanted_off (s := 30) rfl (by kernel_rfl) gx (by decide))]
        exact hK _ _ (rb_refl _) fun w3 h3 => rfl
      · intro Fr u hN hO w1 hR hdep K hK
        have gx : Fr.tmps[30]? = some (u 11) := hN 11 _ 30 rfl rfl rfl
        rw [show u 11 = .bool true from hdep 11 (by kernel_rfl) w1 (rb_refl _)] at gx
        rw [if_neg (wanted_off (s := 30) rfl (by kernel_rfl) gx (by decide))]
        exact hK _ _ (rb_refl _) fun w3 h3 => rfl
      · intro Fr u hN hO w1 hR hdep K hK
        have gx : Fr.tmps[30]? = some (u 11) := hN 11 _ 30 rfl rfl rfl
        rw [show u 11 = .bool true from hdep 11 (by kernel_rfl) w1 (rb_refl _)] at gx
        rw [if_neg (wanted_off (s := 30) rfl (by kernel_rfl) gx (by decide))]
        exact hK _ _ (rb_refl _) fun w3 h3 => rfl
      · intro Fr u hN hO w1 hR hdep K hK
        rw [if_pos (by rfl)]
        have x11 : Fr.tmps[30]? = some (u 11) := hN 11 _ 30 rfl rfl rfl
        rw [show u 11 = .bool true from hdep 11 (by kernel_rfl) w1 (rb_refl _)] at x11
        have x19 : Fr.tmps[38]? = some (u 19) := hN 19 _ 38 rfl rfl rfl
        rw [show u 19 = undef from hdep 19 (by kernel_rfl) w1 (rb_refl _)] at x19
        clear hN hO hdep
        go_simp
        refine hK _ _ (rb_refl _) fun w3 h3 => ?_
        exact rfl
      · intro u w' hR hall
        have e20 : u 20 = .bool true := hall 20 (by decide)
        have bw : Below W4.heap.size W4 w' := bl_trans (bl_drew (Below.refl _ _)) hR
        clear hall
        simp only [frameF, Act.put, List.setIfInBounds_toArray, List.set_cons_zero, List.set_cons_succ, Nat.reduceAdd, e20]
        clear e20
        go_wp2_with fail
        go_ret
        exact .inl ⟨.inl rfl, rfl, bl_trans HQ4.out bw⟩
    | false =>
      cases hk2 : (v.kind != 2) with
      | false =>
        refine wp_region_invA (by kernel_rfl) (by kernel_rfl) Rb (stBB G N L v Ar cr val) rb_refl rb_trans ⟨?_, ?_, ?_, ?_, ?_, ?_, ?_, ?_, ?_, ?_, ?_, ?_, ?_, ?_, ?_, ?_, ?_, ?_, ?_, ?_, ?_, trivial⟩ ?_
        · intro Fr u hN hO w1 hR hdep K hK
          rw [if_pos (by rfl)]
          have y7 : Fr.tmps[7]? = some (.bool false) := hO 7 _ rfl rfl
          clear hN hO hdep
          go_simp
          refine hK _ _ (rb_refl _) fun w3 h3 => ?_
          exact rfl
        · intro Fr u hN hO w1 hR hdep K hK
          rw [if_pos (by rfl)]
          have x0 : Fr.tmps[19]? = some (u 0) := hN 0 _ 19 rfl rfl rfl
          rw [show u 0 = .bool false from hdep 0 (by kernel_rfl) w1 (rb_refl _)] at x0
          clear hN hO hdep
          go_simp
          refine hK _ _ (rb_refl _) fun w3 h3 => ?_
          exact rfl
        · intro Fr u hN hO w1 hR hdep K hK
          have gx : Fr.tmps[20]? = some (u 1) := hN 1 _ 20 rfl rfl rfl
          rw [show u 1 = .bool false from hdep 1 (by kernel_rfl) w1 (rb_refl _)] at gx
          rw [if_pos (wanted_on (s := 20) rfl (by kernel_rfl) gx)]
          have y3 : Fr.tmps[3]? = some (.pointer (some ⟨G, 0, none⟩)) := hO 3 _ rfl rfl
          clear hN hO hdep gx
          go_simp
          refine hK _ _ (rb_refl _) fun w3 h3 => ?_
          exact rfl
        · intro Fr u hN hO w1 hR hdep K hK
          have gx : Fr.tmps[20]? = some (u 1) := hN 1 _ 20 rfl rfl rfl
          rw [show u 1 = .bool false from hdep 1 (by kernel_rfl) w1 (rb_refl _)] at gx
          rw [if_pos (wanted_on (s := 20) rfl (by kernel_rfl) gx)]
          have x2 : Fr.tmps[21]? = some (u 2) := hN 2 _ 21 rfl rfl rfl
          rw [show u 2 = .pointer (some ⟨G, 0, none⟩) from hdep 2 (by kernel_rfl) w1 (rb_refl _)] at x2
          clear hN hO hdep gx
          obtain ⟨z0, z1, z2, z3, z4, z5, z6⟩ := vcells (block_below hR HG.out)
          go_simp
          refine hK _ _ (rb_refl _) fun w3 h3 => ?_
          exact rfl
        · intro Fr u hN hO w1 hR hdep K hK
          have gx : Fr.tmps[20]? = some (u 1) := hN 1 _ 20 rfl rfl rfl
          rw [show u 1 = .bool false from hdep 1 (by kernel_rfl) w1 (rb_refl _)] at gx
          rw [if_pos (wanted_on (s := 20) rfl (by kernel_rfl) gx)]
          have x3 : Fr.tmps[22]? = some (u 3) := hN 3 _ 22 rfl rfl rfl
          rw [show u 3 = .int .i64 v.kind from hdep 3 (by kernel_rfl) w1 (rb_refl _)] at x3
          clear hN hO hdep gx
          go_simp
          refine hK _ _ (rb_refl _) fun w3 h3 => ?_
          exact rfl
        · intro Fr u hN hO w1 hR hdep K hK
          have gx : Fr.tmps[20]? = some (u 1) := hN 1 _ 20 rfl rfl rfl
          rw [show u 1 = .bool false from hdep 1 (by kernel_rfl) w1 (rb_refl _)] at gx
          rw [if_pos (wanted_on (s := 20) rfl (by kernel_rfl) gx)]
          have x4 : Fr.tmps[23]? = some (u 4) := hN 4 _ 23 rfl rfl rfl
          rw [show u 4 = .bool false from hdep 4 (by kernel_rfl) w1 (rb_refl _)] at x4
          clear hN hO hdep gx
          go_simp
          refine hK _ _ (rb_refl _) fun w3 h3 => ?_
          exact rfl
        · intro Fr u hN hO w1 hR hdep K hK
          have gx : Fr.tmps[24]? = some (u 5) := hN 5 _ 24 rfl rfl rfl
          rw [show u 5 = .bool false from hdep 5 (by kernel_rfl) w1 (rb_refl _)] at gx
          rw [if_neg (wanted_off (s := 24) rfl (by kernel_rfl) gx (by decide))]
          exact hK _ _ (rb_refl _) fun w3 h3 => rfl
        · intro Fr u hN hO w1 hR hdep K hK
          have gx : Fr.tmps[24]? = some (u 5) := hN 5 _ 24 rfl rfl rfl
          rw [show u 5 = .bool false from hdep 5 (by kernel_rfl) w1 (rb_refl _)] at gx
          rw [if_neg (wanted_off (s := 24) rfl (by kernel_rfl) gx (by decide))]
          exact hK _ _ (rb_refl _) fun w3 h3 => rfl
        · intro Fr u hN hO w1 hR hdep K hK
          have gx : Fr.tmps[24]? = some (u 5) := hN 5 _ 24 rfl rfl rfl
          rw [show u 5 = .bool false from hdep 5 (by kernel_rfl) w1 (rb_refl _)] at gx
          rw [if_neg (wanted_off (s := 24) rfl (by kernel_rfl) gx (by decide))]
          exact hK _ _ (rb_refl _) fun w3 h3 => rfl
        · intro Fr u hN hO w1 hR hdep K hK
          have gx : Fr.tmps[20]? = some (u 1) := hN 1 _ 20 rfl rfl rfl
          rw [show u 1 = .bool false from hdep 1 (by kernel_rfl) w1 (rb_refl _)] at gx
          rw [if_pos (wanted_on (s := 20) rfl (by kernel_rfl) gx)]
          have x5 : Fr.tmps[24]? = some (u 5) := hN 5 _ 24 rfl rfl rfl
          rw [show u 5 = .bool false from hdep 5 (by kernel_rfl) w1 (rb_refl _)] at x5
          have x8 : Fr.tmps[27]? = some (u 8) := hN 8 _ 27 rfl rfl rfl
          rw [show u 8 = undef from hdep 8 (by kernel_rfl) w1 (rb_refl _)] at x8
          clear hN hO hdep gx
          go_simp
          refine hK _ _ (rb_refl _) fun w3 h3 => ?_
          exact rfl
        · intro Fr u hN hO w1 hR hdep K hK
          rw [if_pos (by rfl)]
          have x1 : Fr.tmps[20]? = some (u 1) := hN 1 _ 20 rfl rfl rfl
          rw [show u 1 = .bool false from hdep 1 (by kernel_rfl) w1 (rb_refl _)] at x1
          have x9 : Fr.tmps[28]? = some (u 9) := hN 9 _ 28 rfl rfl rfl
          rw [show u 9 = .bool false from hdep 9 (by kernel_rfl) w1 (rb_refl _)] at x9
          clear hN hO hdep
          go_simp
          refine hK _ _ (rb_refl _) fun w3 h3 => ?_
          exact rfl
        · intro Fr u hN hO w1 hR hdep K hK
          rw [if_pos (by rfl)]
          have x10 : Fr.tmps[29]? = some (u 10) := hN 10 _ 29 rfl rfl rfl
          rw [show u 10 = .bool false from hdep 10 (by kernel_rfl) w1 (rb_refl _)] at x10
          clear hN hO hdep
          go_simp
          refine hK _ _ (rb_refl _) fun w3 h3 => ?_
          exact rfl
        · intro Fr u hN hO w1 hR hdep K hK
          have gx : Fr.tmps[30]? = some (u 11) := hN 11 _ 30 rfl rfl rfl
          rw [show u 11 = .bool false from hdep 11 (by kernel_rfl) w1 (rb_refl _)] at gx
          rw [if_pos (wanted_on (s := 30) rfl (by kernel_rfl) gx)]
          have y3 : Fr.tmps[3]? = some (.pointer (some ⟨G, 0, none⟩)) := hO 3 _ rfl rfl
          clear hN hO hdep gx
          obtain ⟨z0, z1, z2, z3, z4, z5, z6⟩ := vcells (block_below hR HG.out)
          go_simp
          refine hK _ _ (rb_refl _) fun w3 h3 => ?_
          exact rfl
        · intro Fr u hN hO w1 hR hdep K hK
          have gx : Fr.tmps[30]? = some (u 11) := hN 11 _ 30 rfl rfl rfl
          rw [show u 11 = .bool false from hdep 11 (by kernel_rfl) w1 (rb_refl _)] at gx
          rw [if_pos (wanted_on (s := 30) rfl (by kernel_rfl) gx)]
          have y0 : Fr.tmps[0]? = some (.pointer (some ⟨N, 0, none⟩)) := hO 0 _ rfl rfl
          clear hN hO hdep gx
          go_simp
          refine hK _ _ (rb_refl _) fun w3 h3 => ?_
          exact rfl
        · intro Fr u hN hO w1 hR hdep K hK
          have gx : Fr.tmps[30]? = some (u 11) := hN 11 _ 30 rfl rfl rfl
          rw [show u 11 = .bool false from hdep 11 (by kernel_rfl) w1 (rb_refl _)] at gx
          rw [if_pos (wanted_on (s := 30) rfl (by kernel_rfl) gx)]
          have x13 : Fr.tmps[32]? = some (u 13) := hN 13 _ 32 rfl rfl rfl
          rw [show u 13 = .pointer (some ⟨N, 0, none⟩) from hdep 13 (by kernel_rfl) w1 (rb_refl _)] at x13
          clear hN hO hdep gx
          go_simp
          refine hK _ _ (rb_refl _) fun w3 h3 => ?_
          exact rfl
        · intro Fr u hN hO w1 hR hdep K hK
          have gx : Fr.tmps[30]? = some (u 11) := hN 11 _ 30 rfl rfl rfl
          rw [show u 11 = .bool false from hdep 11 (by kernel_rfl) w1 (rb_refl _)] at gx
          rw [if_pos (wanted_on (s := 30) rfl (by kernel_rfl) gx)]
          have x14 : Fr.tmps[33]? = some (u 14) := hN 14 _ 33 rfl rfl rfl
          rw [show u 14 = .pointer (some ⟨N, 0, none⟩) from hdep 14 (by kernel_rfl) w1 (rb_refl _)] at x14
          clear hN hO hdep gx
          go_simp
          refine hK _ _ (rb_refl _) fun w3 h3 => ?_
          exact rfl
        · intro Fr u hN hO w1 hR hdep K hK
          have gx : Fr.tmps[30]? = some (u 11) := hN 11 _ 30 rfl rfl rfl
          rw [show u 11 = .bool false from hdep 11 (by kernel_rfl) w1 (rb_refl _)] at gx
          rw [if_pos (wanted_on (s := 30) rfl (by kernel_rfl) gx)]
          have x15 : Fr.tmps[34]? = some (u 15) := hN 15 _ 34 rfl rfl rfl
          rw [show u 15 = .pointer (some ⟨N, 1, none⟩) from hdep 15 (by kernel_rfl) w1 (rb_refl _)] at x15
          clear hN hO hdep gx
          go_simp
          refine hK _ _ (rb_refl _) fun w3 h3 => ?_
          exact rfl
        · intro Fr u hN hO w1 hR hdep K hK
          have gx : Fr.tmps[30]? = some (u 11) := hN 11 _ 30 rfl rfl rfl
          rw [show u 11 = .bool false from hdep 11 (by kernel_rfl) w1 (rb_refl _)] at gx
          rw [if_pos (wanted_on (s := 30) rfl (by kernel_rfl) gx)]
          have x16 : Fr.tmps[35]? = some (u 16) := hN 16 _ 35 rfl rfl rfl
          rw [show u 16 = .pointer (some ⟨N, 1, none⟩) from hdep 16 (by kernel_rfl) w1 (rb_refl _)] at x16
          clear hN hO hdep gx
          have z := cell_below hR H1.out
          go_simp
          refine hK _ _ (rb_refl _) fun w3 h3 => ?_
          exact rfl
        · intro Fr u hN hO w1 hR hdep K hK
          have gx : Fr.tmps[30]? = some (u 11) := hN 11 _ 30 rfl rfl rfl
          rw [show u 11 = .bool false from hdep 11 (by kernel_rfl) w1 (rb_refl _)] at gx
          rw [if_pos (wanted_on (s := 30) rfl (by kernel_rfl) gx)]
          have x12 : Fr.tmps[31]? = some (u 12) := hN 12 _ 31 rfl rfl rfl
          rw [show u 12 = .agg (vcs v) from hdep 12 (by kernel_rfl) w1 (rb_refl _)] at x12
          have x17 : Fr.tmps[36]? = some (u 17) := hN 17 _ 36 rfl rfl rfl
          rw [show u 17 = .slice Ar L cr from hdep 17 (by kernel_rfl) w1 (rb_refl _)] at x17
          clear hN hO hdep gx
          go_simp
          refine (HVAL.out w1 (Kd.row_below hR HROW.out)).mono ?_
          rintro x w2 ⟨rfl, b2⟩
          refine hK _ _ b2 fun w3 h3 => ?_
          exact rfl
        · intro Fr u hN hO w1 hR hdep K hK
          have gx : Fr.tmps[30]? = some (u 11) := hN 11 _ 30 rfl rfl rfl
          rw [show u 11 = .bool false from hdep 11 (by kernel_rfl) w1 (rb_refl _)] at gx
          rw [if_pos (wanted_on (s := 30) rfl (by kernel_rfl) gx)]
          have x18 : Fr.tmps[37]? = some (u 18) := hN 18 _ 37 rfl rfl rfl
          rw [show u 18 = .bool val from hdep 18 (by kernel_rfl) w1 (rb_refl _)] at x18
          clear hN hO hdep gx
          go_simp
          refine hK _ _ (rb_refl _) fun w3 h3 => ?_
          exact rfl
        · intro Fr u hN hO w1 hR hdep K hK
          rw [if_pos (by rfl)]
          have x11 : Fr.tmps[30]? = some (u 11) := hN 11 _ 30 rfl rfl rfl
          rw [show u 11 = .bool false from hdep 11 (by kernel_rfl) w1 (rb_refl _)] at x11
          have x19 : Fr.tmps[38]? = some (u 19) := hN 19 _ 38 rfl rfl rfl
          rw [show u 19 = .bool (!val) from hdep 19 (by kernel_rfl) w1 (rb_refl _)] at x19
          clear hN hO hdep
          go_simp
          refine hK _ _ (rb_refl _) fun w3 h3 => ?_
          exact rfl
        · intro u w' hR hall
          have e20 : u 20 = .bool (!val) := hall 20 (by decide)
          have bw : Below W4.heap.size W4 w' := bl_trans (bl_drew (Below.refl _ _)) hR
          clear hall
          simp only [frameF, Act.put, List.setIfInBounds_toArray, List.set_cons_zero, List.set_cons_succ, Nat.reduceAdd, e20]
          clear e20
          cases val with
          | false =>
            go_wp2_with fail
            go_ret
            exact .inl ⟨.inr (.inr rfl), rfl, bl_trans HQ4.out bw⟩
          | true =>
            have HG := Lib.hid (block_below bw HG.out)
            have HB := Lib.hid (block_below bw HB.out)
            have H8 := Lib.hid (cell_below bw H8.out)
            have HM := Lib.hid (smap_below keyVote HM.out bw)
            have HQ5 := Lib.hid (bl_trans HQ4.out bw)
            clear HVAL HROW H1 HQ4 hR bw
            generalize w' = W5 at *
            go_upto_region 6 with fail
            refine wp_region_any (by kernel_rfl) ?_
            refine wpAny_invtA [true, true, true, true, true, true, false] [6] (by kernel_rfl) (by kernel_rfl) Rb (stC G N m v vb) rb_refl rb_trans ⟨?_, ?_, ?_, ?_, ?_, ?_, trivial⟩ ?_
            · intro Fr u hN hO w1 hR hdep K hK
              rw [if_pos (by rfl)]
              have y0 : Fr.tmps[0]? = some (.pointer (some ⟨N, 0, none⟩)) := hO 0 _ rfl rfl
              clear hN hO hdep
              go_simp
              refine hK _ _ (rb_refl _) fun w3 h3 => ?_
              exact rfl
            · intro Fr u hN hO w1 hR hdep K hK
              rw [if_pos (by rfl)]
              have x0 : Fr.tmps[40]? = some (u 0) := hN 0 _ 40 rfl rfl rfl
              rw [show u 0 = .pointer (some ⟨N, 0, none⟩) from hdep 0 (by kernel_rfl) w1 (rb_refl _)] at x0
              clear hN hO hdep
              go_simp
              refine hK _ _ (rb_refl _) fun w3 h3 => ?_
              exact rfl
            · intro Fr u hN hO w1 hR hdep K hK
              rw [if_pos (by rfl)]
              have x1 : Fr.tmps[41]? = some (u 1) := hN 1 _ 41 rfl rfl rfl
              rw [show u 1 = .pointer (some ⟨N, 0, none⟩) from hdep 1 (by kernel_rfl) w1 (rb_refl _)] at x1
              clear hN hO hdep
              go_simp
              refine hK _ _ (rb_refl _) fun w3 h3 => ?_
              exact rfl
            · intro Fr u hN hO w1 hR hdep K hK
              rw [if_pos (by rfl)]
              have x2 : Fr.tmps[42]? = some (u 2) := hN 2 _ 42 rfl rfl rfl
              rw [show u 2 = .pointer (some ⟨N, 8, none⟩) from hdep 2 (by kernel_rfl) w1 (rb_refl _)] at x2
              clear hN hO hdep
              have z := cell_below hR H8.out
              go_simp
              refine hK _ _ (rb_refl _) fun w3 h3 => ?_
              exact rfl
            · intro Fr u hN hO w1 hR hdep K hK
              rw [if_pos (by rfl)]
              have y5 : Fr.tmps[5]? = some (.pointer (some ⟨G1, 0, none⟩)) := hO 5 _ rfl rfl
              clear hN hO hdep
              obtain ⟨z0, z1, z2, z3, z4, z5, z6⟩ := vcells (block_below hR HB.out)
              go_simp
              refine hK _ _ (rb_refl _) fun w3 h3 => ?_
              exact rfl
            · intro Fr u hN hO w1 hR hdep K hK
              rw [if_pos (by rfl)]
              have y3 : Fr.tmps[3]? = some (.pointer (some ⟨G, 0, none⟩)) := hO 3 _ rfl rfl
              clear hN hO hdep
              obtain ⟨z0, z1, z2, z3, z4, z5, z6⟩ := vcells (block_below hR HG.out)
              go_simp
              refine hK _ _ (rb_refl _) fun w3 h3 => ?_
              exact rfl
            · intro u w1 hR hall
              have e3 : u 3 = .map (some m) := hall 3 rfl
              have e4 : u 4 = .agg (vcs vb) := hall 4 rfl
              have e5 : u 5 = .agg (vcs v) := hall 5 rfl
              have bw : Below W5.heap.size W5 w1 := bl_trans (bl_drew (Below.refl _ _)) hR
              obtain ⟨W8, hup, s3, bW, oW⟩ := update_at keyVote (smap_below keyVote HM.out bw) Tryz.underlying106 vb (.agg (vcs v))
              have hup2 : (Instr.mapUpdate 106 (.map (some m)) (.agg (vcs vb)) (.agg (vcs v))).run Tryz.prog w1 = .ok () W8 := hup
              change wpList _ _ _ ([_]) _ _
              simp only [frameM, frameM_nil, Act.put, List.setIfInBounds_toArray, List.set_cons_zero, List.set_cons_succ, Nat.reduceAdd, e3, e4, e5]
              have bz := bl_trans HQ5.out bw
              clear hall e3 e4 e5 hR HM hup bw HQ5
              go_wp2_with fail
              go_ret
              exact .inr ⟨rfl, (by first | exact .inl hk2 | exact .inr hk3), rfl, rfl, w1, bz, bW, oW, by rw [HVB.out]; exact s3⟩
      | true =>
        cases hk3 : (v.kind != 3) with
        | true =>
          refine wp_region_invA (by kernel_rfl) (by kernel_rfl) Rb (stBD G N L v Ar cr val) rb_refl rb_trans ⟨?_, ?_, ?_, ?_, ?_, ?_, ?_, ?_, ?_, ?_, ?_, ?_, ?_, ?_, ?_, ?_, ?_, ?_, ?_, ?_, ?_, trivial⟩ ?_
          · intro Fr u hN hO w1 hR hdep K hK
            rw [if_pos (by rfl)]
            have y7 : Fr.tmps[7]? = some (.bool false) := hO 7 _ rfl rfl
            clear hN hO hdep
            go_simp
            refine hK _ _ (rb_refl _) fun w3 h3 => ?_
            exact rfl
          · intro Fr u hN hO w1 hR hdep K hK
            rw [if_pos (by rfl)]
            have x0 : Fr.tmps[19]? = some (u 0) := hN 0 _ 19 rfl rfl rfl
            rw [show u 0 = .bool false from hdep 0 (by kernel_rfl) w1 (rb_refl _)] at x0
            clear hN hO hdep
            go_simp
            refine hK _ _ (rb_refl _) fun w3 h3 => ?_
            exact rfl
          · intro Fr u hN hO w1 hR hdep K hK
            have gx : Fr.tmps[20]? = some (u 1) := hN 1 _ 20 rfl rfl rfl
            rw [show u 1 = .bool false from hdep 1 (by kernel_rfl) w1 (rb_refl _)] at gx
            rw [if_pos (wanted_on (s := 20) rfl (by kernel_rfl) gx)]
            have y3 : Fr.tmps[3]? = some (.pointer (some ⟨G, 0, none⟩)) := hO 3 _ rfl rfl
            clear hN hO hdep gx
            go_simp
            refine hK _ _ (rb_refl _) fun w3 h3 => ?_
            exact rfl
          · intro Fr u hN hO w1 hR hdep K hK
            have gx : Fr.tmps[20]? = some (u 1) := hN 1 _ 20 rfl rfl rfl
            rw [show u 1 = .bool false from hdep 1 (by kernel_rfl) w1 (rb_refl _)] at gx
            rw [if_pos (wanted_on (s := 20) rfl (by kernel_rfl) gx)]
            have x2 : Fr.tmps[21]? = some (u 2) := hN 2 _ 21 rfl rfl rfl
            rw [show u 2 = .pointer (some ⟨G, 0, none⟩) from hdep 2 (by kernel_rfl) w1 (rb_refl _)] at x2
            clear hN hO hdep gx
            obtain ⟨z0, z1, z2, z3, z4, z5, z6⟩ := vcells (block_below hR HG.out)
            go_simp
            refine hK _ _ (rb_refl _) fun w3 h3 => ?_
            exact rfl
          · intro Fr u hN hO w1 hR hdep K hK
            have gx : Fr.tmps[20]? = some (u 1) := hN 1 _ 20 rfl rfl rfl
            rw [show u 1 = .bool false from hdep 1 (by kernel_rfl) w1 (rb_refl _)] at gx
            rw [if_pos (wanted_on (s := 20) rfl (by kernel_rfl) gx)]
            have x3 : Fr.tmps[22]? = some (u 3) := hN 3 _ 22 rfl rfl rfl
            rw [show u 3 = .int .i64 v.kind from hdep 3 (by kernel_rfl) w1 (rb_refl _)] at x3
            clear hN hO hdep gx
            go_simp
            refine hK _ _ (rb_refl _) fun w3 h3 => ?_
            exact rfl
          · intro Fr u hN hO w1 hR hdep K hK
            have gx : Fr.tmps[20]? = some (u 1) := hN 1 _ 20 rfl rfl rfl
            rw [show u 1 = .bool false from hdep 1 (by kernel_rfl) w1 (rb_refl _)] at gx
            rw [if_pos (wanted_on (s := 20) rfl (by kernel_rfl) gx)]
            have x4 : Fr.tmps[23]? = some (u 4) := hN 4 _ 23 rfl rfl rfl
            rw [show u 4 = .bool true from hdep 4 (by kernel_rfl) w1 (rb_refl _)] at x4
            clear hN hO hdep gx
            go_simp
            refine hK _ _ (rb_refl _) fun w3 h3 => ?_
            exact rfl
          · intro Fr u hN hO w1 hR hdep K hK
            have gx : Fr.tmps[24]? = some (u 5) := hN 5 _ 24 rfl rfl rfl
            rw [show u 5 = .bool true from hdep 5 (by kernel_rfl) w1 (rb_refl _)] at gx
            rw [if_pos (wanted_on (s := 24) rfl (by kernel_rfl) gx)]
            have y3 : Fr.tmps[3]? = some (.pointer (some ⟨G, 0, none⟩)) := hO 3 _ rfl rfl
            clear hN hO hdep gx
            go_simp
            refine hK _ _ (rb_refl _) fun w3 h3 => ?_
            exact rfl
          · intro Fr u hN hO w1 hR hdep K hK
            have gx : Fr.tmps[24]? = some (u 5) := hN 5 _ 24 rfl rfl rfl
            rw [show u 5 = .bool true from hdep 5 (by kernel_rfl) w1 (rb_refl _)] at gx
            rw [if_pos (wanted_on (s := 24) rfl (by kernel_rfl) gx)]
            have x6 : Fr.tmps[25]? = some (u 6) := hN 6 _ 25 rfl rfl rfl
            rw [show u 6 = .pointer (some ⟨G, 0, none⟩) from hdep 6 (by kernel_rfl) w1 (rb_refl _)] at x6
            clear hN hO hdep gx
            obtain ⟨z0, z1, z2, z3, z4, z5, z6⟩ := vcells (block_below hR HG.out)
            go_simp
            refine hK _ _ (rb_refl _) fun w3 h3 => ?_
            exact rfl
          · intro Fr u hN hO w1 hR hdep K hK
            have gx : Fr.tmps[24]? = some (u 5) := hN 5 _ 24 rfl rfl rfl
            rw [show u 5 = .bool true from hdep 5 (by kernel_rfl) w1 (rb_refl _)] at gx
            rw [if_pos (wanted_on (s := 24) rfl (by kernel_rfl) gx)]
            have x7 : Fr.tmps[26]? = some (u 7) := hN 7 _ 26 rfl rfl rfl
            rw [show u 7 = .int .i64 v.kind from hdep 7 (by kernel_rfl) w1 (rb_refl _)] at x7
            clear hN hO hdep gx
            go_simp
            refine hK _ _ (rb_refl _) fun w3 h3 => ?_
            exact rfl
          · intro Fr u hN hO w1 hR hdep K hK
            have gx : Fr.tmps[20]? = some (u 1) := hN 1 _ 20 rfl rfl rfl
            rw [show u 1 = .bool false from hdep 1 (by kernel_rfl) w1 (rb_refl _)] at gx
            rw [if_pos (wanted_on (s := 20) rfl (by kernel_rfl) gx)]
            have x5 : Fr.tmps[24]? = some (u 5) := hN 5 _ 24 rfl rfl rfl
            rw [show u 5 = .bool true from hdep 5 (by kernel_rfl) w1 (rb_refl _)] at x5
            have x8 : Fr.tmps[27]? = some (u 8) := hN 8 _ 27 rfl rfl rfl
            rw [show u 8 = .bool true from hdep 8 (by kernel_rfl) w1 (rb_refl _)] at x8
            clear hN hO hdep gx
            go_simp
            refine hK _ _ (rb_refl _) fun w3 h3 => ?_
            exact rfl
          · intro Fr u hN hO w1 hR hdep K hK
            rw [if_pos (by rfl)]
            have x1 : Fr.tmps[20]? = some (u 1) := hN 1 _ 20 rfl rfl rfl
            rw [show u 1 = .bool false from hdep 1 (by kernel_rfl) w1 (rb_refl _)] at x1
            have x9 : Fr.tmps[28]? = some (u 9) := hN 9 _ 28 rfl rfl rfl
            rw [show u 9 = .bool true from hdep 9 (by kernel_rfl) w1 (rb_refl _)] at x9
            clear hN hO hdep
            go_simp
            refine hK _ _ (rb_refl _) fun w3 h3 => ?_
            exact rfl
          · intro Fr u hN hO w1 hR hdep K hK
            rw [if_pos (by rfl)]
            have x10 : Fr.tmps[29]? = some (u 10) := hN 10 _ 29 rfl rfl rfl
            rw [show u 10 = .bool true from hdep 10 (by kernel_rfl) w1 (rb_refl _)] at x10
            clear hN hO hdep
            go_simp
            refine hK _ _ (rb_refl _) fun w3 h3 => ?_
            exact rfl
          · intro Fr u hN hO w1 hR hdep K hK
            have gx : Fr.tmps[30]? = some (u 11) := hN 11 _ 30 rfl rfl rfl
            rw [show u 11 = .bool true from hdep 11 (by kernel_rfl) w1 (rb_refl _)] at gx
            rw [if_neg (wanted_off (s := 30) rfl (by kernel_rfl) gx (by decide))]
            exact hK _ _ (rb_refl _) fun w3 h3 => rfl
          · intro Fr u hN hO w1 hR hdep K hK
            have gx : Fr.tmps[30]? = some (u 11) := hN 11 _ 30 rfl rfl rfl
            rw [show u 11 = .bool true from hdep 11 (by kernel_rfl) w1 (rb_refl _)] at gx
            rw [if_neg (wanted_off (s := 30) rfl (by kernel_rfl) gx (by decide))]
            exact hK _ _ (rb_refl _) fun w3 h3 => rfl
          · intro Fr u hN hO w1 hR hdep K hK
            have gx : Fr.tmps[30]? = some (u 11) := hN 11 _ 30 rfl rfl rfl
            rw [show u 11 = .bool true from hdep 11 (by kernel_rfl) w1 (rb_refl _)] at gx
            rw [if_neg (wanted_off (s := 30) rfl (by kernel_rfl) gx (by decide))]
            exact hK _ _ (rb_refl _) fun w3 h3 => rfl
          · intro Fr u hN hO w1 hR hdep K hK
            have gx : Fr.tmps[30]? = some (u 11) := hN 11 _ 30 rfl rfl rfl
            rw [show u 11 = .bool true from hdep 11 (by kernel_rfl) w1 (rb_refl _)] at gx
            rw [if_neg (wanted_off (s := 30) rfl (by kernel_rfl) gx (by decide))]
            exact hK _ _ (rb_refl _) fun w3 h3 => rfl
          · intro Fr u hN hO w1 hR hdep K hK
            have gx : Fr.tmps[30]? = some (u 11) := hN 11 _ 30 rfl rfl rfl
            rw [show u 11 = .bool true from hdep 11 (by kernel_rfl) w1 (rb_refl _)] at gx
            rw [if_neg (wanted_off (s := 30) rfl (by kernel_rfl) gx (by decide))]
            exact hK _ _ (rb_refl _) fun w3 h3 => rfl
          · intro Fr u hN hO w1 hR hdep K hK
            have gx : Fr.tmps[30]? = some (u 11) := hN 11 _ 30 rfl rfl rfl
            rw [show u 11 = .bool true from hdep 11 (by kernel_rfl) w1 (rb_refl _)] at gx
            rw [if_neg (wanted_off (s := 30) rfl (by kernel_rfl) gx (by decide))]
            exact hK _ _ (rb_refl _) fun w3 h3 => rfl
          · intro Fr u hN hO w1 hR hdep K hK
            have gx : Fr.tmps[30]? = some (u 11) := hN 11 _ 30 rfl rfl rfl
            rw [show u 11 = .bool true from hdep 11 (by kernel_rfl) w1 (rb_refl _)] at gx
            rw [if_neg (wanted_off (s := 30) rfl (by kernel_rfl) gx (by decide))]
            exact hK _ _ (rb_refl _) fun w3 h3 => rfl
          · intro Fr u hN hO w1 hR hdep K hK
            have gx : Fr.tmps[30]? = some (u 11) := hN 11 _ 30 rfl rfl rfl
            rw [show u 11 = .bool true from hdep 11 (by kernel_rfl) w1 (rb_refl _)] at gx
            rw [if_neg (wanted_off (s := 30) rfl (by kernel_rfl) gx (by decide))]
            exact hK _ _ (rb_refl _) fun w3 h3 => rfl
          · intro Fr u hN hO w1 hR hdep K hK
            rw [if_pos (by rfl)]
            have x11 : Fr.tmps[30]? = some (u 11) := hN 11 _ 30 rfl rfl rfl
            rw [show u 11 = .bool true from hdep 11 (by kernel_rfl) w1 (rb_refl _)] at x11
            have x19 : Fr.tmps[38]? = some (u 19) := hN 19 _ 38 rfl rfl rfl
            rw [show u 19 = undef from hdep 19 (by kernel_rfl) w1 (rb_refl _)] at x19
            clear hN hO hdep
            go_simp
            refine hK _ _ (rb_refl _) fun w3 h3 => ?_
            exact rfl
          · intro u w' hR hall
            have e20 : u 20 = .bool true := hall 20 (by decide)
            have bw : Below W4.heap.size W4 w' := bl_trans (bl_drew (Below.refl _ _)) hR
            clear hall
            simp only [frameF, Act.put, List.setIfInBounds_toArray, List.set_cons_zero, List.set_cons_succ, Nat.reduceAdd, e20]
            clear e20
            go_wp2_with fail
            go_ret
            exact .inl ⟨.inr (.inl ⟨hk2, hk3⟩), rfl, bl_trans HQ4.out bw⟩
        | false =>
          refine wp_region_invA (by kernel_rfl) (by kernel_rfl) Rb (stBC G N L v Ar cr val) rb_refl rb_trans ⟨?_, ?_, ?_, ?_, ?_, ?_, ?_, ?_, ?_, ?_, ?_, ?_, ?_, ?_, ?_, ?_, ?_, ?_, ?_, ?_, ?_, trivial⟩ ?_
          · intro Fr u hN hO w1 hR hdep K hK
            rw [if_pos (by rfl)]
            have y7 : Fr.tmps[7]? = some (.bool false) := hO 7 _ rfl rfl
            clear hN hO hdep
            go_simp
            refine hK _ _ (rb_refl _) fun w3 h3 => ?_
            exact rfl
          · intro Fr u hN hO w1 hR hdep K hK
            rw [if_pos (by rfl)]
            have x0 : Fr.tmps[19]? = some (u 0) := hN 0 _ 19 rfl rfl rfl
            rw [show u 0 = .bool false from hdep 0 (by kernel_rfl) w1 (rb_refl _)] at x0
            clear hN hO hdep
            go_simp
            refine hK _ _ (rb_refl _) fun w3 h3 => ?_
            exact rfl
          · intro Fr u hN hO w1 hR hdep K hK
            have gx : Fr.tmps[20]? = some (u 1) := hN 1 _ 20 rfl rfl rfl
            rw [show u 1 = .bool false from hdep 1 (by kernel_rfl) w1 (rb_refl _)] at gx
            rw [if_pos (wanted_on (s := 20) rfl (by kernel_rfl) gx)]
            have y3 : Fr.tmps[3]? = some (.pointer (some ⟨G, 0, none⟩)) := hO 3 _ rfl rfl
            clear hN hO hdep gx
            go_simp
            refine hK _ _ (rb_refl _) fun w3 h3 => ?_
            exact rfl
          · intro Fr u hN hO w1 hR hdep K hK
            have gx : Fr.tmps[20]? = some (u 1) := hN 1 _ 20 rfl rfl rfl
            rw [show u 1 = .bool false from hdep 1 (by kernel_rfl) w1 (rb_refl _)] at gx
            rw [if_pos (wanted_on (s := 20) rfl (by kernel_rfl) gx)]
            have x2 : Fr.tmps[21]? = some (u 2) := hN 2 _ 21 rfl rfl rfl
            rw [show u 2 = .pointer (some ⟨G, 0, none⟩) from hdep 2 (by kernel_rfl) w1 (rb_refl _)] at x2
            clear hN hO hdep gx
            obtain ⟨z0, z1, z2, z3, z4, z5, z6⟩ := vcells (block_below hR HG.out)
            go_simp
            refine hK _ _ (rb_refl _) fun w3 h3 => ?_
            exact rfl
          · intro Fr u hN hO w1 hR hdep K hK
            have gx : Fr.tmps[20]? = some (u 1) := hN 1 _ 20 rfl rfl rfl
            rw [show u 1 = .bool false from hdep 1 (by kernel_rfl) w1 (rb_refl _)] at gx
            rw [if_pos (wanted_on (s := 20) rfl (by kernel_rfl) gx)]
            have x3 : Fr.tmps[22]? = some (u 3) := hN 3 _ 22 rfl rfl rfl
            rw [show u 3 = .int .i64 v.kind from hdep 3 (by kernel_rfl) w1 (rb_refl _)] at x3
            clear hN hO hdep gx
            go_simp
            refine hK _ _ (rb_refl _) fun w3 h3 => ?_
            exact rfl
          · intro Fr u hN hO w1 hR hdep K hK
            have gx : Fr.tmps[20]? = some (u 1) := hN 1 _ 20 rfl rfl rfl
            rw [show u 1 = .bool false from hdep 1 (by kernel_rfl) w1 (rb_refl _)] at gx
            rw [if_pos (wanted_on (s := 20) rfl (by kernel_rfl) gx)]
            have x4 : Fr.tmps[23]? = some (u 4) := hN 4 _ 23 rfl rfl rfl
            rw [show u 4 = .bool true from hdep 4 (by kernel_rfl) w1 (rb_refl _)] at x4
            clear hN hO hdep gx
            go_simp
            refine hK _ _ (rb_refl _) fun w3 h3 => ?_
            exact rfl
          · intro Fr u hN hO w1 hR hdep K hK
            have gx : Fr.tmps[24]? = some (u 5) := hN 5 _ 24 rfl rfl rfl
            rw [show u 5 = .bool true from hdep 5 (by kernel_rfl) w1 (rb_refl _)] at gx
            rw [if_pos (wanted_on (s := 24) rfl (by kernel_rfl) gx)]
            have y3 : Fr.tmps[3]? = some (.pointer (some ⟨G, 0, none⟩)) := hO 3 _ rfl rfl
            clear hN hO hdep gx
            go_simp
            refine hK _ _ (rb_refl _) fun w3 h3 => ?_
            exact rfl
          · intro Fr u hN hO w1 hR hdep K hK
            have gx : Fr.tmps[24]? = some (u 5) := hN 5 _ 24 rfl rfl rfl
            rw [show u 5 = .bool true from hdep 5 (by kernel_rfl) w1 (rb_refl _)] at gx
            rw [if_pos (wanted_on (s := 24) rfl (by kernel_rfl) gx)]
            have x6 : Fr.tmps[25]? = some (u 6) := hN 6 _ 25 rfl rfl rfl
            rw [show u 6 = .pointer (some ⟨G, 0, none⟩) from hdep 6 (by kernel_rfl) w1 (rb_refl _)] at x6
            clear hN hO hdep gx
            obtain ⟨z0, z1, z2, z3, z4, z5, z6⟩ := vcells (block_below hR HG.out)
            go_simp
            refine hK _ _ (rb_refl _) fun w3 h3 => ?_
            exact rfl
          · intro Fr u hN hO w1 hR hdep K hK
            have gx : Fr.tmps[24]? = some (u 5) := hN 5 _ 24 rfl rfl rfl
            rw [show u 5 = .bool true from hdep 5 (by kernel_rfl) w1 (rb_refl _)] at gx
            rw [if_pos (wanted_on (s := 24) rfl (by kernel_rfl) gx)]
            have x7 : Fr.tmps[26]? = some (u 7) := hN 7 _ 26 rfl rfl rfl
            rw [show u 7 = .int .i64 v.kind from hdep 7 (by kernel_rfl) w1 (rb_refl _)] at x7
            clear hN hO hdep gx
            go_simp
            refine hK _ _ (rb_refl _) fun w3 h3 => ?_
            exact rfl
          · intro Fr u hN hO w1 hR hdep K hK
            have gx : Fr.tmps[20]? = some (u 1) := hN 1 _ 20 rfl rfl rfl
            rw [show u 1 = .bool false from hdep 1 (by kernel_rfl) w1 (rb_refl _)] at gx
            rw [if_pos (wanted_on (s := 20) rfl (by kernel_rfl) gx)]
            have x5 : Fr.tmps[24]? = some (u 5) := hN 5 _ 24 rfl rfl rfl
            rw [show u 5 = .bool true from hdep 5 (by kernel_rfl) w1 (rb_refl _)] at x5
            have x8 : Fr.tmps[27]? = some (u 8) := hN 8 _ 27 rfl rfl rfl
            rw [show u 8 = .bool false from hdep 8 (by kernel_rfl) w1 (rb_refl _)] at x8
            clear hN hO hdep gx
            go_simp
            refine hK _ _ (rb_refl _) fun w3 h3 => ?_
            exact rfl
          · intro Fr u hN hO w1 hR hdep K hK
            rw [if_pos (by rfl)]
            have x1 : Fr.tmps[20]? = some (u 1) := hN 1 _ 20 rfl rfl rfl
            rw [show u 1 = .bool false from hdep 1 (by kernel_rfl) w1 (rb_refl _)] at x1
            have x9 : Fr.tmps[28]? = some (u 9) := hN 9 _ 28 rfl rfl rfl
            rw [show u 9 = .bool false from hdep 9 (by kernel_rfl) w1 (rb_refl _)] at x9
            clear hN hO hdep
            go_simp
            refine hK _ _ (rb_refl _) fun w3 h3 => ?_
            exact rfl
          · intro Fr u hN hO w1 hR hdep K hK
            rw [if_pos (by rfl)]
            have x10 : Fr.tmps[29]? = some (u 10) := hN 10 _ 29 rfl rfl rfl
            rw [show u 10 = .bool false from hdep 10 (by kernel_rfl) w1 (rb_refl _)] at x10
            clear hN hO hdep
            go_simp
            refine hK _ _ (rb_refl _) fun w3 h3 => ?_
            exact rfl
          · intro Fr u hN hO w1 hR hdep K hK
            have gx : Fr.tmps[30]? = some (u 11) := hN 11 _ 30 rfl rfl rfl
            rw [show u 11 = .bool false from hdep 11 (by kernel_rfl) w1 (rb_refl _)] at gx
            rw [if_pos (wanted_on (s := 30) rfl (by kernel_rfl) gx)]
            have y3 : Fr.tmps[3]? = some (.pointer (some ⟨G, 0, none⟩)) := hO 3 _ rfl rfl
            clear hN hO hdep gx
            obtain ⟨z0, z1, z2, z3, z4, z5, z6⟩ := vcells (block_below hR HG.out)
            go_simp
            refine hK _ _ (rb_refl _) fun w3 h3 => ?_
            exact rfl
          · intro Fr u hN hO w1 hR hdep K hK
            have gx : Fr.tmps[30]? = some (u 11) := hN 11 _ 30 rfl rfl rfl
            rw [show u 11 = .bool false from hdep 11 (by kernel_rfl) w1 (rb_refl _)] at gx
            rw [if_pos (wanted_on (s := 30) rfl (by kernel_rfl) gx)]
            have y0 : Fr.tmps[0]? = some (.pointer (some ⟨N, 0, none⟩)) := hO 0 _ rfl rfl
            clear hN hO hdep gx
            go_simp
            refine hK _ _ (rb_refl _) fun w3 h3 => ?_
            exact rfl
          · intro Fr u hN hO w1 hR hdep K hK
            have gx : Fr.tmps[30]? = some (u 11) := hN 11 _ 30 rfl rfl rfl
            rw [show u 11 = .bool false from hdep 11 (by kernel_rfl) w1 (rb_refl _)] at gx
            rw [if_pos (wanted_on (s := 30) rfl (by kernel_rfl) gx)]
            have x13 : Fr.tmps[32]? = some (u 13) := hN 13 _ 32 rfl rfl rfl
            rw [show u 13 = .pointer (some ⟨N, 0, none⟩) from hdep 13 (by kernel_rfl) w1 (rb_refl _)] at x13
            clear hN hO hdep gx
            go_simp
            refine hK _ _ (rb_refl _) fun w3 h3 => ?_
            exact rfl
          · intro Fr u hN hO w1 hR hdep K hK
            have gx : Fr.tmps[30]? = some (u 11) := hN 11 _ 30 rfl rfl rfl
            rw [show u 11 = .bool false from hdep 11 (by kernel_rfl) w1 (rb_refl _)] at gx
            rw [if_pos (wanted_on (s := 30) rfl (by kernel_rfl) gx)]
            have x14 : Fr.tmps[33]? = some (u 14) := hN 14 _ 33 rfl rfl rfl
            rw [show u 14 = .pointer (some ⟨N, 0, none⟩) from hdep 14 (by kernel_rfl) w1 (rb_refl _)] at x14
            clear hN hO hdep gx
            go_simp
            refine hK _ _ (rb_refl _) fun w3 h3 => ?_
            exact rfl
          · intro Fr u hN hO w1 hR hdep K hK
            have gx : Fr.tmps[30]? = some (u 11) := hN 11 _ 30 rfl rfl rfl
            rw [show u 11 = .bool false from hdep 11 (by kernel_rfl) w1 (rb_refl _)] at gx
            rw [if_pos (wanted_on (s := 30) rfl (by kernel_rfl) gx)]
            have x15 : Fr.tmps[34]? = some (u 15) := hN 15 _ 34 rfl rfl rfl
            rw [show u 15 = .pointer (some ⟨N, 1, none⟩) from hdep 15 (by kernel_rfl) w1 (rb_refl _)] at x15
            clear hN hO hdep gx
            go_simp
            refine hK _ _ (rb_refl _) fun w3 h3 => ?_
            exact rfl
          · intro Fr u hN hO w1 hR hdep K hK
            have gx : Fr.tmps[30]? = some (u 11) := hN 11 _ 30 rfl rfl rfl
            rw [show u 11 = .bool false from hdep 11 (by kernel_rfl) w1 (rb_refl _)] at gx
            rw [if_pos (wanted_on (s := 30) rfl (by kernel_rfl) gx)]
            have x16 : Fr.tmps[35]? = some (u 16) := hN 16 _ 35 rfl rfl rfl
            rw [show u 16 = .pointer (some ⟨N, 1, none⟩) from hdep 16 (by kernel_rfl) w1 (rb_refl _)] at x16
            clear hN hO hdep gx
            have z := cell_below hR H1.out
            go_simp
            refine hK _ _ (rb_refl _) fun w3 h3 => ?_
            exact rfl
          · intro Fr u hN hO w1 hR hdep K hK
            have gx : Fr.tmps[30]? = some (u 11) := hN 11 _ 30 rfl rfl rfl
            rw [show u 11 = .bool false from hdep 11 (by kernel_rfl) w1 (rb_refl _)] at gx
            rw [if_pos (wanted_on (s := 30) rfl (by kernel_rfl) gx)]
            have x12 : Fr.tmps[31]? = some (u 12) := hN 12 _ 31 rfl rfl rfl
            rw [show u 12 = .agg (vcs v) from hdep 12 (by kernel_rfl) w1 (rb_refl _)] at x12
            have x17 : Fr.tmps[36]? = some (u 17) := hN 17 _ 36 rfl rfl rfl
            rw [show u 17 = .slice Ar L cr from hdep 17 (by kernel_rfl) w1 (rb_refl _)] at x17
            clear hN hO hdep gx
            go_simp
            refine (HVAL.out w1 (Kd.row_below hR HROW.out)).mono ?_
            rintro x w2 ⟨rfl, b2⟩
            refine hK _ _ b2 fun w3 h3 => ?_
            exact rfl
          · intro Fr u hN hO w1 hR hdep K hK
            have gx : Fr.tmps[30]? = some (u 11) := hN 11 _ 30 rfl rfl rfl
            rw [show u 11 = .bool false from hdep 11 (by kernel_rfl) w1 (rb_refl _)] at gx
            rw [if_pos (wanted_on (s := 30) rfl (by kernel_rfl) gx)]
            have x18 : Fr.tmps[37]? = some (u 18) := hN 18 _ 37 rfl rfl rfl
            rw [show u 18 = .bool val from hdep 18 (by kernel_rfl) w1 (rb_refl _)] at x18
            clear hN hO hdep gx
            go_simp
            refine hK _ _ (rb_refl _) fun w3 h3 => ?_
            exact rfl
          · intro Fr u hN hO w1 hR hdep K hK
            rw [if_pos (by rfl)]
            have x11 : Fr.tmps[30]? = some (u 11) := hN 11 _ 30 rfl rfl rfl
            rw [show u 11 = .bool false from hdep 11 (by kernel_rfl) w1 (rb_refl _)] at x11
            have x19 : Fr.tmps[38]? = some (u 19) := hN 19 _ 38 rfl rfl rfl
            rw [show u 19 = .bool (!val) from hdep 19 (by kernel_rfl) w1 (rb_refl _)] at x19
            clear hN hO hdep
            go_simp
            refine hK _ _ (rb_refl _) fun w3 h3 => ?_
            exact rfl
          · intro u w' hR hall
            have e20 : u 20 = .bool (!val) := hall 20 (by decide)
            have bw : Below W4.heap.size W4 w' := bl_trans (bl_drew (Below.refl _ _)) hR
            clear hall
            simp only [frameF, Act.put, List.setIfInBounds_toArray, List.set_cons_zero, List.set_cons_succ, Nat.reduceAdd, e20]
            clear e20
            cases val with
            | false =>
              go_wp2_with fail
              go_ret
              exact .inl ⟨.inr (.inr rfl), rfl, bl_trans HQ4.out bw⟩
            | true =>
              have HG := Lib.hid (block_below bw HG.out)
              have HB := Lib.hid (block_below bw HB.out)
              have H8 := Lib.hid (cell_below bw H8.out)
              have HM := Lib.hid (smap_below keyVote HM.out bw)
              have HQ5 := Lib.hid (bl_trans HQ4.out bw)
              clear HVAL HROW H1 HQ4 hR bw
              generalize w' = W5 at *
              go_upto_region 6 with fail
              refine wp_region_any (by kernel_rfl) ?_
              refine wpAny_invtA [true, true, true, true, true, true, false] [6] (by kernel_rfl) (by kernel_rfl) Rb (stC G N m v vb) rb_refl rb_trans ⟨?_, ?_, ?_, ?_, ?_, ?_, trivial⟩ ?_
              · intro Fr u hN hO w1 hR hdep K hK
                rw [if_pos (by rfl)]
                have y0 : Fr.tmps[0]? = some (.pointer (some ⟨N, 0, none⟩)) := hO 0 _ rfl rfl
                clear hN hO hdep
                go_simp
                refine hK _ _ (rb_refl _) fun w3 h3 => ?_
                exact rfl
              · intro Fr u hN hO w1 hR hdep K hK
                rw [if_pos (by rfl)]
                have x0 : Fr.tmps[40]? = some (u 0) := hN 0 _ 40 rfl rfl rfl
                rw [show u 0 = .pointer (some ⟨N, 0, none⟩) from hdep 0 (by kernel_rfl) w1 (rb_refl _)] at x0
                clear hN hO hdep
                go_simp
                refine hK _ _ (rb_refl _) fun w3 h3 => ?_
                exact rfl
              · intro Fr u hN hO w1 hR hdep K hK
                rw [if_pos (by rfl)]
                have x1 : Fr.tmps[41]? = some (u 1) := hN 1 _ 41 rfl rfl rfl
                rw [show u 1 = .pointer (some ⟨N, 0, none⟩) from hdep 1 (by kernel_rfl) w1 (rb_refl _)] at x1
                clear hN hO hdep
                go_simp
                refine hK _ _ (rb_refl _) fun w3 h3 => ?_
                exact rfl
              · intro Fr u hN hO w1 hR hdep K hK
                rw [if_pos (by rfl)]
                have x2 : Fr.tmps[42]? = some (u 2) := hN 2 _ 42 rfl rfl rfl
                rw [show u 2 = .pointer (some ⟨N, 8, none⟩) from hdep 2 (by kernel_rfl) w1 (rb_refl _)] at x2
                clear hN hO hdep
                have z := cell_below hR H8.out
                go_simp
                refine hK _ _ (rb_refl _) fun w3 h3 => ?_
                exact rfl
              · intro Fr u hN hO w1 hR hdep K hK
                rw [if_pos (by rfl)]
                have y5 : Fr.tmps[5]? = some (.pointer (some ⟨G1, 0, none⟩)) := hO 5 _ rfl rfl
                clear hN hO hdep
                obtain ⟨z0, z1, z2, z3, z4, z5, z6⟩ := vcells (block_below hR HB.out)
                go_simp
                refine hK _ _ (rb_refl _) fun w3 h3 => ?_
                exact rfl
              · intro Fr u hN hO w1 hR hdep K hK
                rw [if_pos (by rfl)]
                have y3 : Fr.tmps[3]? = some (.pointer (some ⟨G, 0, none⟩)) := hO 3 _ rfl rfl
                clear hN hO hdep
                obtain ⟨z0, z1, z2, z3, z4, z5, z6⟩ := vcells (block_below hR HG.out)
                go_simp
                refine hK _ _ (rb_refl _) fun w3 h3 => ?_
                exact rfl
              · intro u w1 hR hall
                have e3 : u 3 = .map (some m) := hall 3 rfl
                have e4 : u 4 = .agg (vcs vb) := hall 4 rfl
                have e5 : u 5 = .agg (vcs v) := hall 5 rfl
                have bw : Below W5.heap.size W5 w1 := bl_trans (bl_drew (Below.refl _ _)) hR
                obtain ⟨W8, hup, s3, bW, oW⟩ := update_at keyVote (smap_below keyVote HM.out bw) Tryz.underlying106 vb (.agg (vcs v))
                have hup2 : (Instr.mapUpdate 106 (.map (some m)) (.agg (vcs vb)) (.agg (vcs v))).run Tryz.prog w1 = .ok () W8 := hup
                change wpList _ _ _ ([_]) _ _
                simp only [frameM, frameM_nil, Act.put, List.setIfInBounds_toArray, List.set_cons_zero, List.set_cons_succ, Nat.reduceAdd, e3, e4, e5]
                have bz := bl_trans HQ5.out bw
                clear hall e3 e4 e5 hR HM hup bw HQ5
                go_wp2_with fail
                go_ret
                exact .inr ⟨rfl, (by first | exact .inl hk2 | exact .inr hk3), rfl, rfl, w1, bz, bW, oW, by rw [HVB.out]; exact s3⟩
end Go.Proofs.YtcbfpdenjdgnlaaGreat
