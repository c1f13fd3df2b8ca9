/- Package leaves: Of. No claim of its own; no condition. -/
import Derived.Test.YtglneailkgminaaVotC
import Derived.Test.YtglneailkgminaaInvG
namespace Go.Proofs.Ytglneailkgminaa
open Go.ChangeShapes Go.WideShapes Go.ChangeAt Go.RowKit
set_option linter.unusedVariables false
set_option linter.unusedSimpArgs false
def useF (v : Vote) (roots : List ByteArray) : Option Use :=
  if validV v roots then some ⟨v.signer, (((verF (roots.getD v.signer.toNat ⟨#[]⟩) 4 (vtB v) v.sig).getD 0 : Nat) : Int), sb (vtB v)⟩ else none
def useD (o : Option Use) : Use := o.getD ⟨0, 0, ⟨#[]⟩⟩
theorem res3 {X : World} {g : Nat} {a b c p q r : Value} {t : TypeId} (h : X.heap[g]? = some (.cells #[a, b, c] t (0, 0))) :
    (((X.setCell ⟨g, 0, none⟩ p).setCell ⟨g, 1, none⟩ q).setCell ⟨g, 2, none⟩ r).heap[g]? = some (.cells #[p, q, r] t (0, 0)) := by
  have h1 := block_set (i := 0) (u := p) h
  have h2 := block_set (i := 1) (u := q) h1
  have h3 := block_set (i := 2) (u := r) h2
  exact h3
theorem bel3 {W X : World} {g : Nat} {p q r : Value} (h : Below W.heap.size W X) (le : W.heap.size ≤ g) : Below W.heap.size W (((X.setCell ⟨g, 0, none⟩ p).setCell ⟨g, 1, none⟩ q).setCell ⟨g, 2, none⟩ r) :=
  bl_set (bl_set (bl_set h (p := ⟨g, 0, none⟩) le _) (p := ⟨g, 1, none⟩) le _) (p := ⟨g, 2, none⟩) le _
def OfPost (o : Option Use) (w : World) (e : Ending) (w' : World) : Prop :=
  e = .returned (.tuple #[.agg #[.int .i64 (useD o).signer, .int .i64 (useD o).leaf, .string (useD o).text], .bool o.isSome]) ∧ Below w.heap.size w w'
def ofG (G : Nat) (ad : Addr) (nr c : Nat) (v : Vote) (root : ByteArray) (A6 : Option Addr) (nt c6 : Nat) (x : Int) : Nat → Value → World → Prop
  | 0, y, _ => y = .slice (some ad) nr c
  | 1, y, _ => y = .pointer (some ⟨G, 5, none⟩)
  | 2, y, _ => y = .int .i64 v.signer
  | 3, y, _ => y = .pointer (some (ad.add v.signer.toNat))
  | 4, y, _ => y = .string root
  | 5, y, _ => y = .slice A6 nt c6
  | 6, y, _ => y = .pointer (some ⟨G, 6, none⟩)
  | 7, y, _ => y = .string v.sig
  | 8, y, _ => y = .tuple #[.int .i64 x, .bool true]
  | 9, y, _ => y = .tuple #[.int .i64 x, .bool true]
  | 10, y, _ => y = .int .i64 x
  | 11, y, _ => y = .bool true
  | 12, y, _ => y = .int .i64 x
  | 13, y, _ => y = .bool true
  | _, _, _ => True
set_option maxHeartbeats 3200000 in
set_option maxRecDepth 100000 in
theorem of_calls (v : Vote) (roots : List ByteArray) (A : Option Addr) (n c B : Nat) (w : World) (hn : n = roots.length) (hr : Kd.str.Row 9 B w A roots) (hz : v.sig.size ≤ 140737488351232) (hl : roots.length ≤ 1048576) :
    Calls Try.prog 62 #[.agg (vcs v), .slice A n c] w (OfPost (useF v roots) w) := by
  subst hn
  have q0 := bl_alloc (bl_alloc (Below.refl w.heap.size w) (.cells (vcs v) 28)) (.cells #[.int .i64 0, .int .i64 0, .string ⟨#[]⟩] 71)
  have a0 : ((w.alloc (.cells (vcs v) 28)).alloc (.cells #[.int .i64 0, .int .i64 0, .string ⟨#[]⟩] 71)).heap[w.heap.size]? = some (.cells (vcs v) 28 (0, 0)) := alloc_old (alloc_new w _) _
  have a1 : ((w.alloc (.cells (vcs v) 28)).alloc (.cells #[.int .i64 0, .int .i64 0, .string ⟨#[]⟩] 71)).heap[w.heap.size + 1]? = some (.cells #[.int .i64 0, .int .i64 0, .string ⟨#[]⟩] 71 (0, 0)) := by
    have := alloc_new (w.alloc (.cells (vcs v) 28)) (.cells #[.int .i64 0, .int .i64 0, .string ⟨#[]⟩] 71)
    rwa [World.size_alloc] at this
  have hrq := Kd.row_below q0 hr
  have hvv := fun (W : World) (h : Kd.str.Row 9 B W A roots) => vvalid_calls v roots A roots.length c B W rfl h hz hl
  cases hval : validV v roots with
  | false =>
    have e : useF v roots = none := by unfold useF; rw [hval]; rfl
    rw [e]
    rw [hval] at hvv
    have HVV := Lib.hid hvv
    have HR := Lib.hid hrq
    clear hvv hrq hr e hval
    go_enter Try.func62, Try.ntmps62
    go_upto_region 1 with fail
    change Code.wp _ _ _ _ ((w.alloc (.cells (vcs v) 28)).alloc (.cells #[.int .i64 0, .int .i64 0, .string ⟨#[]⟩] 71))
    obtain ⟨G, hG⟩ : ∃ G, w.heap.size = G := ⟨_, rfl⟩
    have leG : w.heap.size ≤ G + 1 := by omega
    generalize (w.alloc (.cells (vcs v) 28)).alloc (.cells #[.int .i64 0, .int .i64 0, .string ⟨#[]⟩] 71) = V at *
    simp only [hG] at a0 a1 ⊢
    clear hG
    obtain ⟨r0, r1, r2, r3, r4, r5, r6⟩ := vcells a0
    go_wp2_with (go_at_call 55; refine (HVV.out _ HR.out).mono ?_; rintro x w1 ⟨rfl, b1⟩; have g1 := block_below b1 a1; have X0 := block_cell g1 (i := 0) rfl; have X1 := block_cell g1 (i := 1) rfl; have X2 := block_cell g1 (i := 2) rfl; have Z0 : w1.frozen? ⟨G + 1, 0, none⟩ = false := block_free g1; have Z1 : w1.frozen? ⟨G + 1, 1, none⟩ = false := block_free g1; have Z2 : w1.frozen? ⟨G + 1, 2, none⟩ = false := block_free g1)
    have R := res3 (p := .int .i64 0) (q := .int .i64 0) (r := .string ⟨#[]⟩) g1
    have bz := bel3 (p := .int .i64 0) (q := .int .i64 0) (r := .string ⟨#[]⟩) (bl_trans q0 b1) leG
    generalize ((w1.setCell ⟨G + 1, 0, none⟩ (.int .i64 0)).setCell ⟨G + 1, 1, none⟩ (.int .i64 0)).setCell ⟨G + 1, 2, none⟩ (.string ⟨#[]⟩) = Wf at *
    have z0 := block_cell R (i := 0) rfl
    have z1 := block_cell R (i := 1) rfl
    have z2 := block_cell R (i := 2) rfl
    refine bodyPost_ret (v := .tuple #[.agg #[.int .i64 0, .int .i64 0, .string ⟨#[]⟩], .bool false]) (by simp [results, Try.results62, go_sem, z0, z1, z2]) rfl ?_
    exact ⟨rfl, bz⟩
  | true =>
    have hval' := hval
    unfold validV at hval'
    simp only [Bool.and_eq_true, decide_eq_true_eq] at hval'
    obtain ⟨hok, hs, hsome⟩ := hval'
    have hbd := (voteOk_bd hok).2.2.2.2.2.1
    obtain ⟨k, hk⟩ : ∃ k : Nat, v.signer.toNat = k := ⟨_, rfl⟩
    obtain ⟨root, hroot⟩ : ∃ x, roots[k]? = some x := ⟨_, List.getElem?_eq_getElem (by omega)⟩
    obtain ⟨ad, rfl, c0⟩ := str_at hrq hroot
    rw [← hk] at c0
    have hgd : roots.getD v.signer.toNat ⟨#[]⟩ = root := by rw [hk, List.getD_eq_getElem?_getD, hroot]; rfl
    rw [hgd] at hsome
    obtain ⟨tb, htb⟩ : ∃ t, vtB v = t := ⟨_, rfl⟩
    have htl : tb.length ≤ 16384 := by rw [← htb]; exact (vfW_ok hok).2
    rw [htb] at hsome
    obtain ⟨x, hx⟩ : ∃ x : Int, (((verF root 4 tb v.sig).getD 0 : Nat) : Int) = x := ⟨_, rfl⟩
    have e : useF v roots = some ⟨v.signer, x, sb tb⟩ := by unfold useF; rw [hval, hgd, htb, hx]; rfl
    rw [e]
    rw [hval] at hvv
    have hver := fun (W : World) (A6 : Option Addr) (c6 : Nat) (l6 : tb.length ≤ c6) (m6 : c6 ≤ maxLen) (h : Kd.u8.Row 5 0 W A6 tb) => verify4_calls root v.sig tb A6 tb.length c6 W 0 rfl (by omega) l6 m6 h hz
    rw [hsome, hx] at hver
    have ht := fun W => vText_calls v W hok
    rw [htb] at ht
    have HVER := Lib.hid hver
    have HT := Lib.hid ht
    have HVV := Lib.hid hvv
    have HR := Lib.hid hrq
    have HS0 : Hid (0 ≤ v.signer) := Lib.hid hbd.1
    have HS := Lib.hid hs
    clear hver ht hvv hx htb htl hgd hroot hk hok hbd hr hrq e hval hsome hs
    go_enter Try.func62, Try.ntmps62
    go_upto_region 1 with fail
    change Code.wp _ _ _ _ ((w.alloc (.cells (vcs v) 28)).alloc (.cells #[.int .i64 0, .int .i64 0, .string ⟨#[]⟩] 71))
    obtain ⟨G, hG⟩ : ∃ G, w.heap.size = G := ⟨_, rfl⟩
    have leG : w.heap.size ≤ G + 1 := by omega
    generalize (w.alloc (.cells (vcs v) 28)).alloc (.cells #[.int .i64 0, .int .i64 0, .string ⟨#[]⟩] 71) = V at *
    simp only [hG] at a0 a1 ⊢
    clear hG
    obtain ⟨r0, r1, r2, r3, r4, r5, r6⟩ := vcells a0
    go_upto_region 3 with (go_at_call 55; refine (HVV.out _ HR.out).mono ?_; rintro x w1 ⟨rfl, b1⟩; have g0 := block_below b1 a0; obtain ⟨p0, p1, p2, p3, p4, p5, p6⟩ := vcells g0)
    clear r0 r1 r2 r3 r4 r5 r6
    go_upto_region 4 with (go_at_call 87; refine (HT.out _).mono ?_; rintro x w2 ⟨⟨u6, rfl, own6⟩, b2⟩)
    clear p0 p1 p2 p3 p4 p5 p6
    have b12 := bl_trans b1 b2
    obtain ⟨A6, c6, rfl, l6, m6, r6, _⟩ := Kd.own_row (Kd.own_flat (B' := 0) Kd.flat_u8 own6 (Nat.zero_le _))
    have HA := Lib.hid (block_below b12 a0)
    have HA1 := Lib.hid (block_below b12 a1)
    have HC0 := Lib.hid (cell_below b12 c0)
    have HT6 := Lib.hid r6
    have HL6 := Lib.hid l6
    have HM6 := Lib.hid m6
    have B2 := bl_trans q0 b12
    clear g0 a0 a1 c0 b1 b2 b12 own6 r6 l6 m6 q0 HR HT HVV
    refine wp_region_invA (by kernel_rfl) (by kernel_rfl) Rb (ofG G ad roots.length c v root A6 tb.length c6 x) rb_refl rb_trans ⟨?_, ?_, ?_, ?_, ?_, ?_, ?_, ?_, ?_, ?_, ?_, ?_, ?_, ?_, trivial⟩ ?_
    · intro Fr u hN hO w1 hR hdep K hK
      rw [if_pos (by rfl)]
      have y1 : Fr.tmps[1]? = some (.slice (some ad) roots.length c) := hO 1 _ rfl rfl
      clear hN hO hdep
      go_simp
      refine hK _ _ (rb_refl _) fun w3 h3 => ?_
      exact rfl
    · intro Fr u hN hO w1 hR hdep K hK
      rw [if_pos (by rfl)]
      have y2 : Fr.tmps[2]? = some (.pointer (some ⟨G, 0, none⟩)) := hO 2 _ rfl rfl
      clear hN hO hdep
      go_simp
      refine hK _ _ (rb_refl _) fun w3 h3 => ?_
      exact rfl
    · intro Fr u hN hO w1 hR hdep K hK
      rw [if_pos (by rfl)]
      have x1 : Fr.tmps[18]? = some (u 1) := hN 1 _ 18 rfl rfl rfl
      rw [show u 1 = .pointer (some ⟨G, 5, none⟩) from hdep 1 (by kernel_rfl) w1 (rb_refl _)] at x1
      clear hN hO hdep
      obtain ⟨r0, r1, r2, r3, r4, r5, r6⟩ := vcells (block_below hR HA.out)
      go_simp
      refine hK _ _ (rb_refl _) fun w3 h3 => ?_
      exact rfl
    · intro Fr u hN hO w1 hR hdep K hK
      rw [if_pos (by rfl)]
      have x0 : Fr.tmps[17]? = some (u 0) := hN 0 _ 17 rfl rfl rfl
      rw [show u 0 = .slice (some ad) roots.length c from hdep 0 (by kernel_rfl) w1 (rb_refl _)] at x0
      have x2 : Fr.tmps[19]? = some (u 2) := hN 2 _ 19 rfl rfl rfl
      rw [show u 2 = .int .i64 v.signer from hdep 2 (by kernel_rfl) w1 (rb_refl _)] at x2
      clear hN hO hdep
      have hs0 := HS0.out
      have hs := HS.out
      go_simp
      refine hK _ _ (rb_refl _) fun w3 h3 => ?_
      exact rfl
    · intro Fr u hN hO w1 hR hdep K hK
      rw [if_pos (by rfl)]
      have x3 : Fr.tmps[20]? = some (u 3) := hN 3 _ 20 rfl rfl rfl
      rw [show u 3 = .pointer (some (ad.add v.signer.toNat)) from hdep 3 (by kernel_rfl) w1 (rb_refl _)] at x3
      clear hN hO hdep
      have z0 := cell_below hR HC0.out
      go_simp
      refine hK _ _ (rb_refl _) fun w3 h3 => ?_
      exact rfl
    · intro Fr u hN hO w1 hR hdep K hK
      rw [if_pos (by rfl)]
      have y6 : Fr.tmps[6]? = some (.slice A6 tb.length c6) := hO 6 _ rfl rfl
      clear hN hO hdep
      go_simp
      refine hK _ _ (rb_refl _) fun w3 h3 => ?_
      exact rfl
    · intro Fr u hN hO w1 hR hdep K hK
      rw [if_pos (by rfl)]
      have y2 : Fr.tmps[2]? = some (.pointer (some ⟨G, 0, none⟩)) := hO 2 _ rfl rfl
      clear hN hO hdep
      go_simp
      refine hK _ _ (rb_refl _) fun w3 h3 => ?_
      exact rfl
    · intro Fr u hN hO w1 hR hdep K hK
      rw [if_pos (by rfl)]
      have x6 : Fr.tmps[23]? = some (u 6) := hN 6 _ 23 rfl rfl rfl
      rw [show u 6 = .pointer (some ⟨G, 6, none⟩) from hdep 6 (by kernel_rfl) w1 (rb_refl _)] at x6
      clear hN hO hdep
      obtain ⟨r0, r1, r2, r3, r4, r5, r6⟩ := vcells (block_below hR HA.out)
      go_simp
      refine hK _ _ (rb_refl _) fun w3 h3 => ?_
      exact rfl
    · intro Fr u hN hO w1 hR hdep K hK
      rw [if_pos (by rfl)]
      have x4 : Fr.tmps[21]? = some (u 4) := hN 4 _ 21 rfl rfl rfl
      rw [show u 4 = .string root from hdep 4 (by kernel_rfl) w1 (rb_refl _)] at x4
      have x5 : Fr.tmps[22]? = some (u 5) := hN 5 _ 22 rfl rfl rfl
      rw [show u 5 = .slice A6 tb.length c6 from hdep 5 (by kernel_rfl) w1 (rb_refl _)] at x5
      have x7 : Fr.tmps[24]? = some (u 7) := hN 7 _ 24 rfl rfl rfl
      rw [show u 7 = .string v.sig from hdep 7 (by kernel_rfl) w1 (rb_refl _)] at x7
      clear hN hO hdep
      go_simp
      refine (HVER.out w1 A6 c6 HL6.out HM6.out (Kd.row_below hR HT6.out)).mono ?_
      rintro x w2 ⟨rfl, b2⟩
      refine hK _ _ b2 fun w3 h3 => ?_
      exact rfl
    · intro Fr u hN hO w1 hR hdep K hK
      rw [if_pos (by rfl)]
      have x8 : Fr.tmps[25]? = some (u 8) := hN 8 _ 25 rfl rfl rfl
      rw [show u 8 = .tuple #[.int .i64 x, .bool true] from hdep 8 (by kernel_rfl) w1 (rb_refl _)] at x8
      clear hN hO hdep
      go_simp
      refine hK _ _ (rb_refl _) fun w3 h3 => ?_
      exact rfl
    · intro Fr u hN hO w1 hR hdep K hK
      rw [if_pos (by rfl)]
      have x9 : Fr.tmps[16]? = some (u 9) := hN 9 _ 16 rfl rfl rfl
      rw [show u 9 = .tuple #[.int .i64 x, .bool true] from hdep 9 (by kernel_rfl) w1 (rb_refl _)] at x9
      clear hN hO hdep
      go_simp
      refine hK _ _ (rb_refl _) fun w3 h3 => ?_
      exact rfl
    · intro Fr u hN hO w1 hR hdep K hK
      rw [if_pos (by rfl)]
      have x9 : Fr.tmps[16]? = some (u 9) := hN 9 _ 16 rfl rfl rfl
      rw [show u 9 = .tuple #[.int .i64 x, .bool true] from hdep 9 (by kernel_rfl) w1 (rb_refl _)] at x9
      clear hN hO hdep
      go_simp
      refine hK _ _ (rb_refl _) fun w3 h3 => ?_
      exact rfl
    · intro Fr u hN hO w1 hR hdep K hK
      rw [if_pos (by rfl)]
      have x10 : Fr.tmps[26]? = some (u 10) := hN 10 _ 26 rfl rfl rfl
      rw [show u 10 = .int .i64 x from hdep 10 (by kernel_rfl) w1 (rb_refl _)] at x10
      clear hN hO hdep
      go_simp
      refine hK _ _ (rb_refl _) fun w3 h3 => ?_
      exact rfl
    · intro Fr u hN hO w1 hR hdep K hK
      rw [if_pos (by rfl)]
      have x11 : Fr.tmps[27]? = some (u 11) := hN 11 _ 27 rfl rfl rfl
      rw [show u 11 = .bool true from hdep 11 (by kernel_rfl) w1 (rb_refl _)] at x11
      clear hN hO hdep
      go_simp
      refine hK _ _ (rb_refl _) fun w3 h3 => ?_
      exact rfl
    · intro u w' hR hall
      have h12 : u 12 = .int .i64 x := hall 12 (by decide)
      have h13 : u 13 = .bool true := hall 13 (by decide)
      have bw : Below w2.heap.size w2 w' := bl_trans (bl_drew (Below.refl _ _)) hR
      clear hall
      simp only [frameF, Act.put, List.setIfInBounds_toArray, List.set_cons_zero, List.set_cons_succ, Nat.reduceAdd, h12, h13]
      clear h12 h13
      have hrun := run_str Try.underlying40 Try.underlying5 Try.underlying9 (Kd.row_below bw HT6.out) c6
      obtain ⟨r0, r1, r2, r3, r4, r5, r6⟩ := vcells (block_below bw HA.out)
      have g1 := block_below bw HA1.out
      have X0 := block_cell g1 (i := 0) rfl
      have X1 := block_cell g1 (i := 1) rfl
      have X2 := block_cell g1 (i := 2) rfl
      have Z0 : w'.frozen? ⟨G + 1, 0, none⟩ = false := block_free g1
      have Z1 : w'.frozen? ⟨G + 1, 1, none⟩ = false := block_free g1
      have Z2 : w'.frozen? ⟨G + 1, 2, none⟩ = false := block_free g1
      go_wp2_with fail
      have R := res3 (p := .int .i64 v.signer) (q := .int .i64 x) (r := .string (sb tb)) g1
      have bz := bel3 (p := .int .i64 v.signer) (q := .int .i64 x) (r := .string (sb tb)) (bl_trans B2 bw) leG
      generalize ((w'.setCell ⟨G + 1, 0, none⟩ (.int .i64 v.signer)).setCell ⟨G + 1, 1, none⟩ (.int .i64 x)).setCell ⟨G + 1, 2, none⟩ (.string (sb tb)) = Wf at *
      have z0 := block_cell R (i := 0) rfl
      have z1 := block_cell R (i := 1) rfl
      have z2 := block_cell R (i := 2) rfl
      refine bodyPost_ret (v := .tuple #[.agg #[.int .i64 v.signer, .int .i64 x, .string (sb tb)], .bool true]) (by simp [results, Try.results62, go_sem, z0, z1, z2]) rfl ?_
      exact ⟨rfl, bz⟩
end Go.Proofs.Ytglneailkgminaa
