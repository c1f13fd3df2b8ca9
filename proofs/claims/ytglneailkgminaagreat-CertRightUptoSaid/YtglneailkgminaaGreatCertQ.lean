/- Package mootlaw09: the walk of CertRight. No claim of its own; no condition. -/
import Derived.Test.YtglneailkgminaaGreatCertT
import Derived.Test.YtglneailkgminaaGreatRefJ
import Derived.Test.YtglneailkgminaaGreatCertM
namespace Go.Proofs.YtglneailkgminaaGreat
open Go.ChangeShapes Go.WideShapes Go.ChangeAt Go.RowKit
set_option linter.unusedVariables false
set_option linter.unusedSimpArgs false
theorem chk_calls (m : Mark) (l : List Vote) (roots : List ByteArray) (q : Int) (A Ar : Option Addr) (c cr B : Nat) (w : World) (hl : l.length ≤ 1048576) (hlr : roots.length ≤ 1048576)
    (hr : kVote.Row 29 B w A l) (hrr : Kd.str.Row 9 B w Ar roots) :
    Calls Tryz.prog 7 #[.agg #[.int .i64 m.view, .int .i64 m.height, .string m.block, .slice A l.length c], .slice Ar roots.length cr, .int .i64 q] w fun e w' => e = .returned (.int .i64 (chkC m l roots q)) ∧ Below w.heap.size w w' := by
  by_cases h0 : l.length = 0
  · have : l = [] := List.length_eq_zero_iff.1 h0
    subst this
    exact check_nil m A Ar c roots.length cr q w
  · exact check_cons m l roots q A Ar l.length roots.length c cr B w rfl rfl hl h0 hlr hr hrr
theorem row_lift {B M : Nat} {w : World} {A : Option Addr} {l : List Vote} (hB : B ≤ M) (h : kVote.Row 29 B w A l) : kVote.Row 29 M w A l := by
  intro hne
  obtain ⟨ad, rfl, hb, hx⟩ := h hne
  exact ⟨ad, rfl, ⟨hb.1, hb.2.imp (fun k => Nat.lt_of_lt_of_le k hB) id⟩, hx⟩
theorem own_isF (m : Mark) : ∀ (l o : List Vote), (∀ x ∈ o, isF m x = true) → ∀ x ∈ l.foldl (ownStep m) o, isF m x = true
  | [], o, h => h
  | v :: l, o, h => own_isF m l (ownStep m o v) fun x hx => by
    unfold ownStep at hx
    split at hx
    · rename_i hc
      simp only [Bool.and_eq_true] at hc
      rcases List.mem_append.1 hx with k | k
      · exact h x k
      · rw [List.mem_singleton.1 k]
        exact hc.1
    · exact h x hx
def validIn (roots : List ByteArray) (l : List Vote) : List Vote := l.filter fun v => validV v roots
theorem valid_step {roots : List ByteArray} {l : List Vote} {k : Nat} {x : Vote} (h : l[k]? = some x) : validIn roots (l.take (k + 1)) = validIn roots (l.take k) ++ (if validV x roots then [x] else []) := by
  unfold validIn
  rw [List.take_add_one, h, List.filter_append]
  cases hp : validV x roots <;> simp [hp]
theorem valid_le (roots : List ByteArray) (l : List Vote) (k : Nat) : (validIn roots (l.take k)).length ≤ k := by
  unfold validIn
  exact Nat.le_trans (List.length_filter_le _ _) (by rw [List.length_take]; omega)
theorem valid_all (roots : List ByteArray) (l : List Vote) : ∀ x ∈ validIn roots l, validV x roots = true := fun x hx => (List.mem_filter.1 hx).2
/-- A cert of two statements that are valid, by rising signers, about one block, is right, of two, not of three. -/
theorem right_ok {m : Mark} {roots : List ByteArray} {vs s : List Vote} (hv : ∀ x ∈ vs, validV x roots = true) (hp : s.Perm (ownF m vs)) (hr : Rises s) (hb : badQ (ownF m vs) 2 = false) :
    ∃ a b, s.take 2 = [a, b] ∧ chkC m [a, b] roots 2 = 0 ∧ chkC m [a, b] roots 3 = 41 := by
  have hlen : 2 ≤ s.length := by
    have := hp.length_eq
    unfold badQ at hb
    simp only [Bool.or_eq_false_iff, decide_eq_false_iff_not] at hb
    omega
  match s, hlen with
  | a :: b :: t, _ =>
    have hm : ∀ x ∈ (a :: b :: t), isF m x = true ∧ validV x roots = true := fun x hx => by
      have h1 := hp.mem_iff.1 hx
      refine ⟨own_isF m vs [] (fun x h => by cases h) x h1, hv x ?_⟩
      rcases (own_all m vs []).2.1 x h1 with k | k
      · cases k
      · exact k
    have ha := hm a (by simp)
    have hb2 := hm b (by simp)
    have hlt : a.signer < b.signer := by
      unfold Rises at hr
      rw [List.pairwise_cons] at hr
      exact hr.1 b (by simp)
    have wa : isW m a = true := ha.1
    have wb : isW m b = true := hb2.1
    refine ⟨a, b, rfl, ?_, ?_⟩
    · unfold chkC
      rw [if_neg (by simp), if_neg (by simp)]
      rw [if_pos]
      show allOk m roots [a, b] 2 = true
      rw [allOk_succ, allOk_succ]
      have h0 : allOk m roots [a, b] 0 = true := rfl
      have o0 : okAt m roots [a, b] 0 = true := by
        show (isW m a && (!prevGe [a, b] 0 a && validV a roots)) = true
        rw [wa, ha.2]
        rfl
      have o1 : okAt m roots [a, b] 1 = true := by
        show (isW m b && (!prevGe [a, b] 1 b && validV b roots)) = true
        have : prevGe [a, b] 1 b = false := by
          show decide (b.signer ≤ a.signer) = false
          rw [decide_eq_false_iff_not]
          omega
        rw [wb, hb2.2, this]
        rfl
      rw [h0, o0, o1]
      rfl
    · unfold chkC
      rw [if_neg (by simp), if_pos (by simp)]
set_option maxHeartbeats 6400000 in
set_option maxRecDepth 100000 in
theorem certright_walk (l : List Vote) (m : Mark) (roots : List ByteArray) (A Ar : Option Addr) (c cr : Nat) (w : World) (hl : l.length ≤ 1048576) (hlr : roots.length ≤ 1048576) (hr : kVote.Row 29 w.heap.size w A l) (hrr : Kd.str.Row 9 w.heap.size w Ar roots) :
    Calls Tryz.prog 3 #[.slice A l.length c, .agg #[.int .i64 m.view, .int .i64 m.height, .string m.block], .slice Ar roots.length cr] w fun e w' => e = .returned (.bool true) ∧ Below w.heap.size w w' := by
  obtain ⟨i0, hi, hz0, hz1, hz2⟩ := info_parts info_kVote
  have q0 := bl_alloc (Below.refl w.heap.size w) (.cells #[.int .i64 m.view, .int .i64 m.height, .string m.block] 24)
  have a0 := alloc_new w (.cells #[.int .i64 m.view, .int .i64 m.height, .string m.block] 24)
  go_enter Tryz.func3, Tryz.ntmps3
  go_upto_region 1 with fail
  change Code.wp _ _ _ _ (w.alloc (.cells #[.int .i64 m.view, .int .i64 m.height, .string m.block] 24))
  obtain ⟨G, hG⟩ : ∃ G, w.heap.size = G := ⟨_, rfl⟩
  have leG : w.heap.size ≤ G := by omega
  generalize w.alloc (.cells #[.int .i64 m.view, .int .i64 m.height, .string m.block] 24) = V0 at *
  rw [hG] at a0
  simp only [hG]
  have HG := Lib.hid hG
  clear hG
  go_upto_region 3 with (go_at_call 4; refine (alive09_calls _).mono ?_; rintro x w1 ⟨rfl, b1⟩)
  have a1 := block_below b1 a0
  have q1 := bl_trans q0 b1
  clear a0 q0
  go_wp2_with fail
  go_loopw [7, 8] (fun bv iv w' => ∃ k : Nat, k ≤ l.length ∧ k ≤ 10 ∧ iv = .int .i64 k ∧ kVote.Own 29 w.heap.size w' w.heap.size bv (validIn roots (l.take k)) ∧ Below w.heap.size w w' ∧ w'.heap[G]? = some (.cells #[.int .i64 m.view, .int .i64 m.height, .string m.block] 24 (0, 0))) (fun _ iv _ => l.length - (intOf iv).toNat)
  case atStart => exact ⟨0, by omega, by omega, rfl, Kd.own_nil _ _ _ _ _, q1, a1⟩
  case round =>
    clear a1 q1
    obtain ⟨k, h1, h10, rfl, own, bel, g0⟩ := hrel
    rename World => wr
    by_cases h : k < l.length ∧ k < 10
    case neg =>
      have hvl := valid_all roots (l.take k)
      have hle := valid_le roots l k
      obtain ⟨vs, hvs⟩ : ∃ vs, validIn roots (l.take k) = vs := ⟨_, rfl⟩
      rw [hvs] at own hvl hle
      obtain ⟨A5, c5, rfl, o1, o2, rowv, _⟩ := Kd.own_row own
      have hmk := make_calls vs m 2 A5 c5 wr (by omega) (row_lift bel.size rowv)
      have HMK := Lib.hid hmk
      have HG0 := Lib.hid g0
      have HVL := Lib.hid hvl
      have hrr2 := Kd.row_below bel hrr
      have HRR := Lib.hid hrr2
      have x0 := block_cell g0 (i := 0) rfl
      have x1 := block_cell g0 (i := 1) rfl
      have x2 := block_cell g0 (i := 2) rfl
      clear hmk own g0 hvl hvs o1 o2 rowv hrr2
      have hex : ¬ ((k : Int) < (l.length : Int)) ∨ ((k : Int) < (l.length : Int) ∧ ¬ ((k : Int) < 10)) := by omega
      have HLE := Lib.hid hle
      clear hle h h1 h10
      rcases hex with hkI | ⟨hkI, hk10⟩
      all_goals
        go_upto_region 10 with (go_at_call 6; refine (HMK.out).mono ?_; rintro x w2 ⟨hcase, b2⟩; rcases hcase with ⟨hb, rfl⟩ | ⟨hb, s, A', n', c', hp, hs, hn', rfl, row'⟩; all_goals (try (have HN := Lib.hid hn'; clear hn')))
        case _ =>
          have q2 := bl_alloc (bl_trans bel b2) (.cells #[.int .i64 0, .int .i64 0, .string ⟨#[]⟩, .slice none 0 0] 31)
          go_wp2_with fail
          go_ret
          exact ⟨rfl, q2⟩
        case _ =>
          obtain ⟨a, b, hab, hc2, hc3⟩ := right_ok HVL.out hp hs hb
          have hn' := HN.out
          rw [show (2 : Int).toNat = 2 from rfl, hab] at hn' row'
          have b3 := bl_alloc b2 (.cells #[.int .i64 m.view, .int .i64 m.height, .string m.block, .slice A' n' c'] 31)
          have q2 := bl_trans bel b3
          have a4 := alloc_new w2 (.cells #[.int .i64 m.view, .int .i64 m.height, .string m.block, .slice A' n' c'] 31)
          have row4 := Kd.row_below (bl_alloc (Below.refl w2.heap.size w2) (.cells #[.int .i64 m.view, .int .i64 m.height, .string m.block, .slice A' n' c'] 31)) row'
          have rr4 := Kd.row_below b3 HRR.out
          change Code.wp _ _ _ _ (w2.alloc (.cells #[.int .i64 m.view, .int .i64 m.height, .string m.block, .slice A' n' c'] 31))
          obtain ⟨G9, hG9⟩ : ∃ G9, w2.heap.size = G9 := ⟨_, rfl⟩
          have hBs := b3.size
          generalize w2.alloc (.cells #[.int .i64 m.view, .int .i64 m.height, .string m.block, .slice A' n' c'] 31) = W4 at *
          simp only [hG9] at a4 ⊢
          clear hG9
          have hchk2 : ∀ W, Below W4.heap.size W4 W → Calls Tryz.prog 7 #[.agg #[.int .i64 m.view, .int .i64 m.height, .string m.block, .slice A' n' c'], .slice Ar roots.length cr, .int .i64 2] W fun e w' => e = .returned (.int .i64 (chkC m [a, b] roots 2)) ∧ Below W.heap.size W w' := fun W bb => hn' ▸ chk_calls m [a, b] roots 2 A' Ar c' cr W.heap.size W (by simp) hlr (row_lift (Nat.le_trans hBs bb.size) (Kd.row_below bb row4)) (Kd.row_flat Kd.flat_str (Kd.row_below bb rr4) (Nat.le_refl _))
          have hchk3 : ∀ W, Below W4.heap.size W4 W → Calls Tryz.prog 7 #[.agg #[.int .i64 m.view, .int .i64 m.height, .string m.block, .slice A' n' c'], .slice Ar roots.length cr, .int .i64 3] W fun e w' => e = .returned (.int .i64 (chkC m [a, b] roots 3)) ∧ Below W.heap.size W w' := fun W bb => hn' ▸ chk_calls m [a, b] roots 3 A' Ar c' cr W.heap.size W (by simp) hlr (row_lift (Nat.le_trans hBs bb.size) (Kd.row_below bb row4)) (Kd.row_flat Kd.flat_str (Kd.row_below bb rr4) (Nat.le_refl _))
          rw [hc2] at hchk2
          rw [hc3] at hchk3
          have HC2 := Lib.hid hchk2
          have HC3 := Lib.hid hchk3
          have HA4 := Lib.hid a4
          have y0 := block_cell a4 (i := 0) rfl
          have y1 := block_cell a4 (i := 1) rfl
          have y2 := block_cell a4 (i := 2) rfl
          have y3 := block_cell a4 (i := 3) rfl
          clear hchk2 hchk3 hc2 hc3 hab hn' HN row4 rr4 a4 hp hs hb
          go_wp2_with (first
            | (go_at_call 7; (with_reducible refine (HC2.out _ (Below.refl _ _)).mono ?_); rintro e w5 ⟨rfl, b5⟩; have i4 := block_below b5 HA4.out; have z0 := block_cell i4 (i := 0) rfl; have z1 := block_cell i4 (i := 1) rfl; have z2 := block_cell i4 (i := 2) rfl; have z3 := block_cell i4 (i := 3) rfl)
            | (go_at_call 7; refine (HC3.out _ b5).mono ?_; rintro e w6 ⟨rfl, b6⟩))
          go_ret
          exact ⟨rfl, bl_trans q2 (bl_trans b5 b6)⟩
    case pos =>
      obtain ⟨hk, hk2⟩ := h
      obtain ⟨x, hx⟩ : ∃ x, l[k]? = some x := ⟨_, List.getElem?_eq_getElem hk⟩
      obtain ⟨ad, rfl, e0, e1, e2, e3, e4, e5, e6, g0', g1, g2, g3, g4, g5, g6⟩ := kVote_at (Kd.row_below bel hr) hx
      have hs := valid_step (roots := roots) hx
      have hle := valid_le roots l k
      have hkI : (k : Int) < (l.length : Int) := by omega
      have hk0 : (0 : Int) ≤ (k : Int) := by omega
      have hk10 : (k : Int) < 10 := by omega
      have hvv := refvalid_calls x roots Ar roots.length cr w.heap.size wr rfl (Kd.row_below bel hrr) g6 hlr
      have hvv2 : Calls Tryz.prog 5 #[.agg #[.int .i64 x.kind, .int .i64 x.view, .int .i64 x.height, .string x.block, .int .i64 x.ticks, .int .i64 x.signer, .string x.sig], .slice Ar roots.length cr] wr fun e w' => e = .returned (.bool (validV x roots)) ∧ Below wr.heap.size wr w' := hvv
      clear hx hvv
      cases hval : validV x roots with
      | false =>
        rw [hval] at hvv2 hs
        simp only [Bool.false_eq_true, if_false, List.append_nil] at hs
        have HS := Lib.hid hs
        have HVV := Lib.hid hvv2
        clear hs hvv2 hval
        go_wp2_with (go_at_call 5; refine (HVV.out).mono ?_; rintro e w1 ⟨rfl, b1⟩)
        go_roundw
        case rel => exact ⟨k + 1, by omega, by omega, by go_num, by rw [HS.out]; exact Kd.own_below own b1, bl_trans bel b1, block_below b1 g0⟩
        case measure => simp [intOf]; omega
      | true =>
        rw [hval] at hvv2 hs
        simp only [if_true] at hs
        have HS := Lib.hid hs
        have HVV := Lib.hid hvv2
        clear hs hvv2 hval
        go_upto_region 8 with (go_at_call 5; refine (HVV.out).mono ?_; rintro e w1 ⟨rfl, b1⟩)
        have f0 := cell_below b1 e0
        have f1 := cell_below b1 e1
        have f2 := cell_below b1 e2
        have f3 := cell_below b1 e3
        have f4 := cell_below b1 e4
        have f5 := cell_below b1 e5
        have f6 := cell_below b1 e6
        have bt := bl_alloc b1 (.cells #[.int .i64 x.kind, .int .i64 x.view, .int .i64 x.height, .string x.block, .int .i64 x.ticks, .int .i64 x.signer, .string x.sig] 29)
        have own4 := Kd.own_below own bt
        have bel4 := bl_trans bel bt
        have g4' := block_below bt g0
        clear own e0 e1 e2 e3 e4 e5 e6
        go_wp2_with (at_builtin; refine wpList_append_row _ rfl (.tmp 29) (.tmp 34) 22 rfl kVote w.heap.size w.heap.size 29 i0 _ 72 Tryz.underlying22 hi hz0 hz1 hz2 rfl (by decide) _ _ rfl own4 _ _ _ [x] rfl rfl (Kd.row_fresh1 (kVote_mk x g0' g1 g2 g3 g4 g5 g6)) (by simp only [List.length_singleton]; omega) (by decide) bel4.size (Nat.le_refl _) (by decide) ?_; intro v' w' own' grw at')
        have hgb : w'.heap[G]? = some (.cells #[.int .i64 m.view, .int .i64 m.height, .string m.block] 24 (0, 0)) := by
          have kp : Keeps 0 [24] _ w' := Keeps.grown grw fun g hgg => ⟨Nat.zero_le _, by
            obtain ⟨_, c', h'⟩ := Kd.own_block own4 g hgg
            exact ⟨c', 29, (0, 0), h', by decide⟩⟩
          exact (kp.2 G ⟨blk_lt g4', .inr ⟨_, _, _, g4', by simp⟩⟩).trans g4'
        go_roundw
        case rel => exact ⟨k + 1, by omega, by omega, by go_num, by rw [HS.out]; exact own', Kd.own_step bel4 own4 grw, hgb⟩
        case measure => simp [intOf]; omega
end Go.Proofs.YtglneailkgminaaGreat
