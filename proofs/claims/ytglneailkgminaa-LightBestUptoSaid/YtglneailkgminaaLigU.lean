/- Package light: (*taker).take. No claim of its own; no condition. -/
import Derived.Test.YtglneailkgminaaLigH
import Derived.Test.YtglneailkgminaaLigF
namespace Go.Proofs.Ytglneailkgminaa
open Go.ChangeShapes Go.WideShapes Go.ChangeAt Go.RowKit
set_option linter.unusedVariables false
set_option linter.unusedSimpArgs false
/-- All but one block lies as it lay. -/
def TkKeep (G : Nat) (w w' : World) : Prop := w.heap.size ≤ w'.heap.size ∧ ∀ b, b ≠ G → b < w.heap.size → w'.heap[b]? = w.heap[b]?
theorem TkKeep.of_below {G : Nat} {w w' : World} (h : Below w.heap.size w w') : TkKeep G w w' := ⟨h.size, fun b _ hb => h.block b hb⟩
theorem TkKeep.trans {G : Nat} {a b c : World} (h : TkKeep G a b) (k : TkKeep G b c) : TkKeep G a c := ⟨Nat.le_trans h.1 k.1, fun x hx hl => (k.2 x hx (Nat.lt_of_lt_of_le hl h.1)).trans (h.2 x hx hl)⟩
theorem TkKeep.set {G i : Nat} (w : World) (u : Value) : TkKeep G w (w.setCell ⟨G, i, none⟩ u) := ⟨by rw [World.size_setCell]; exact Nat.le_refl _, fun b hb _ => Below.heap_setCell w ⟨G, i, none⟩ u b hb⟩
theorem TkKeep.keeps {G B : Nat} {E : List TypeId} {w w' : World} {cs : Array Value} {t : TypeId} {f : Nat × Nat} (h : TkKeep G w w') (hG : w.heap[G]? = some (.cells cs t f)) (hB : B ≤ G) (ht : t ∉ E) : Keeps B E w w' := by
  refine ⟨h.1, fun b hb => ?_⟩
  by_cases e : b = G
  · subst e
    exfalso
    rcases hb.2 with k | ⟨c, t', f', k, k2⟩
    · omega
    · rw [hG] at k
      cases k
      exact ht k2
  · exact h.2 b e hb.1
theorem res5x {X : World} {g : Nat} {a b c d e a' b' c' d' e' p q r s u : Value} {t : TypeId} (h : X.heap[g]? = some (.cells #[a, b, c, d, e, a', b', c', d', e'] t (0, 0))) :
    (((((X.setCell ⟨g, 0, none⟩ p).setCell ⟨g, 1, none⟩ q).setCell ⟨g, 2, none⟩ r).setCell ⟨g, 3, none⟩ s).setCell ⟨g, 4, none⟩ u).heap[g]? = some (.cells #[p, q, r, s, u, a', b', c', d', e'] t (0, 0)) := by
  have h1 := block_set (i := 0) (u := p) h
  have h2 := block_set (i := 1) (u := q) h1
  have h3 := block_set (i := 2) (u := r) h2
  have h4 := block_set (i := 3) (u := s) h3
  have h5 := block_set (i := 4) (u := u) h4
  exact h5
theorem tk5 {X : World} {g : Nat} {p q r s u : Value} : TkKeep g X (((((X.setCell ⟨g, 0, none⟩ p).setCell ⟨g, 1, none⟩ q).setCell ⟨g, 2, none⟩ r).setCell ⟨g, 3, none⟩ s).setCell ⟨g, 4, none⟩ u) :=
  TkKeep.trans (TkKeep.trans (TkKeep.trans (TkKeep.trans (TkKeep.set _ _) (TkKeep.set _ _)) (TkKeep.set _ _)) (TkKeep.set _ _)) (TkKeep.set _ _)
theorem bn5 {N : Nat} {W X : World} {g : Nat} {p q r s u : Value} (h : Below N W X) (le : N ≤ g) : Below N W (((((X.setCell ⟨g, 0, none⟩ p).setCell ⟨g, 1, none⟩ q).setCell ⟨g, 2, none⟩ r).setCell ⟨g, 3, none⟩ s).setCell ⟨g, 4, none⟩ u) :=
  ((((h.setCell (p := ⟨g, 0, none⟩) le _).setCell (p := ⟨g, 1, none⟩) le _).setCell (p := ⟨g, 2, none⟩) le _).setCell (p := ⟨g, 3, none⟩) le _).setCell (p := ⟨g, 4, none⟩) le _
/-- What the method leaves. -/
def TkPost (Gt : Nat) (m h : Mark) (l lh : List Vote) (roots : List ByteArray) (t t1 q base cap : Int) (Ar Ac : Option Addr) (cr nC cc : Nat) (b : Bool) (w : World) (e : Ending) (w' : World) : Prop :=
  (∃ u, e = .returned u) ∧ (∃ A5 c5, w'.heap[Gt]? = some (.cells #[.int .i64 (if b then m else h).view, .int .i64 (if b then m else h).height, .string (if b then m else h).block, .slice A5 (if b then l else lh).length c5, .int .i64 (if b then t1 else t), .slice Ar roots.length cr, .slice Ac nC cc, .int .i64 q, .int .i64 base, .int .i64 cap] 103 (0, 0)) ∧ kVote.Row 28 0 w' A5 (if b then l else lh)) ∧ TkKeep Gt w w' ∧ ∀ N, N ≤ Gt → Below N w w'
def tr1 (Gt : Nat) (m h : Mark) (A A2 : Option Addr) (nL nH c c2 : Nat) (hi : Bool) : Nat → Value → World → Prop
  | 0, y, _ => y = .agg #[.int .i64 m.view, .int .i64 m.height, .string m.block, .slice A2 nL c2]
  | 1, y, _ => y = .agg #[.int .i64 m.view, .int .i64 m.height, .string m.block]
  | 2, y, _ => y = .pointer (some ⟨Gt, 0, none⟩)
  | 3, y, _ => y = .pointer (some ⟨Gt, 0, none⟩)
  | 4, y, _ => y = .pointer (some ⟨Gt, 0, none⟩)
  | 5, y, _ => y = .pointer (some ⟨Gt, 0, none⟩)
  | 6, y, _ => y = .agg #[.int .i64 h.view, .int .i64 h.height, .string h.block, .slice A nH c]
  | 7, y, _ => y = .agg #[.int .i64 h.view, .int .i64 h.height, .string h.block]
  | 8, y, _ => y = .bool hi
  | _, _, _ => True
def tr2t (Gt : Nat) (m h : Mark) (A A2 Ar Ac : Option Addr) (nL nH nR nC c c2 cr cc : Nat) (l lh : List Vote) (t t1 q base cap : Int) : Nat → Value → World → Prop
  | 0, y, _ => y = .pointer (some ⟨Gt, 0, none⟩)
  | 1, y, _ => y = .pointer (some ⟨Gt, 0, none⟩)
  | 2, y, _ => y = .pointer (some ⟨Gt, 0, none⟩)
  | 3, y, _ => y = .pointer (some ⟨Gt, 0, none⟩)
  | 4, y, _ => y = .agg #[.int .i64 h.view, .int .i64 h.height, .string h.block, .slice A nH c, .int .i64 t]
  | 5, y, _ => y = .pointer (some ⟨Gt, 0, none⟩)
  | 6, y, _ => y = .pointer (some ⟨Gt, 0, none⟩)
  | 7, y, _ => y = .pointer (some ⟨Gt, 5, none⟩)
  | 8, y, _ => y = .agg #[.slice Ar nR cr, .slice Ac nC cc, .int .i64 q, .int .i64 base, .int .i64 cap]
  | 9, y, _ => y = .agg #[.int .i64 m.view, .int .i64 m.height, .string m.block, .slice A2 nL c2]
  | 10, y, w => ∃ A5 c5, y = .tuple #[.agg #[.int .i64 m.view, .int .i64 m.height, .string m.block, .slice A5 l.length c5, .int .i64 t1], .bool true] ∧ kVote.Row 28 0 w A5 l
  | 11, y, w => ∃ A5 c5, y = .tuple #[.agg #[.int .i64 m.view, .int .i64 m.height, .string m.block, .slice A5 l.length c5, .int .i64 t1], .bool true] ∧ kVote.Row 28 0 w A5 l
  | 12, y, w => ∃ A5 c5, y = .agg #[.int .i64 m.view, .int .i64 m.height, .string m.block, .slice A5 l.length c5, .int .i64 t1] ∧ kVote.Row 28 0 w A5 l
  | 13, y, _ => y = .bool true
  | _, _, _ => True
def tr2f (Gt : Nat) (m h : Mark) (A A2 Ar Ac : Option Addr) (nL nH nR nC c c2 cr cc : Nat) (l lh : List Vote) (t t1 q base cap : Int) : Nat → Value → World → Prop
  | 0, y, _ => y = .pointer (some ⟨Gt, 0, none⟩)
  | 1, y, _ => y = .pointer (some ⟨Gt, 0, none⟩)
  | 2, y, _ => y = .pointer (some ⟨Gt, 0, none⟩)
  | 3, y, _ => y = .pointer (some ⟨Gt, 0, none⟩)
  | 4, y, _ => y = .agg #[.int .i64 h.view, .int .i64 h.height, .string h.block, .slice A nH c, .int .i64 t]
  | 5, y, _ => y = .pointer (some ⟨Gt, 0, none⟩)
  | 6, y, _ => y = .pointer (some ⟨Gt, 0, none⟩)
  | 7, y, _ => y = .pointer (some ⟨Gt, 5, none⟩)
  | 8, y, _ => y = .agg #[.slice Ar nR cr, .slice Ac nC cc, .int .i64 q, .int .i64 base, .int .i64 cap]
  | 9, y, _ => y = .agg #[.int .i64 m.view, .int .i64 m.height, .string m.block, .slice A2 nL c2]
  | 10, y, w => ∃ A5 c5, y = .tuple #[.agg #[.int .i64 h.view, .int .i64 h.height, .string h.block, .slice A5 lh.length c5, .int .i64 t], .bool false] ∧ kVote.Row 28 0 w A5 lh
  | 11, y, w => ∃ A5 c5, y = .tuple #[.agg #[.int .i64 h.view, .int .i64 h.height, .string h.block, .slice A5 lh.length c5, .int .i64 t], .bool false] ∧ kVote.Row 28 0 w A5 lh
  | 12, y, w => ∃ A5 c5, y = .agg #[.int .i64 h.view, .int .i64 h.height, .string h.block, .slice A5 lh.length c5, .int .i64 t] ∧ kVote.Row 28 0 w A5 lh
  | 13, y, _ => y = .bool false
  | _, _, _ => True
set_option maxHeartbeats 16000000 in
set_option maxRecDepth 100000 in
theorem taker_calls (m h : Mark) (l lh : List Vote) (roots : List ByteArray) (t t1 q base cap : Int) (ht1 : IntKind.i64.wrap (t + 1) = t1) (A A2 Ar Ac : Option Addr) (c c2 cr nC cc B0 Gt : Nat) (w : World) (hB0 : B0 ≤ Gt) (hl : l.length ≤ 1048576) (hlh : lh.length ≤ 1048576) (hlr : roots.length ≤ 1048576)
    (hG : w.heap[Gt]? = some (.cells #[.int .i64 h.view, .int .i64 h.height, .string h.block, .slice A lh.length c, .int .i64 t, .slice Ar roots.length cr, .slice Ac nC cc, .int .i64 q, .int .i64 base, .int .i64 cap] 103 (0, 0))) (hr : kVote.Row 28 B0 w A2 l) (hrh : kVote.Row 28 0 w A lh) (hrr : Kd.str.Row 9 B0 w Ar roots) :
    Calls Try.prog 60 #[.pointer (some ⟨Gt, 0, none⟩), .agg #[.int .i64 m.view, .int .i64 m.height, .string m.block, .slice A2 l.length c2]] w (TkPost Gt m h l lh roots t t1 q base cap Ar Ac cr nC cc (wantF m h l roots q) w) := by
  have lGt : Gt ≤ w.heap.size := Nat.le_of_lt (blk_lt hG)
  have q0 := bl_alloc (Below.refl w.heap.size w) (.cells #[.int .i64 m.view, .int .i64 m.height, .string m.block, .slice A2 l.length c2] 35)
  have a0 : (w.alloc (.cells #[.int .i64 m.view, .int .i64 m.height, .string m.block, .slice A2 l.length c2] 35)).heap[w.heap.size]? = some (.cells #[.int .i64 m.view, .int .i64 m.height, .string m.block, .slice A2 l.length c2] 35 (0, 0)) := alloc_new w _
  have g0 := block_below q0 hG
  have hrq := Kd.row_below q0 hr
  have hrhq := Kd.row_below q0 hrh
  have hrrq := Kd.row_below q0 hrr
  obtain ⟨res, hres⟩ : ∃ r, chkC m l roots q = r := ⟨_, rfl⟩
  obtain ⟨hi, hhi⟩ : ∃ r, higherF m h = r := ⟨_, rfl⟩
  obtain ⟨bb, hbb⟩ : ∃ bb, ((res == 0) && hi) = bb := ⟨_, rfl⟩
  have hw : wantF m h l roots q = bb := by unfold wantF; rw [hres, hhi, hbb]
  rw [hw]
  have htk := fun (W : World) (h1 : kVote.Row 28 B0 W A2 l) (h2 : kVote.Row 28 B0 W A lh) (h3 : Kd.str.Row 9 B0 W Ar roots) (hB : B0 ≤ W.heap.size) => take_calls m h l lh roots t t1 q base cap ht1 A A2 Ar Ac c c2 cr nC cc B0 W hB hl hlh hlr h1 h2 h3
  have hh := fun W => higher_calls m h W
  simp only [hhi] at hh
  simp only [hw] at htk
  have HTK0 := Lib.hid htk
  have HHI := Lib.hid hh
  have HBB := Lib.hid hbb
  clear htk hh hw hres hhi hbb ht1 hr hrh hrr hG
  obtain ⟨GX, hGX⟩ : ∃ GX, w.heap.size = GX := ⟨_, rfl⟩
  cases hi
  case false =>
    obtain rfl : bb = false := by rw [← HBB.out]; simp
    clear HTK0 HBB
    go_enter Try.func60, Try.ntmps60
    go_upto_region 1 with fail
    change Code.wp _ _ _ _ (w.alloc (.cells #[.int .i64 m.view, .int .i64 m.height, .string m.block, .slice A2 l.length c2] 35))
    generalize w.alloc (.cells #[.int .i64 m.view, .int .i64 m.height, .string m.block, .slice A2 l.length c2] 35) = V at *
    simp only [hGX] at a0 ⊢
    clear hGX
    have HBT := Lib.hid g0
    have HBX := Lib.hid a0
    have HX := Lib.hid hrq
    have HH0 := Lib.hid hrhq
    have HH := Lib.hid (row_up (Nat.zero_le B0) hrhq)
    have HRR := Lib.hid hrrq
    have HB0 := Lib.hid (Nat.le_trans hB0 (Nat.le_trans lGt q0.size))
    clear g0 a0 hrq hrhq hrrq
    refine wp_region_invA (by kernel_rfl) (by kernel_rfl) Rb (tr1 Gt m h A A2 l.length lh.length c c2 false) rb_refl rb_trans ⟨?_, ?_, ?_, ?_, ?_, ?_, ?_, ?_, ?_, trivial⟩ ?_
    · intro Fr u hN hO w1 hR hdep K hK
      rw [if_pos (by rfl)]
      have y3 : Fr.tmps[3]? = some (.pointer (some ⟨GX, 0, none⟩)) := hO 3 _ rfl rfl
      clear hN hO hdep
      have gg := block_below hR HBX.out
      have z0 := block_cell gg (i := 0) rfl
      have z1 := block_cell gg (i := 1) rfl
      have z2 := block_cell gg (i := 2) rfl
      have z3 := block_cell gg (i := 3) rfl
      go_simp
      refine hK _ _ (rb_refl _) fun w3 h3 => ?_
      exact rfl
    · intro Fr u hN hO w1 hR hdep K hK
      rw [if_pos (by rfl)]
      have x0 : Fr.tmps[4]? = some (u 0) := hN 0 _ 4 rfl rfl rfl
      rw [show u 0 = .agg #[.int .i64 m.view, .int .i64 m.height, .string m.block, .slice A2 l.length c2] from hdep 0 (by kernel_rfl) w1 (rb_refl _)] at x0
      clear hN hO hdep
      go_simp
      refine (cmark_calls m _ _ _ _).mono ?_
      rintro x w2 ⟨rfl, b2⟩
      refine hK _ _ b2 fun w3 h3 => ?_
      exact rfl
    · intro Fr u hN hO w1 hR hdep K hK
      rw [if_pos (by rfl)]
      have y0 : Fr.tmps[0]? = some (.pointer (some ⟨Gt, 0, none⟩)) := hO 0 _ rfl rfl
      clear hN hO hdep
      go_simp
      refine hK _ _ (rb_refl _) fun w3 h3 => ?_
      exact rfl
    · intro Fr u hN hO w1 hR hdep K hK
      rw [if_pos (by rfl)]
      have x2 : Fr.tmps[6]? = some (u 2) := hN 2 _ 6 rfl rfl rfl
      rw [show u 2 = .pointer (some ⟨Gt, 0, none⟩) from hdep 2 (by kernel_rfl) w1 (rb_refl _)] at x2
      clear hN hO hdep
      go_simp
      refine hK _ _ (rb_refl _) fun w3 h3 => ?_
      exact rfl
    · intro Fr u hN hO w1 hR hdep K hK
      rw [if_pos (by rfl)]
      have x3 : Fr.tmps[7]? = some (u 3) := hN 3 _ 7 rfl rfl rfl
      rw [show u 3 = .pointer (some ⟨Gt, 0, none⟩) from hdep 3 (by kernel_rfl) w1 (rb_refl _)] at x3
      clear hN hO hdep
      go_simp
      refine hK _ _ (rb_refl _) fun w3 h3 => ?_
      exact rfl
    · intro Fr u hN hO w1 hR hdep K hK
      rw [if_pos (by rfl)]
      have x4 : Fr.tmps[8]? = some (u 4) := hN 4 _ 8 rfl rfl rfl
      rw [show u 4 = .pointer (some ⟨Gt, 0, none⟩) from hdep 4 (by kernel_rfl) w1 (rb_refl _)] at x4
      clear hN hO hdep
      go_simp
      refine hK _ _ (rb_refl _) fun w3 h3 => ?_
      exact rfl
    · intro Fr u hN hO w1 hR hdep K hK
      rw [if_pos (by rfl)]
      have x5 : Fr.tmps[9]? = some (u 5) := hN 5 _ 9 rfl rfl rfl
      rw [show u 5 = .pointer (some ⟨Gt, 0, none⟩) from hdep 5 (by kernel_rfl) w1 (rb_refl _)] at x5
      clear hN hO hdep
      have gg := block_below hR HBT.out
      have z0 := block_cell gg (i := 0) rfl
      have z1 := block_cell gg (i := 1) rfl
      have z2 := block_cell gg (i := 2) rfl
      have z3 := block_cell gg (i := 3) rfl
      have z4 := block_cell gg (i := 4) rfl
      have z5 := block_cell gg (i := 5) rfl
      have z6 := block_cell gg (i := 6) rfl
      have z7 := block_cell gg (i := 7) rfl
      have z8 := block_cell gg (i := 8) rfl
      have z9 := block_cell gg (i := 9) rfl
      go_simp
      refine hK _ _ (rb_refl _) fun w3 h3 => ?_
      exact rfl
    · intro Fr u hN hO w1 hR hdep K hK
      rw [if_pos (by rfl)]
      have x6 : Fr.tmps[10]? = some (u 6) := hN 6 _ 10 rfl rfl rfl
      rw [show u 6 = .agg #[.int .i64 h.view, .int .i64 h.height, .string h.block, .slice A lh.length c] from hdep 6 (by kernel_rfl) w1 (rb_refl _)] at x6
      clear hN hO hdep
      go_simp
      refine (cmark_calls h _ _ _ _).mono ?_
      rintro x w2 ⟨rfl, b2⟩
      refine hK _ _ b2 fun w3 h3 => ?_
      exact rfl
    · intro Fr u hN hO w1 hR hdep K hK
      rw [if_pos (by rfl)]
      have x1 : Fr.tmps[5]? = some (u 1) := hN 1 _ 5 rfl rfl rfl
      rw [show u 1 = .agg #[.int .i64 m.view, .int .i64 m.height, .string m.block] from hdep 1 (by kernel_rfl) w1 (rb_refl _)] at x1
      have x7 : Fr.tmps[11]? = some (u 7) := hN 7 _ 11 rfl rfl rfl
      rw [show u 7 = .agg #[.int .i64 h.view, .int .i64 h.height, .string h.block] from hdep 7 (by kernel_rfl) w1 (rb_refl _)] at x7
      clear hN hO hdep
      go_simp
      refine (HHI.out w1).mono ?_
      rintro x w2 ⟨rfl, g2⟩; have b2 := gd_below g2
      refine hK _ _ b2 fun w3 h3 => ?_
      exact rfl
    · intro u w' hR hall
      have h8 : u 8 = .bool false := hall 8 (by decide)
      have bw : Below V.heap.size V w' := bl_trans (bl_drew (Below.refl _ _)) hR
      clear hall
      simp only [frameF, Act.put, List.setIfInBounds_toArray, List.set_cons_zero, List.set_cons_succ, Nat.reduceAdd, h8]
      clear h8
      have gt := block_below bw HBT.out
      have q2 := bl_trans q0 bw
      have k2 := Kd.row_below bw HH0.out
      go_wp2_with fail
      go_end0
      exact ⟨⟨_, rfl⟩, ⟨A, c, gt, k2⟩, TkKeep.of_below q2, fun N hN => q2.mono (Nat.le_trans hN lGt)⟩
  case true =>
    cases bb
    case false =>
      have HTK := Lib.hid fun W h1 h2 h3 hB => (HTK0.out W h1 h2 h3 hB).mono fun _ _ k => take_no k
      clear HTK0 HBB
      go_enter Try.func60, Try.ntmps60
      go_upto_region 1 with fail
      change Code.wp _ _ _ _ (w.alloc (.cells #[.int .i64 m.view, .int .i64 m.height, .string m.block, .slice A2 l.length c2] 35))
      generalize w.alloc (.cells #[.int .i64 m.view, .int .i64 m.height, .string m.block, .slice A2 l.length c2] 35) = V at *
      simp only [hGX] at a0 ⊢
      clear hGX
      have HBT := Lib.hid g0
      have HBX := Lib.hid a0
      have HX := Lib.hid hrq
      have HH0 := Lib.hid hrhq
      have HH := Lib.hid (row_up (Nat.zero_le B0) hrhq)
      have HRR := Lib.hid hrrq
      have HB0 := Lib.hid (Nat.le_trans hB0 (Nat.le_trans lGt q0.size))
      clear g0 a0 hrq hrhq hrrq
      refine wp_region_invA (by kernel_rfl) (by kernel_rfl) Rb (tr1 Gt m h A A2 l.length lh.length c c2 true) rb_refl rb_trans ⟨?_, ?_, ?_, ?_, ?_, ?_, ?_, ?_, ?_, trivial⟩ ?_
      · intro Fr u hN hO w1 hR hdep K hK
        rw [if_pos (by rfl)]
        have y3 : Fr.tmps[3]? = some (.pointer (some ⟨GX, 0, none⟩)) := hO 3 _ rfl rfl
        clear hN hO hdep
        have gg := block_below hR HBX.out
        have z0 := block_cell gg (i := 0) rfl
        have z1 := block_cell gg (i := 1) rfl
        have z2 := block_cell gg (i := 2) rfl
        have z3 := block_cell gg (i := 3) rfl
        go_simp
        refine hK _ _ (rb_refl _) fun w3 h3 => ?_
        exact rfl
      · intro Fr u hN hO w1 hR hdep K hK
        rw [if_pos (by rfl)]
        have x0 : Fr.tmps[4]? = some (u 0) := hN 0 _ 4 rfl rfl rfl
        rw [show u 0 = .agg #[.int .i64 m.view, .int .i64 m.height, .string m.block, .slice A2 l.length c2] from hdep 0 (by kernel_rfl) w1 (rb_refl _)] at x0
        clear hN hO hdep
        go_simp
        refine (cmark_calls m _ _ _ _).mono ?_
        rintro x w2 ⟨rfl, b2⟩
        refine hK _ _ b2 fun w3 h3 => ?_
        exact rfl
      · intro Fr u hN hO w1 hR hdep K hK
        rw [if_pos (by rfl)]
        have y0 : Fr.tmps[0]? = some (.pointer (some ⟨Gt, 0, none⟩)) := hO 0 _ rfl rfl
        clear hN hO hdep
        go_simp
        refine hK _ _ (rb_refl _) fun w3 h3 => ?_
        exact rfl
      · intro Fr u hN hO w1 hR hdep K hK
        rw [if_pos (by rfl)]
        have x2 : Fr.tmps[6]? = some (u 2) := hN 2 _ 6 rfl rfl rfl
        rw [show u 2 = .pointer (some ⟨Gt, 0, none⟩) from hdep 2 (by kernel_rfl) w1 (rb_refl _)] at x2
        clear hN hO hdep
        go_simp
        refine hK _ _ (rb_refl _) fun w3 h3 => ?_
        exact rfl
      · intro Fr u hN hO w1 hR hdep K hK
        rw [if_pos (by rfl)]
        have x3 : Fr.tmps[7]? = some (u 3) := hN 3 _ 7 rfl rfl rfl
        rw [show u 3 = .pointer (some ⟨Gt, 0, none⟩) from hdep 3 (by kernel_rfl) w1 (rb_refl _)] at x3
        clear hN hO hdep
        go_simp
        refine hK _ _ (rb_refl _) fun w3 h3 => ?_
        exact rfl
      · intro Fr u hN hO w1 hR hdep K hK
        rw [if_pos (by rfl)]
        have x4 : Fr.tmps[8]? = some (u 4) := hN 4 _ 8 rfl rfl rfl
        rw [show u 4 = .pointer (some ⟨Gt, 0, none⟩) from hdep 4 (by kernel_rfl) w1 (rb_refl _)] at x4
        clear hN hO hdep
        go_simp
        refine hK _ _ (rb_refl _) fun w3 h3 => ?_
        exact rfl
      · intro Fr u hN hO w1 hR hdep K hK
        rw [if_pos (by rfl)]
        have x5 : Fr.tmps[9]? = some (u 5) := hN 5 _ 9 rfl rfl rfl
        rw [show u 5 = .pointer (some ⟨Gt, 0, none⟩) from hdep 5 (by kernel_rfl) w1 (rb_refl _)] at x5
        clear hN hO hdep
        have gg := block_below hR HBT.out
        have z0 := block_cell gg (i := 0) rfl
        have z1 := block_cell gg (i := 1) rfl
        have z2 := block_cell gg (i := 2) rfl
        have z3 := block_cell gg (i := 3) rfl
        have z4 := block_cell gg (i := 4) rfl
        have z5 := block_cell gg (i := 5) rfl
        have z6 := block_cell gg (i := 6) rfl
        have z7 := block_cell gg (i := 7) rfl
        have z8 := block_cell gg (i := 8) rfl
        have z9 := block_cell gg (i := 9) rfl
        go_simp
        refine hK _ _ (rb_refl _) fun w3 h3 => ?_
        exact rfl
      · intro Fr u hN hO w1 hR hdep K hK
        rw [if_pos (by rfl)]
        have x6 : Fr.tmps[10]? = some (u 6) := hN 6 _ 10 rfl rfl rfl
        rw [show u 6 = .agg #[.int .i64 h.view, .int .i64 h.height, .string h.block, .slice A lh.length c] from hdep 6 (by kernel_rfl) w1 (rb_refl _)] at x6
        clear hN hO hdep
        go_simp
        refine (cmark_calls h _ _ _ _).mono ?_
        rintro x w2 ⟨rfl, b2⟩
        refine hK _ _ b2 fun w3 h3 => ?_
        exact rfl
      · intro Fr u hN hO w1 hR hdep K hK
        rw [if_pos (by rfl)]
        have x1 : Fr.tmps[5]? = some (u 1) := hN 1 _ 5 rfl rfl rfl
        rw [show u 1 = .agg #[.int .i64 m.view, .int .i64 m.height, .string m.block] from hdep 1 (by kernel_rfl) w1 (rb_refl _)] at x1
        have x7 : Fr.tmps[11]? = some (u 7) := hN 7 _ 11 rfl rfl rfl
        rw [show u 7 = .agg #[.int .i64 h.view, .int .i64 h.height, .string h.block] from hdep 7 (by kernel_rfl) w1 (rb_refl _)] at x7
        clear hN hO hdep
        go_simp
        refine (HHI.out w1).mono ?_
        rintro x w2 ⟨rfl, g2⟩; have b2 := gd_below g2
        refine hK _ _ b2 fun w3 h3 => ?_
        exact rfl
      · intro u w' hR hall
        have h8 : u 8 = .bool true := hall 8 (by decide)
        have bw : Below V.heap.size V w' := bl_trans (bl_drew (Below.refl _ _)) hR
        clear hall
        simp only [frameF, Act.put, List.setIfInBounds_toArray, List.set_cons_zero, List.set_cons_succ, Nat.reduceAdd, h8]
        clear h8
        have HBT2 := Lib.hid (block_below bw HBT.out)
        have HBX2 := Lib.hid (block_below bw HBX.out)
        have HX2 := Lib.hid (Kd.row_below bw HX.out)
        have HH2 := Lib.hid (Kd.row_below bw HH.out)
        have HRR2 := Lib.hid (Kd.row_below bw HRR.out)
        have q2 := bl_trans q0 bw
        have HB02 := Lib.hid (Nat.le_trans HB0.out bw.size)
        clear HBT HBX HX HH HRR HB0 hR bw HH0
        rename World => V2
        have HBT := HBT2
        have HBX := HBX2
        have HX := HX2
        have HH := HH2
        have HRR := HRR2
        have HB0 := HB02
        clear HBT2 HBX2 HX2 HH2 HRR2 HB02
        go_upto_region 2 with fail
        refine wp_region_any (by kernel_rfl) ?_
        refine wpAny_invlA [true, true, true, true, true, true, true, true, true, true, true, true, true, true, false, false, false] [false, false, false, false, false, false, false, false, false, false, false, false, false, true, false, false, false] [14, 15, 16] (by kernel_rfl) (by kernel_rfl) Rb (tr2f Gt m h A A2 Ar Ac l.length lh.length roots.length nC c c2 cr cc l lh t t1 q base cap) rb_refl rb_trans (fun c a d v w h => by cases d <;> exact h) ⟨?_, ?_, ?_, ?_, ?_, ?_, ?_, ?_, ?_, ?_, ?_, ?_, ?_, ?_, trivial⟩ ?_
        · intro Fr u w1 hTold K hK
          obtain ⟨hN, hO, hR, hdep⟩ := hTold
          rw [if_pos (by rfl)]
          have y0 : Fr.tmps[0]? = some (.pointer (some ⟨Gt, 0, none⟩)) := hO 0 _ rfl rfl
          clear hN hO hdep
          go_simp
          refine hK _ _ (rb_refl _) fun w3 h3 => ?_
          exact rfl
        · intro Fr u w1 hTold K hK
          obtain ⟨hN, hO, hR, hdep⟩ := hTold
          rw [if_pos (by rfl)]
          have y0 : Fr.tmps[0]? = some (.pointer (some ⟨Gt, 0, none⟩)) := hO 0 _ rfl rfl
          clear hN hO hdep
          go_simp
          refine hK _ _ (rb_refl _) fun w3 h3 => ?_
          exact rfl
        · intro Fr u w1 hTold K hK
          obtain ⟨hN, hO, hR, hdep⟩ := hTold
          rw [if_pos (by rfl)]
          have x1 : Fr.tmps[15]? = some (u 1) := hN 1 _ 15 rfl rfl rfl
          rw [show u 1 = .pointer (some ⟨Gt, 0, none⟩) from hdep 1 (by kernel_rfl) w1 (rb_refl _)] at x1
          clear hN hO hdep
          go_simp
          refine hK _ _ (rb_refl _) fun w3 h3 => ?_
          exact rfl
        · intro Fr u w1 hTold K hK
          obtain ⟨hN, hO, hR, hdep⟩ := hTold
          rw [if_pos (by rfl)]
          have x2 : Fr.tmps[16]? = some (u 2) := hN 2 _ 16 rfl rfl rfl
          rw [show u 2 = .pointer (some ⟨Gt, 0, none⟩) from hdep 2 (by kernel_rfl) w1 (rb_refl _)] at x2
          clear hN hO hdep
          go_simp
          refine hK _ _ (rb_refl _) fun w3 h3 => ?_
          exact rfl
        · intro Fr u w1 hTold K hK
          obtain ⟨hN, hO, hR, hdep⟩ := hTold
          rw [if_pos (by rfl)]
          have x3 : Fr.tmps[17]? = some (u 3) := hN 3 _ 17 rfl rfl rfl
          rw [show u 3 = .pointer (some ⟨Gt, 0, none⟩) from hdep 3 (by kernel_rfl) w1 (rb_refl _)] at x3
          clear hN hO hdep
          have gg := block_below hR HBT.out
          have z0 := block_cell gg (i := 0) rfl
          have z1 := block_cell gg (i := 1) rfl
          have z2 := block_cell gg (i := 2) rfl
          have z3 := block_cell gg (i := 3) rfl
          have z4 := block_cell gg (i := 4) rfl
          have z5 := block_cell gg (i := 5) rfl
          have z6 := block_cell gg (i := 6) rfl
          have z7 := block_cell gg (i := 7) rfl
          have z8 := block_cell gg (i := 8) rfl
          have z9 := block_cell gg (i := 9) rfl
          go_simp
          refine hK _ _ (rb_refl _) fun w3 h3 => ?_
          exact rfl
        · intro Fr u w1 hTold K hK
          obtain ⟨hN, hO, hR, hdep⟩ := hTold
          rw [if_pos (by rfl)]
          have y0 : Fr.tmps[0]? = some (.pointer (some ⟨Gt, 0, none⟩)) := hO 0 _ rfl rfl
          clear hN hO hdep
          go_simp
          refine hK _ _ (rb_refl _) fun w3 h3 => ?_
          exact rfl
        · intro Fr u w1 hTold K hK
          obtain ⟨hN, hO, hR, hdep⟩ := hTold
          rw [if_pos (by rfl)]
          have x5 : Fr.tmps[19]? = some (u 5) := hN 5 _ 19 rfl rfl rfl
          rw [show u 5 = .pointer (some ⟨Gt, 0, none⟩) from hdep 5 (by kernel_rfl) w1 (rb_refl _)] at x5
          clear hN hO hdep
          go_simp
          refine hK _ _ (rb_refl _) fun w3 h3 => ?_
          exact rfl
        · intro Fr u w1 hTold K hK
          obtain ⟨hN, hO, hR, hdep⟩ := hTold
          rw [if_pos (by rfl)]
          have x6 : Fr.tmps[20]? = some (u 6) := hN 6 _ 20 rfl rfl rfl
          rw [show u 6 = .pointer (some ⟨Gt, 0, none⟩) from hdep 6 (by kernel_rfl) w1 (rb_refl _)] at x6
          clear hN hO hdep
          go_simp
          refine hK _ _ (rb_refl _) fun w3 h3 => ?_
          exact rfl
        · intro Fr u w1 hTold K hK
          obtain ⟨hN, hO, hR, hdep⟩ := hTold
          rw [if_pos (by rfl)]
          have x7 : Fr.tmps[21]? = some (u 7) := hN 7 _ 21 rfl rfl rfl
          rw [show u 7 = .pointer (some ⟨Gt, 5, none⟩) from hdep 7 (by kernel_rfl) w1 (rb_refl _)] at x7
          clear hN hO hdep
          have gg := block_below hR HBT.out
          have z0 := block_cell gg (i := 0) rfl
          have z1 := block_cell gg (i := 1) rfl
          have z2 := block_cell gg (i := 2) rfl
          have z3 := block_cell gg (i := 3) rfl
          have z4 := block_cell gg (i := 4) rfl
          have z5 := block_cell gg (i := 5) rfl
          have z6 := block_cell gg (i := 6) rfl
          have z7 := block_cell gg (i := 7) rfl
          have z8 := block_cell gg (i := 8) rfl
          have z9 := block_cell gg (i := 9) rfl
          go_simp
          refine hK _ _ (rb_refl _) fun w3 h3 => ?_
          exact rfl
        · intro Fr u w1 hTold K hK
          obtain ⟨hN, hO, hR, hdep⟩ := hTold
          rw [if_pos (by rfl)]
          have y3 : Fr.tmps[3]? = some (.pointer (some ⟨GX, 0, none⟩)) := hO 3 _ rfl rfl
          clear hN hO hdep
          have gg := block_below hR HBX.out
          have z0 := block_cell gg (i := 0) rfl
          have z1 := block_cell gg (i := 1) rfl
          have z2 := block_cell gg (i := 2) rfl
          have z3 := block_cell gg (i := 3) rfl
          go_simp
          refine hK _ _ (rb_refl _) fun w3 h3 => ?_
          exact rfl
        · intro Fr u w1 hTold K hK
          obtain ⟨hN, hO, hR, hdep⟩ := hTold
          rw [if_pos (by rfl)]
          have x4 : Fr.tmps[18]? = some (u 4) := hN 4 _ 18 rfl rfl rfl
          rw [show u 4 = .agg #[.int .i64 h.view, .int .i64 h.height, .string h.block, .slice A lh.length c, .int .i64 t] from hdep 4 (by kernel_rfl) w1 (rb_refl _)] at x4
          have x8 : Fr.tmps[22]? = some (u 8) := hN 8 _ 22 rfl rfl rfl
          rw [show u 8 = .agg #[.slice Ar roots.length cr, .slice Ac nC cc, .int .i64 q, .int .i64 base, .int .i64 cap] from hdep 8 (by kernel_rfl) w1 (rb_refl _)] at x8
          have x9 : Fr.tmps[23]? = some (u 9) := hN 9 _ 23 rfl rfl rfl
          rw [show u 9 = .agg #[.int .i64 m.view, .int .i64 m.height, .string m.block, .slice A2 l.length c2] from hdep 9 (by kernel_rfl) w1 (rb_refl _)] at x9
          clear hN hO hdep
          go_simp
          refine (HTK.out w1 (Kd.row_below hR HX.out) (Kd.row_below hR HH.out) (Kd.row_below hR HRR.out) (Nat.le_trans HB0.out hR.size)).mono ?_
          rintro x w2 ⟨⟨A5, c5, rfl, k3⟩, b2⟩
          refine hK _ _ b2 fun w3 h3 => ?_
          exact ⟨A5, c5, rfl, Kd.row_below h3 k3⟩
        · intro Fr u w1 hTold K hK
          obtain ⟨hN, hO, hR, hdep⟩ := hTold
          rw [if_pos (by rfl)]
          have x10 : Fr.tmps[24]? = some (u 10) := hN 10 _ 24 rfl rfl rfl
          obtain ⟨A5, c5, hu10, k10⟩ := hdep 10 (by kernel_rfl) w1 (rb_refl _)
          rw [hu10] at x10
          clear hN hO hdep
          go_simp
          refine hK _ _ (rb_refl _) fun w3 h3 => ?_
          exact ⟨A5, c5, rfl, Kd.row_below h3 k10⟩
        · intro Fr u w1 hTold K hK
          obtain ⟨hN, hO, hR, hdep⟩ := hTold
          rw [if_pos (by rfl)]
          have x11 : Fr.tmps[13]? = some (u 11) := hN 11 _ 13 rfl rfl rfl
          obtain ⟨A5, c5, hu11, k11⟩ := hdep 11 (by kernel_rfl) w1 (rb_refl _)
          rw [hu11] at x11
          clear hN hO hdep
          go_simp
          refine hK _ _ (rb_refl _) fun w3 h3 => ?_
          exact ⟨A5, c5, rfl, Kd.row_below h3 k11⟩
        · intro Fr u w1 hTold
          obtain ⟨hN, hO, hR, hdep⟩ := hTold
          have x11 : Fr.tmps[13]? = some (u 11) := hN 11 _ 13 rfl rfl rfl
          obtain ⟨A5, c5, hu11, k11⟩ := hdep 11 (by kernel_rfl) w1 (rb_refl _)
          rw [hu11] at x11
          clear hN hO hdep
          refine ⟨.bool false, fun w2 h2 => ?_, Or.inl ⟨by rfl, fun w => by go_simp⟩⟩
          exact rfl
        · intro u w1 hR hall
          obtain ⟨A5, c5, e12, k12⟩ := hall 12 rfl
          have e0 : u 0 = .pointer (some ⟨Gt, 0, none⟩) := hall 0 rfl
          have bw : Below V2.heap.size V2 w1 := bl_trans (bl_drew (Below.refl _ _)) hR
          have gt := block_below bw HBT.out
          have Y0 := block_cell gt (i := 0) rfl
          have Y1 := block_cell gt (i := 1) rfl
          have Y2 := block_cell gt (i := 2) rfl
          have Y3 := block_cell gt (i := 3) rfl
          have Y4 := block_cell gt (i := 4) rfl
          have Z0 : w1.frozen? ⟨Gt, 0, none⟩ = false := block_free gt
          have Z1 : w1.frozen? ⟨Gt, 1, none⟩ = false := block_free gt
          have Z2 : w1.frozen? ⟨Gt, 2, none⟩ = false := block_free gt
          have Z3 : w1.frozen? ⟨Gt, 3, none⟩ = false := block_free gt
          have Z4 : w1.frozen? ⟨Gt, 4, none⟩ = false := block_free gt
          change wpList _ _ _ ([_, _, _]) _ _
          simp only [frameM, frameM_nil, Act.put, List.setIfInBounds_toArray, List.set_cons_zero, List.set_cons_succ, Nat.reduceAdd, e12, e0]
          clear hall e12 e0
          have r5 : (((((w1.setCell ⟨Gt, 0, none⟩ (.int .i64 h.view)).setCell ⟨Gt, 1, none⟩ (.int .i64 h.height)).setCell ⟨Gt, 2, none⟩ (.string h.block)).setCell ⟨Gt, 3, none⟩ (.slice A5 lh.length c5)).setCell ⟨Gt, 4, none⟩ (.int .i64 t)).heap[Gt]? = some (.cells #[.int .i64 h.view, .int .i64 h.height, .string h.block, .slice A5 lh.length c5, .int .i64 t, .slice Ar roots.length cr, .slice Ac nC cc, .int .i64 q, .int .i64 base, .int .i64 cap] 103 (0, 0)) := res5x (p := .int .i64 h.view) (q := .int .i64 h.height) (r := .string h.block) (s := .slice A5 lh.length c5) (u := .int .i64 t) gt
          have q5 : Below w.heap.size w w1 := bl_trans q2 bw
          have tk : TkKeep Gt w (((((w1.setCell ⟨Gt, 0, none⟩ (.int .i64 h.view)).setCell ⟨Gt, 1, none⟩ (.int .i64 h.height)).setCell ⟨Gt, 2, none⟩ (.string h.block)).setCell ⟨Gt, 3, none⟩ (.slice A5 lh.length c5)).setCell ⟨Gt, 4, none⟩ (.int .i64 t)) := TkKeep.trans (TkKeep.of_below q5) (tk5 (p := .int .i64 h.view) (q := .int .i64 h.height) (r := .string h.block) (s := .slice A5 lh.length c5) (u := .int .i64 t))
          have bn : ∀ N, N ≤ Gt → Below N w (((((w1.setCell ⟨Gt, 0, none⟩ (.int .i64 h.view)).setCell ⟨Gt, 1, none⟩ (.int .i64 h.height)).setCell ⟨Gt, 2, none⟩ (.string h.block)).setCell ⟨Gt, 3, none⟩ (.slice A5 lh.length c5)).setCell ⟨Gt, 4, none⟩ (.int .i64 t)) := fun N hN => bn5 (p := .int .i64 h.view) (q := .int .i64 h.height) (r := .string h.block) (s := .slice A5 lh.length c5) (u := .int .i64 t) (q5.mono (Nat.le_trans hN lGt)) hN
          have k13 : kVote.Row 28 0 (((((w1.setCell ⟨Gt, 0, none⟩ (.int .i64 h.view)).setCell ⟨Gt, 1, none⟩ (.int .i64 h.height)).setCell ⟨Gt, 2, none⟩ (.string h.block)).setCell ⟨Gt, 3, none⟩ (.slice A5 lh.length c5)).setCell ⟨Gt, 4, none⟩ (.int .i64 t)) A5 lh := Kd.row_keep ((tk5 (p := .int .i64 h.view) (q := .int .i64 h.height) (r := .string h.block) (s := .slice A5 lh.length c5) (u := .int .i64 t)).keeps gt (Nat.zero_le _) (by decide)) k12
          go_wp2_with fail
          go_end0
          exact ⟨⟨_, rfl⟩, ⟨A5, c5, r5, k13⟩, tk, bn⟩
    case true =>
      have HTK := Lib.hid fun W h1 h2 h3 hB => (HTK0.out W h1 h2 h3 hB).mono fun _ _ k => take_yes k
      clear HTK0 HBB
      go_enter Try.func60, Try.ntmps60
      go_upto_region 1 with fail
      change Code.wp _ _ _ _ (w.alloc (.cells #[.int .i64 m.view, .int .i64 m.height, .string m.block, .slice A2 l.length c2] 35))
      generalize w.alloc (.cells #[.int .i64 m.view, .int .i64 m.height, .string m.block, .slice A2 l.length c2] 35) = V at *
      simp only [hGX] at a0 ⊢
      clear hGX
      have HBT := Lib.hid g0
      have HBX := Lib.hid a0
      have HX := Lib.hid hrq
      have HH0 := Lib.hid hrhq
      have HH := Lib.hid (row_up (Nat.zero_le B0) hrhq)
      have HRR := Lib.hid hrrq
      have HB0 := Lib.hid (Nat.le_trans hB0 (Nat.le_trans lGt q0.size))
      clear g0 a0 hrq hrhq hrrq
      refine wp_region_invA (by kernel_rfl) (by kernel_rfl) Rb (tr1 Gt m h A A2 l.length lh.length c c2 true) rb_refl rb_trans ⟨?_, ?_, ?_, ?_, ?_, ?_, ?_, ?_, ?_, trivial⟩ ?_
      · intro Fr u hN hO w1 hR hdep K hK
        rw [if_pos (by rfl)]
        have y3 : Fr.tmps[3]? = some (.pointer (some ⟨GX, 0, none⟩)) := hO 3 _ rfl rfl
        clear hN hO hdep
        have gg := block_below hR HBX.out
        have z0 := block_cell gg (i := 0) rfl
        have z1 := block_cell gg (i := 1) rfl
        have z2 := block_cell gg (i := 2) rfl
        have z3 := block_cell gg (i := 3) rfl
        go_simp
        refine hK _ _ (rb_refl _) fun w3 h3 => ?_
        exact rfl
      · intro Fr u hN hO w1 hR hdep K hK
        rw [if_pos (by rfl)]
        have x0 : Fr.tmps[4]? = some (u 0) := hN 0 _ 4 rfl rfl rfl
        rw [show u 0 = .agg #[.int .i64 m.view, .int .i64 m.height, .string m.block, .slice A2 l.length c2] from hdep 0 (by kernel_rfl) w1 (rb_refl _)] at x0
        clear hN hO hdep
        go_simp
        refine (cmark_calls m _ _ _ _).mono ?_
        rintro x w2 ⟨rfl, b2⟩
        refine hK _ _ b2 fun w3 h3 => ?_
        exact rfl
      · intro Fr u hN hO w1 hR hdep K hK
        rw [if_pos (by rfl)]
        have y0 : Fr.tmps[0]? = some (.pointer (some ⟨Gt, 0, none⟩)) := hO 0 _ rfl rfl
        clear hN hO hdep
        go_simp
        refine hK _ _ (rb_refl _) fun w3 h3 => ?_
        exact rfl
      · intro Fr u hN hO w1 hR hdep K hK
        rw [if_pos (by rfl)]
        have x2 : Fr.tmps[6]? = some (u 2) := hN 2 _ 6 rfl rfl rfl
        rw [show u 2 = .pointer (some ⟨Gt, 0, none⟩) from hdep 2 (by kernel_rfl) w1 (rb_refl _)] at x2
        clear hN hO hdep
        go_simp
        refine hK _ _ (rb_refl _) fun w3 h3 => ?_
        exact rfl
      · intro Fr u hN hO w1 hR hdep K hK
        rw [if_pos (by rfl)]
        have x3 : Fr.tmps[7]? = some (u 3) := hN 3 _ 7 rfl rfl rfl
        rw [show u 3 = .pointer (some ⟨Gt, 0, none⟩) from hdep 3 (by kernel_rfl) w1 (rb_refl _)] at x3
        clear hN hO hdep
        go_simp
        refine hK _ _ (rb_refl _) fun w3 h3 => ?_
        exact rfl
      · intro Fr u hN hO w1 hR hdep K hK
        rw [if_pos (by rfl)]
        have x4 : Fr.tmps[8]? = some (u 4) := hN 4 _ 8 rfl rfl rfl
        rw [show u 4 = .pointer (some ⟨Gt, 0, none⟩) from hdep 4 (by kernel_rfl) w1 (rb_refl _)] at x4
        clear hN hO hdep
        go_simp
        refine hK _ _ (rb_refl _) fun w3 h3 => ?_
        exact rfl
      · intro Fr u hN hO w1 hR hdep K hK
        rw [if_pos (by rfl)]
        have x5 : Fr.tmps[9]? = some (u 5) := hN 5 _ 9 rfl rfl rfl
        rw [show u 5 = .pointer (some ⟨Gt, 0, none⟩) from hdep 5 (by kernel_rfl) w1 (rb_refl _)] at x5
        clear hN hO hdep
        have gg := block_below hR HBT.out
        have z0 := block_cell gg (i := 0) rfl
        have z1 := block_cell gg (i := 1) rfl
        have z2 := block_cell gg (i := 2) rfl
        have z3 := block_cell gg (i := 3) rfl
        have z4 := block_cell gg (i := 4) rfl
        have z5 := block_cell gg (i := 5) rfl
        have z6 := block_cell gg (i := 6) rfl
        have z7 := block_cell gg (i := 7) rfl
        have z8 := block_cell gg (i := 8) rfl
        have z9 := block_cell gg (i := 9) rfl
        go_simp
        refine hK _ _ (rb_refl _) fun w3 h3 => ?_
        exact rfl
      · intro Fr u hN hO w1 hR hdep K hK
        rw [if_pos (by rfl)]
        have x6 : Fr.tmps[10]? = some (u 6) := hN 6 _ 10 rfl rfl rfl
        rw [show u 6 = .agg #[.int .i64 h.view, .int .i64 h.height, .string h.block, .slice A lh.length c] from hdep 6 (by kernel_rfl) w1 (rb_refl _)] at x6
        clear hN hO hdep
        go_simp
        refine (cmark_calls h _ _ _ _).mono ?_
        rintro x w2 ⟨rfl, b2⟩
        refine hK _ _ b2 fun w3 h3 => ?_
        exact rfl
      · intro Fr u hN hO w1 hR hdep K hK
        rw [if_pos (by rfl)]
        have x1 : Fr.tmps[5]? = some (u 1) := hN 1 _ 5 rfl rfl rfl
        rw [show u 1 = .agg #[.int .i64 m.view, .int .i64 m.height, .string m.block] from hdep 1 (by kernel_rfl) w1 (rb_refl _)] at x1
        have x7 : Fr.tmps[11]? = some (u 7) := hN 7 _ 11 rfl rfl rfl
        rw [show u 7 = .agg #[.int .i64 h.view, .int .i64 h.height, .string h.block] from hdep 7 (by kernel_rfl) w1 (rb_refl _)] at x7
        clear hN hO hdep
        go_simp
        refine (HHI.out w1).mono ?_
        rintro x w2 ⟨rfl, g2⟩; have b2 := gd_below g2
        refine hK _ _ b2 fun w3 h3 => ?_
        exact rfl
      · intro u w' hR hall
        have h8 : u 8 = .bool true := hall 8 (by decide)
        have bw : Below V.heap.size V w' := bl_trans (bl_drew (Below.refl _ _)) hR
        clear hall
        simp only [frameF, Act.put, List.setIfInBounds_toArray, List.set_cons_zero, List.set_cons_succ, Nat.reduceAdd, h8]
        clear h8
        have HBT2 := Lib.hid (block_below bw HBT.out)
        have HBX2 := Lib.hid (block_below bw HBX.out)
        have HX2 := Lib.hid (Kd.row_below bw HX.out)
        have HH2 := Lib.hid (Kd.row_below bw HH.out)
        have HRR2 := Lib.hid (Kd.row_below bw HRR.out)
        have q2 := bl_trans q0 bw
        have HB02 := Lib.hid (Nat.le_trans HB0.out bw.size)
        clear HBT HBX HX HH HRR HB0 hR bw HH0
        rename World => V2
        have HBT := HBT2
        have HBX := HBX2
        have HX := HX2
        have HH := HH2
        have HRR := HRR2
        have HB0 := HB02
        clear HBT2 HBX2 HX2 HH2 HRR2 HB02
        go_upto_region 2 with fail
        refine wp_region_any (by kernel_rfl) ?_
        refine wpAny_invlA [true, true, true, true, true, true, true, true, true, true, true, true, true, true, false, false, false] [false, false, false, false, false, false, false, false, false, false, false, false, false, true, false, false, false] [14, 15, 16] (by kernel_rfl) (by kernel_rfl) Rb (tr2t Gt m h A A2 Ar Ac l.length lh.length roots.length nC c c2 cr cc l lh t t1 q base cap) rb_refl rb_trans (fun c a d v w h => by cases d <;> exact h) ⟨?_, ?_, ?_, ?_, ?_, ?_, ?_, ?_, ?_, ?_, ?_, ?_, ?_, ?_, trivial⟩ ?_
        · intro Fr u w1 hTold K hK
          obtain ⟨hN, hO, hR, hdep⟩ := hTold
          rw [if_pos (by rfl)]
          have y0 : Fr.tmps[0]? = some (.pointer (some ⟨Gt, 0, none⟩)) := hO 0 _ rfl rfl
          clear hN hO hdep
          go_simp
          refine hK _ _ (rb_refl _) fun w3 h3 => ?_
          exact rfl
        · intro Fr u w1 hTold K hK
          obtain ⟨hN, hO, hR, hdep⟩ := hTold
          rw [if_pos (by rfl)]
          have y0 : Fr.tmps[0]? = some (.pointer (some ⟨Gt, 0, none⟩)) := hO 0 _ rfl rfl
          clear hN hO hdep
          go_simp
          refine hK _ _ (rb_refl _) fun w3 h3 => ?_
          exact rfl
        · intro Fr u w1 hTold K hK
          obtain ⟨hN, hO, hR, hdep⟩ := hTold
          rw [if_pos (by rfl)]
          have x1 : Fr.tmps[15]? = some (u 1) := hN 1 _ 15 rfl rfl rfl
          rw [show u 1 = .pointer (some ⟨Gt, 0, none⟩) from hdep 1 (by kernel_rfl) w1 (rb_refl _)] at x1
          clear hN hO hdep
          go_simp
          refine hK _ _ (rb_refl _) fun w3 h3 => ?_
          exact rfl
        · intro Fr u w1 hTold K hK
          obtain ⟨hN, hO, hR, hdep⟩ := hTold
          rw [if_pos (by rfl)]
          have x2 : Fr.tmps[16]? = some (u 2) := hN 2 _ 16 rfl rfl rfl
          rw [show u 2 = .pointer (some ⟨Gt, 0, none⟩) from hdep 2 (by kernel_rfl) w1 (rb_refl _)] at x2
          clear hN hO hdep
          go_simp
          refine hK _ _ (rb_refl _) fun w3 h3 => ?_
          exact rfl
        · intro Fr u w1 hTold K hK
          obtain ⟨hN, hO, hR, hdep⟩ := hTold
          rw [if_pos (by rfl)]
          have x3 : Fr.tmps[17]? = some (u 3) := hN 3 _ 17 rfl rfl rfl
          rw [show u 3 = .pointer (some ⟨Gt, 0, none⟩) from hdep 3 (by kernel_rfl) w1 (rb_refl _)] at x3
          clear hN hO hdep
          have gg := block_below hR HBT.out
          have z0 := block_cell gg (i := 0) rfl
          have z1 := block_cell gg (i := 1) rfl
          have z2 := block_cell gg (i := 2) rfl
          have z3 := block_cell gg (i := 3) rfl
          have z4 := block_cell gg (i := 4) rfl
          have z5 := block_cell gg (i := 5) rfl
          have z6 := block_cell gg (i := 6) rfl
          have z7 := block_cell gg (i := 7) rfl
          have z8 := block_cell gg (i := 8) rfl
          have z9 := block_cell gg (i := 9) rfl
          go_simp
          refine hK _ _ (rb_refl _) fun w3 h3 => ?_
          exact rfl
        · intro Fr u w1 hTold K hK
          obtain ⟨hN, hO, hR, hdep⟩ := hTold
          rw [if_pos (by rfl)]
          have y0 : Fr.tmps[0]? = some (.pointer (some ⟨Gt, 0, none⟩)) := hO 0 _ rfl rfl
          clear hN hO hdep
          go_simp
          refine hK _ _ (rb_refl _) fun w3 h3 => ?_
          exact rfl
        · intro Fr u w1 hTold K hK
          obtain ⟨hN, hO, hR, hdep⟩ := hTold
          rw [if_pos (by rfl)]
          have x5 : Fr.tmps[19]? = some (u 5) := hN 5 _ 19 rfl rfl rfl
          rw [show u 5 = .pointer (some ⟨Gt, 0, none⟩) from hdep 5 (by kernel_rfl) w1 (rb_refl _)] at x5
          clear hN hO hdep
          go_simp
          refine hK _ _ (rb_refl _) fun w3 h3 => ?_
          exact rfl
        · intro Fr u w1 hTold K hK
          obtain ⟨hN, hO, hR, hdep⟩ := hTold
          rw [if_pos (by rfl)]
          have x6 : Fr.tmps[20]? = some (u 6) := hN 6 _ 20 rfl rfl rfl
          rw [show u 6 = .pointer (some ⟨Gt, 0, none⟩) from hdep 6 (by kernel_rfl) w1 (rb_refl _)] at x6
          clear hN hO hdep
          go_simp
          refine hK _ _ (rb_refl _) fun w3 h3 => ?_
          exact rfl
        · intro Fr u w1 hTold K hK
          obtain ⟨hN, hO, hR, hdep⟩ := hTold
          rw [if_pos (by rfl)]
          have x7 : Fr.tmps[21]? = some (u 7) := hN 7 _ 21 rfl rfl rfl
          rw [show u 7 = .pointer (some ⟨Gt, 5, none⟩) from hdep 7 (by kernel_rfl) w1 (rb_refl _)] at x7
          clear hN hO hdep
          have gg := block_below hR HBT.out
          have z0 := block_cell gg (i := 0) rfl
          have z1 := block_cell gg (i := 1) rfl
          have z2 := block_cell gg (i := 2) rfl
          have z3 := block_cell gg (i := 3) rfl
          have z4 := block_cell gg (i := 4) rfl
          have z5 := block_cell gg (i := 5) rfl
          have z6 := block_cell gg (i := 6) rfl
          have z7 := block_cell gg (i := 7) rfl
          have z8 := block_cell gg (i := 8) rfl
          have z9 := block_cell gg (i := 9) rfl
          go_simp
          refine hK _ _ (rb_refl _) fun w3 h3 => ?_
          exact rfl
        · intro Fr u w1 hTold K hK
          obtain ⟨hN, hO, hR, hdep⟩ := hTold
          rw [if_pos (by rfl)]
          have y3 : Fr.tmps[3]? = some (.pointer (some ⟨GX, 0, none⟩)) := hO 3 _ rfl rfl
          clear hN hO hdep
          have gg := block_below hR HBX.out
          have z0 := block_cell gg (i := 0) rfl
          have z1 := block_cell gg (i := 1) rfl
          have z2 := block_cell gg (i := 2) rfl
          have z3 := block_cell gg (i := 3) rfl
          go_simp
          refine hK _ _ (rb_refl _) fun w3 h3 => ?_
          exact rfl
        · intro Fr u w1 hTold K hK
          obtain ⟨hN, hO, hR, hdep⟩ := hTold
          rw [if_pos (by rfl)]
          have x4 : Fr.tmps[18]? = some (u 4) := hN 4 _ 18 rfl rfl rfl
          rw [show u 4 = .agg #[.int .i64 h.view, .int .i64 h.height, .string h.block, .slice A lh.length c, .int .i64 t] from hdep 4 (by kernel_rfl) w1 (rb_refl _)] at x4
          have x8 : Fr.tmps[22]? = some (u 8) := hN 8 _ 22 rfl rfl rfl
          rw [show u 8 = .agg #[.slice Ar roots.length cr, .slice Ac nC cc, .int .i64 q, .int .i64 base, .int .i64 cap] from hdep 8 (by kernel_rfl) w1 (rb_refl _)] at x8
          have x9 : Fr.tmps[23]? = some (u 9) := hN 9 _ 23 rfl rfl rfl
          rw [show u 9 = .agg #[.int .i64 m.view, .int .i64 m.height, .string m.block, .slice A2 l.length c2] from hdep 9 (by kernel_rfl) w1 (rb_refl _)] at x9
          clear hN hO hdep
          go_simp
          refine (HTK.out w1 (Kd.row_below hR HX.out) (Kd.row_below hR HH.out) (Kd.row_below hR HRR.out) (Nat.le_trans HB0.out hR.size)).mono ?_
          rintro x w2 ⟨⟨A5, c5, rfl, k3⟩, b2⟩
          refine hK _ _ b2 fun w3 h3 => ?_
          exact ⟨A5, c5, rfl, Kd.row_below h3 k3⟩
        · intro Fr u w1 hTold K hK
          obtain ⟨hN, hO, hR, hdep⟩ := hTold
          rw [if_pos (by rfl)]
          have x10 : Fr.tmps[24]? = some (u 10) := hN 10 _ 24 rfl rfl rfl
          obtain ⟨A5, c5, hu10, k10⟩ := hdep 10 (by kernel_rfl) w1 (rb_refl _)
          rw [hu10] at x10
          clear hN hO hdep
          go_simp
          refine hK _ _ (rb_refl _) fun w3 h3 => ?_
          exact ⟨A5, c5, rfl, Kd.row_below h3 k10⟩
        · intro Fr u w1 hTold K hK
          obtain ⟨hN, hO, hR, hdep⟩ := hTold
          rw [if_pos (by rfl)]
          have x11 : Fr.tmps[13]? = some (u 11) := hN 11 _ 13 rfl rfl rfl
          obtain ⟨A5, c5, hu11, k11⟩ := hdep 11 (by kernel_rfl) w1 (rb_refl _)
          rw [hu11] at x11
          clear hN hO hdep
          go_simp
          refine hK _ _ (rb_refl _) fun w3 h3 => ?_
          exact ⟨A5, c5, rfl, Kd.row_below h3 k11⟩
        · intro Fr u w1 hTold
          obtain ⟨hN, hO, hR, hdep⟩ := hTold
          have x11 : Fr.tmps[13]? = some (u 11) := hN 11 _ 13 rfl rfl rfl
          obtain ⟨A5, c5, hu11, k11⟩ := hdep 11 (by kernel_rfl) w1 (rb_refl _)
          rw [hu11] at x11
          clear hN hO hdep
          refine ⟨.bool true, fun w2 h2 => ?_, Or.inl ⟨by rfl, fun w => by go_simp⟩⟩
          exact rfl
        · intro u w1 hR hall
          obtain ⟨A5, c5, e12, k12⟩ := hall 12 rfl
          have e0 : u 0 = .pointer (some ⟨Gt, 0, none⟩) := hall 0 rfl
          have bw : Below V2.heap.size V2 w1 := bl_trans (bl_drew (Below.refl _ _)) hR
          have gt := block_below bw HBT.out
          have Y0 := block_cell gt (i := 0) rfl
          have Y1 := block_cell gt (i := 1) rfl
          have Y2 := block_cell gt (i := 2) rfl
          have Y3 := block_cell gt (i := 3) rfl
          have Y4 := block_cell gt (i := 4) rfl
          have Z0 : w1.frozen? ⟨Gt, 0, none⟩ = false := block_free gt
          have Z1 : w1.frozen? ⟨Gt, 1, none⟩ = false := block_free gt
          have Z2 : w1.frozen? ⟨Gt, 2, none⟩ = false := block_free gt
          have Z3 : w1.frozen? ⟨Gt, 3, none⟩ = false := block_free gt
          have Z4 : w1.frozen? ⟨Gt, 4, none⟩ = false := block_free gt
          change wpList _ _ _ ([_, _, _]) _ _
          simp only [frameM, frameM_nil, Act.put, List.setIfInBounds_toArray, List.set_cons_zero, List.set_cons_succ, Nat.reduceAdd, e12, e0]
          clear hall e12 e0
          have r5 : (((((w1.setCell ⟨Gt, 0, none⟩ (.int .i64 m.view)).setCell ⟨Gt, 1, none⟩ (.int .i64 m.height)).setCell ⟨Gt, 2, none⟩ (.string m.block)).setCell ⟨Gt, 3, none⟩ (.slice A5 l.length c5)).setCell ⟨Gt, 4, none⟩ (.int .i64 t1)).heap[Gt]? = some (.cells #[.int .i64 m.view, .int .i64 m.height, .string m.block, .slice A5 l.length c5, .int .i64 t1, .slice Ar roots.length cr, .slice Ac nC cc, .int .i64 q, .int .i64 base, .int .i64 cap] 103 (0, 0)) := res5x (p := .int .i64 m.view) (q := .int .i64 m.height) (r := .string m.block) (s := .slice A5 l.length c5) (u := .int .i64 t1) gt
          have q5 : Below w.heap.size w w1 := bl_trans q2 bw
          have tk : TkKeep Gt w (((((w1.setCell ⟨Gt, 0, none⟩ (.int .i64 m.view)).setCell ⟨Gt, 1, none⟩ (.int .i64 m.height)).setCell ⟨Gt, 2, none⟩ (.string m.block)).setCell ⟨Gt, 3, none⟩ (.slice A5 l.length c5)).setCell ⟨Gt, 4, none⟩ (.int .i64 t1)) := TkKeep.trans (TkKeep.of_below q5) (tk5 (p := .int .i64 m.view) (q := .int .i64 m.height) (r := .string m.block) (s := .slice A5 l.length c5) (u := .int .i64 t1))
          have bn : ∀ N, N ≤ Gt → Below N w (((((w1.setCell ⟨Gt, 0, none⟩ (.int .i64 m.view)).setCell ⟨Gt, 1, none⟩ (.int .i64 m.height)).setCell ⟨Gt, 2, none⟩ (.string m.block)).setCell ⟨Gt, 3, none⟩ (.slice A5 l.length c5)).setCell ⟨Gt, 4, none⟩ (.int .i64 t1)) := fun N hN => bn5 (p := .int .i64 m.view) (q := .int .i64 m.height) (r := .string m.block) (s := .slice A5 l.length c5) (u := .int .i64 t1) (q5.mono (Nat.le_trans hN lGt)) hN
          have k13 : kVote.Row 28 0 (((((w1.setCell ⟨Gt, 0, none⟩ (.int .i64 m.view)).setCell ⟨Gt, 1, none⟩ (.int .i64 m.height)).setCell ⟨Gt, 2, none⟩ (.string m.block)).setCell ⟨Gt, 3, none⟩ (.slice A5 l.length c5)).setCell ⟨Gt, 4, none⟩ (.int .i64 t1)) A5 l := Kd.row_keep ((tk5 (p := .int .i64 m.view) (q := .int .i64 m.height) (r := .string m.block) (s := .slice A5 l.length c5) (u := .int .i64 t1)).keeps gt (Nat.zero_le _) (by decide)) k12
          go_wp2_with fail
          go_end0
          exact ⟨⟨_, rfl⟩, ⟨A5, c5, r5, k13⟩, tk, bn⟩
end Go.Proofs.Ytglneailkgminaa
/- The best of heads, plain. No claim of its own; no condition. -/
namespace Go.Proofs.Ytglneailkgminaa
set_option linter.unusedVariables false
structure BestS where
  m : Mark
  vs : List Vote
  t : Int
def markX (x : Cert) : Mark := ⟨x.view, x.height, x.block⟩
def stepB (roots : List ByteArray) (q : Int) (s : BestS) (x : Cert) : BestS :=
  ⟨if wantF (markX x) s.m x.votes roots q then markX x else s.m, if wantF (markX x) s.m x.votes roots q then x.votes else s.vs, if wantF (markX x) s.m x.votes roots q then IntKind.i64.wrap (s.t + 1) else s.t⟩
def initB : BestS := ⟨firstM, [], 0⟩
def bestF (roots : List ByteArray) (q : Int) (l : List Cert) : BestS := l.foldl (stepB roots q) initB
theorem bestF_succ (roots : List ByteArray) (q : Int) (l : List Cert) (k : Nat) (x : Cert) (hx : l[k]? = some x) : bestF roots q (l.take (k + 1)) = stepB roots q (bestF roots q (l.take k)) x := by
  unfold bestF
  rw [List.take_add_one, hx]
  simp
theorem fold_len (roots : List ByteArray) (q : Int) (N : Nat) : ∀ (l : List Cert) (s : BestS), (∀ x ∈ l, x.votes.length ≤ N) → s.vs.length ≤ N → (l.foldl (stepB roots q) s).vs.length ≤ N
  | [], s, _, h => h
  | x :: l, s, hl, h => by
    refine fold_len roots q N l (stepB roots q s x) (fun y hy => hl y (List.mem_cons_of_mem _ hy)) ?_
    show (if _ then x.votes else s.vs).length ≤ N
    split
    · exact hl x (by simp)
    · exact h
theorem bestF_len (roots : List ByteArray) (q : Int) (N : Nat) (l : List Cert) (hl : ∀ x ∈ l, x.votes.length ≤ N) (k : Nat) : (bestF roots q (l.take k)).vs.length ≤ N :=
  fold_len roots q N (l.take k) initB (fun x hx => hl x (List.mem_of_mem_take hx)) (Nat.zero_le _)
/-! ### what the best is -/
def rightX (roots : List ByteArray) (q : Int) (x : Cert) : Prop := chkC (markX x) x.votes roots q = 0
theorem higherF_iff (a b : Mark) : higherF a b = true ↔ b.view < a.view ∨ (a.view = b.view ∧ b.height < a.height) := by
  unfold higherF
  simp
/-- Not below. -/
def geM (a b : Mark) : Prop := ¬ higherF b a = true
theorem geM_iff (a b : Mark) : geM a b ↔ (b.view < a.view ∨ (b.view = a.view ∧ b.height ≤ a.height)) := by
  unfold geM
  rw [higherF_iff]
  omega
theorem geM_refl (a : Mark) : geM a a := by rw [geM_iff]; omega
theorem geM_trans {a b c : Mark} (h : geM a b) (k : geM b c) : geM a c := by rw [geM_iff] at *; omega
theorem geM_of_higher {a b : Mark} (h : higherF a b = true) : geM a b := by rw [higherF_iff] at h; rw [geM_iff]; omega
/-- What the fold keeps. -/
structure BestOk (roots : List ByteArray) (q : Int) (n : Nat) (s : BestS) : Prop where
  right : chkC s.m s.vs roots q = 0
  lo : 0 ≤ s.t
  up : s.t ≤ n
  ge : geM s.m firstM
theorem stepB_ok {roots : List ByteArray} {q : Int} {n : Nat} {s : BestS} (h : BestOk roots q n s) (hn : n < 1000) (x : Cert) : BestOk roots q (n + 1) (stepB roots q s x) := by
  have hlo := h.lo
  have hup := h.up
  have e : IntKind.i64.wrap (s.t + 1) = s.t + 1 := IntWalk.i64_in _ (by omega)
  unfold stepB
  rw [e]
  cases hb : wantF (markX x) s.m x.votes roots q with
  | false => exact ⟨h.right, h.lo, by simp only [Bool.false_eq_true, if_false]; omega, h.ge⟩
  | true =>
    have hb' := hb
    unfold wantF at hb'
    simp only [Bool.and_eq_true, beq_iff_eq] at hb'
    refine ⟨by simpa using hb'.1, by simp only [if_true]; omega, by simp only [if_true]; omega, ?_⟩
    simp only [if_true]
    exact geM_trans (geM_of_higher hb'.2) h.ge
theorem stepB_ge (roots : List ByteArray) (q : Int) (s : BestS) (x : Cert) : geM (stepB roots q s x).m s.m := by
  show geM (if _ then markX x else s.m) s.m
  split
  · rename_i hb
    unfold wantF at hb
    simp only [Bool.and_eq_true] at hb
    exact geM_of_higher hb.2
  · exact geM_refl _
theorem stepB_covers (roots : List ByteArray) (q : Int) (s : BestS) (x : Cert) (hx : rightX roots q x) : geM (stepB roots q s x).m (markX x) := by
  show geM (if _ then markX x else s.m) (markX x)
  split
  · exact geM_refl _
  · rename_i hb
    intro hc
    apply hb
    unfold wantF
    rw [show chkC (markX x) x.votes roots q = 0 from hx, hc]
    rfl
theorem fold_ge (roots : List ByteArray) (q : Int) : ∀ (l : List Cert) (s : BestS), geM (l.foldl (stepB roots q) s).m s.m
  | [], s => geM_refl _
  | x :: l, s => geM_trans (fold_ge roots q l (stepB roots q s x)) (stepB_ge roots q s x)
theorem fold_covers (roots : List ByteArray) (q : Int) : ∀ (l : List Cert) (s : BestS), ∀ x ∈ l, rightX roots q x → geM (l.foldl (stepB roots q) s).m (markX x)
  | y :: l, s, x, hx, hr => by
    rcases List.mem_cons.1 hx with rfl | h
    · exact geM_trans (fold_ge roots q l (stepB roots q s x)) (stepB_covers roots q s x hr)
    · exact fold_covers roots q l (stepB roots q s y) x h hr
/-- The best's mark is the first's, or a right one's. -/
theorem fold_from (roots : List ByteArray) (q : Int) : ∀ (l : List Cert) (s : BestS), (l.foldl (stepB roots q) s).m = s.m ∨ ∃ x ∈ l, rightX roots q x ∧ (l.foldl (stepB roots q) s).m = markX x
  | [], s => .inl rfl
  | y :: l, s => by
    rcases fold_from roots q l (stepB roots q s y) with h | ⟨x, hx, hr, h⟩
    · have e : (stepB roots q s y).m = if wantF (markX y) s.m y.votes roots q then markX y else s.m := rfl
      show (l.foldl (stepB roots q) (stepB roots q s y)).m = s.m ∨ _
      rw [e] at h
      cases hb : wantF (markX y) s.m y.votes roots q with
      | false => rw [hb] at h; exact .inl h
      | true =>
        rw [hb] at h
        have hb' := hb
        unfold wantF at hb'
        simp only [Bool.and_eq_true, beq_iff_eq] at hb'
        exact .inr ⟨y, by simp, hb'.1, h⟩
    · exact .inr ⟨x, List.mem_cons_of_mem _ hx, hr, h⟩
theorem fold_ok (roots : List ByteArray) (q : Int) : ∀ (l : List Cert) (n : Nat) (s : BestS), n + l.length < 1000 → BestOk roots q n s → BestOk roots q (n + l.length) (l.foldl (stepB roots q) s)
  | [], n, s, _, h => h
  | x :: l, n, s, hn, h => by
    have := fold_ok roots q l (n + 1) (stepB roots q s x) (by simp at hn ⊢; omega) (stepB_ok h (by simp at hn; omega) x)
    rw [List.length_cons, show n + (l.length + 1) = n + 1 + l.length by omega]
    exact this
theorem chkC_first (roots : List ByteArray) (q : Int) : chkC firstM [] roots q = 0 := by
  unfold chkC
  simp
theorem bestF_ok (roots : List ByteArray) (q : Int) (l : List Cert) (hl : l.length ≤ 12) : BestOk roots q l.length (bestF roots q l) := by
  have := fold_ok roots q l 0 initB (by omega) ⟨chkC_first roots q, by decide, by decide, geM_refl _⟩
  rwa [Nat.zero_add] at this
theorem bestF_covers (roots : List ByteArray) (q : Int) (l : List Cert) (x : Cert) (hx : x ∈ l) (hr : chkC (markX x) x.votes roots q = 0) : higherF (markX x) (bestF roots q l).m = false := by
  have : geM (bestF roots q l).m (markX x) := fold_covers roots q l initB x hx hr
  unfold geM at this
  simpa using this
/-- In another order its rank is the same. -/
theorem bestF_rank (roots : List ByteArray) (q : Int) (l r : List Cert) (hlr : ∀ x, x ∈ l ↔ x ∈ r) : (bestF roots q l).m.view = (bestF roots q r).m.view ∧ (bestF roots q l).m.height = (bestF roots q r).m.height := by
  have key : ∀ a b : List Cert, (∀ x, x ∈ a → x ∈ b) → geM (bestF roots q b).m (bestF roots q a).m := fun a b hab => by
    rcases fold_from roots q a initB with h | ⟨x, hx, hr, h⟩
    · show geM _ (a.foldl (stepB roots q) initB).m
      rw [h]
      exact fold_ge roots q b initB
    · show geM _ (a.foldl (stepB roots q) initB).m
      rw [h]
      exact fold_covers roots q b initB x (hab x hx) hr
  have h1 := key l r fun x => (hlr x).1
  have h2 := key r l fun x => (hlr x).2
  rw [geM_iff] at h1 h2
  omega
end Go.Proofs.Ytglneailkgminaa
/- Package light: Best. No claim of its own; no condition. -/
namespace Go.Proofs.Ytglneailkgminaa
open Go.ChangeShapes Go.WideShapes Go.ChangeAt Go.RowKit
set_option linter.unusedVariables false
set_option linter.unusedSimpArgs false
def BestPost (s : BestS) (w : World) (e : Ending) (w' : World) : Prop :=
  (∃ A5 c5, e = .returned (.agg #[.int .i64 s.m.view, .int .i64 s.m.height, .string s.m.block, .slice A5 s.vs.length c5, .int .i64 s.t]) ∧ kVote.Row 28 0 w' A5 s.vs) ∧ Below w.heap.size w w'
def be1 (G : Nat) (fm : Mark) (Ar Ac : Option Addr) (nR cr nC cc : Nat) (q base cap : Int) (V : Nat) : Nat → Value → World → Prop
  | 0, y, _ => y = .agg #[.int .i64 fm.view, .int .i64 fm.height, .string fm.block, .slice none 0 0, .int .i64 0]
  | 1, y, _ => y = .agg #[.slice Ar nR cr, .slice Ac nC cc, .int .i64 q, .int .i64 base, .int .i64 cap]
  | 2, y, _ => y = .agg #[.int .i64 fm.view, .int .i64 fm.height, .string fm.block, .slice none 0 0, .int .i64 0, .slice Ar nR cr, .slice Ac nC cc, .int .i64 q, .int .i64 base, .int .i64 cap]
  | 3, y, w => ∃ b, y = .pointer (some ⟨b, 0, none⟩) ∧ V ≤ b ∧ w.heap[b]? = some (.cells #[.int .i64 fm.view, .int .i64 fm.height, .string fm.block, .slice none 0 0, .int .i64 0, .slice Ar nR cr, .slice Ac nC cc, .int .i64 q, .int .i64 base, .int .i64 cap] 103 (0, 0))
  | 4, y, w => ∃ b, y = .pointer (some ⟨b, 0, none⟩) ∧ V ≤ b ∧ w.heap[b]? = some (.cells #[.int .i64 fm.view, .int .i64 fm.height, .string fm.block, .slice none 0 0, .int .i64 0, .slice Ar nR cr, .slice Ac nC cc, .int .i64 q, .int .i64 base, .int .i64 cap] 103 (0, 0))
  | _, _, _ => True
set_option maxHeartbeats 16000000 in
set_option maxRecDepth 100000 in
theorem best_calls (l : List Cert) (roots : List ByteArray) (q base cap : Int) (Ar Ac Al : Option Addr) (cr nC cc cl nl B0 : Nat) (w : World) (hnl : nl = l.length) (hB0 : B0 ≤ w.heap.size) (hl : l.length ≤ 1048576) (hlx : ∀ x ∈ l, x.votes.length ≤ 1048576) (hlr : roots.length ≤ 1048576)
    (hrl : kCert.Row 35 B0 w Al l) (hrr : Kd.str.Row 9 B0 w Ar roots) :
    Calls Try.prog 33 #[.agg #[.slice Ar roots.length cr, .slice Ac nC cc, .int .i64 q, .int .i64 base, .int .i64 cap], .slice Al nl cl] w (BestPost (bestF roots q l) w) := by
  subst hnl
  have q0 := bl_alloc (bl_alloc (Below.refl w.heap.size w) (.cells #[.slice Ar roots.length cr, .slice Ac nC cc, .int .i64 q, .int .i64 base, .int .i64 cap] 57)) (.cells #[.int .i64 0, .int .i64 0, .string ⟨#[]⟩, .slice none 0 0, .int .i64 0] 55)
  have a0 : ((w.alloc (.cells #[.slice Ar roots.length cr, .slice Ac nC cc, .int .i64 q, .int .i64 base, .int .i64 cap] 57)).alloc (.cells #[.int .i64 0, .int .i64 0, .string ⟨#[]⟩, .slice none 0 0, .int .i64 0] 55)).heap[w.heap.size]? = some (.cells #[.slice Ar roots.length cr, .slice Ac nC cc, .int .i64 q, .int .i64 base, .int .i64 cap] 57 (0, 0)) := alloc_old (alloc_new w _) _
  have a1 : ((w.alloc (.cells #[.slice Ar roots.length cr, .slice Ac nC cc, .int .i64 q, .int .i64 base, .int .i64 cap] 57)).alloc (.cells #[.int .i64 0, .int .i64 0, .string ⟨#[]⟩, .slice none 0 0, .int .i64 0] 55)).heap[w.heap.size + 1]? = some (.cells #[.int .i64 0, .int .i64 0, .string ⟨#[]⟩, .slice none 0 0, .int .i64 0] 55 (0, 0)) := by
    have := alloc_new (w.alloc (.cells #[.slice Ar roots.length cr, .slice Ac nC cc, .int .i64 q, .int .i64 base, .int .i64 cap] 57)) (.cells #[.int .i64 0, .int .i64 0, .string ⟨#[]⟩, .slice none 0 0, .int .i64 0] 55)
    rwa [World.size_alloc] at this
  have hlq := Kd.row_below q0 hrl
  have hrq := Kd.row_below q0 hrr
  obtain ⟨fm, hfm⟩ : ∃ fm, firstM = fm := ⟨_, rfl⟩
  have hnew := fun W => lightnew_calls W
  rw [hfm] at hnew
  have HNEW := Lib.hid hnew
  have HFM := Lib.hid hfm
  clear hnew hfm hrl hrr
  obtain ⟨G, hG⟩ : ∃ G, w.heap.size = G := ⟨_, rfl⟩
  have leG : w.heap.size ≤ G := by omega
  have HG0 := Lib.hid hG
  go_enter Try.func33, Try.ntmps33
  go_upto_region 1 with fail
  change Code.wp _ _ _ _ ((w.alloc (.cells #[.slice Ar roots.length cr, .slice Ac nC cc, .int .i64 q, .int .i64 base, .int .i64 cap] 57)).alloc (.cells #[.int .i64 0, .int .i64 0, .string ⟨#[]⟩, .slice none 0 0, .int .i64 0] 55))
  generalize (w.alloc (.cells #[.slice Ar roots.length cr, .slice Ac nC cc, .int .i64 q, .int .i64 base, .int .i64 cap] 57)).alloc (.cells #[.int .i64 0, .int .i64 0, .string ⟨#[]⟩, .slice none 0 0, .int .i64 0] 55) = V at *
  simp only [hG] at a0 a1 ⊢
  clear hG
  have HA := Lib.hid a0
  have HA1 := Lib.hid a1
  have HL := Lib.hid hlq
  have HRR := Lib.hid hrq
  clear a0 a1 hlq hrq
  refine wp_region_invA (by kernel_rfl) (by kernel_rfl) Rb (be1 G fm Ar Ac roots.length cr nC cc q base cap V.heap.size) rb_refl rb_trans ⟨?_, ?_, ?_, ?_, ?_, trivial⟩ ?_
  · intro Fr u hN hO w1 hR hdep K hK
    rw [if_pos (by rfl)]
    clear hN hO hdep
    go_simp
    refine (HNEW.out w1).mono ?_
    rintro x w2 ⟨rfl, b2⟩
    refine hK _ _ b2 fun w3 h3 => ?_
    exact rfl
  · intro Fr u hN hO w1 hR hdep K hK
    rw [if_pos (by rfl)]
    have y2 : Fr.tmps[2]? = some (.pointer (some ⟨G, 0, none⟩)) := hO 2 _ rfl rfl
    clear hN hO hdep
    have gg := block_below hR HA.out
    have z0 := block_cell gg (i := 0) rfl
    have z1 := block_cell gg (i := 1) rfl
    have z2 := block_cell gg (i := 2) rfl
    have z3 := block_cell gg (i := 3) rfl
    have z4 := block_cell gg (i := 4) rfl
    go_simp
    refine hK _ _ (rb_refl _) fun w3 h3 => ?_
    exact rfl
  · intro Fr u hN hO w1 hR hdep K hK
    rw [if_pos (by rfl)]
    have x0 : Fr.tmps[9]? = some (u 0) := hN 0 _ 9 rfl rfl rfl
    rw [show u 0 = .agg #[.int .i64 fm.view, .int .i64 fm.height, .string fm.block, .slice none 0 0, .int .i64 0] from hdep 0 (by kernel_rfl) w1 (rb_refl _)] at x0
    have x1 : Fr.tmps[10]? = some (u 1) := hN 1 _ 10 rfl rfl rfl
    rw [show u 1 = .agg #[.slice Ar roots.length cr, .slice Ac nC cc, .int .i64 q, .int .i64 base, .int .i64 cap] from hdep 1 (by kernel_rfl) w1 (rb_refl _)] at x1
    clear hN hO hdep
    go_simp
    refine hK _ _ (rb_refl _) fun w3 h3 => ?_
    exact rfl
  · intro Fr u hN hO w1 hR hdep K hK
    rw [if_pos (by rfl)]
    have x2 : Fr.tmps[11]? = some (u 2) := hN 2 _ 11 rfl rfl rfl
    rw [show u 2 = .agg #[.int .i64 fm.view, .int .i64 fm.height, .string fm.block, .slice none 0 0, .int .i64 0, .slice Ar roots.length cr, .slice Ac nC cc, .int .i64 q, .int .i64 base, .int .i64 cap] from hdep 2 (by kernel_rfl) w1 (rb_refl _)] at x2
    clear hN hO hdep
    go_simp
    refine hK _ _ (bl_alloc (Below.refl _ _) _) fun w3 h3 => ?_
    exact ⟨w1.heap.size, rfl, hR.size, block_below h3 (alloc_new w1 _)⟩
  · intro Fr u hN hO w1 hR hdep K hK
    rw [if_pos (by rfl)]
    have x3 : Fr.tmps[12]? = some (u 3) := hN 3 _ 12 rfl rfl rfl
    obtain ⟨b, hu3, k3, l3⟩ := hdep 3 (by kernel_rfl) w1 (rb_refl _)
    rw [hu3] at x3
    clear hN hO hdep
    go_simp
    refine hK _ _ (rb_refl _) fun w3 h3 => ?_
    exact ⟨b, rfl, k3, block_below h3 l3⟩
  · intro u w' hR hall
    obtain ⟨Gt, e4, k4, g4⟩ := hall 4 (by decide)
    have bw : Below V.heap.size V w' := bl_trans (bl_drew (Below.refl _ _)) hR
    clear hall
    simp only [frameF, Act.put, List.setIfInBounds_toArray, List.set_cons_zero, List.set_cons_succ, Nat.reduceAdd, e4]
    clear e4
    have r1 := block_below bw HA1.out
    have ntr : Gt ≠ G + 1 := by have := blk_lt HA1.out; omega
    have leT : w.heap.size ≤ Gt := Nat.le_trans q0.size k4
    have q1 := bl_trans q0 bw
    have hl1 := Kd.row_below bw HL.out
    have hr1 := Kd.row_below bw HRR.out
    have HNT : Hid (Gt ≠ G + 1) := Lib.hid ntr
    clear HA HA1 HL HRR hR bw HNEW k4 ntr q0
    obtain ⟨Gr, hGr⟩ : ∃ Gr, G + 1 = Gr := ⟨_, rfl⟩
    have leR : w.heap.size ≤ Gr := by omega
    rw [hGr] at HNT r1
    simp only [hGr]
    clear hGr
    go_wp2_with fail
    go_loopw [17] (fun iv w' => ∃ (k : Nat) (A : Option Addr) (c : Nat), k ≤ l.length ∧ iv = .int .i64 k ∧ Below w.heap.size w w' ∧ w'.heap[Gt]? = some (.cells #[.int .i64 (bestF roots q (l.take k)).m.view, .int .i64 (bestF roots q (l.take k)).m.height, .string (bestF roots q (l.take k)).m.block, .slice A (bestF roots q (l.take k)).vs.length c, .int .i64 (bestF roots q (l.take k)).t, .slice Ar roots.length cr, .slice Ac nC cc, .int .i64 q, .int .i64 base, .int .i64 cap] 103 (0, 0)) ∧ kVote.Row 28 0 w' A (bestF roots q (l.take k)).vs ∧ w'.heap[Gr]? = some (.cells #[.int .i64 0, .int .i64 0, .string ⟨#[]⟩, .slice none 0 0, .int .i64 0] 55 (0, 0)) ∧ kCert.Row 35 B0 w' Al l ∧ Kd.str.Row 9 B0 w' Ar roots) (fun iv _ => l.length - (intOf iv).toNat)
    case atStart =>
      have e0 : bestF roots q (l.take 0) = ⟨fm, [], 0⟩ := by show BestS.mk firstM [] 0 = _; rw [HFM.out]
      exact ⟨0, none, 0, by omega, rfl, q1, by rw [e0]; exact g4, by rw [e0]; exact Kd.row_nil _ _ _ _ _, r1, hl1, hr1⟩
    case round =>
      clear g4 r1 hl1 hr1 q1
      obtain ⟨k, A, c, hk, rfl, bel, gt, rowh, gr, rowl, rowr⟩ := hrel
      rename World => wr
      have hlenh := bestF_len roots q 1048576 l hlx k
      by_cases h1 : k < l.length
      case neg =>
        obtain rfl : k = l.length := by omega
        have hnI : ¬ ((l.length : Int) < (l.length : Int)) := by omega
        rw [List.take_length] at gt rowh hlenh
        obtain ⟨s, hs⟩ : ∃ s, bestF roots q l = s := ⟨_, rfl⟩
        rw [hs] at gt rowh hlenh
        have HSS := Lib.hid hs
        clear hs hlenh
        obtain ⟨c0, hc0⟩ : ∃ c0, s.vs.length = c0 := ⟨_, rfl⟩
        rw [hc0] at gt
        have HC := Lib.hid hc0
        clear hc0
        have Y0 := block_cell gt (i := 0) rfl
        have Y1 := block_cell gt (i := 1) rfl
        have Y2 := block_cell gt (i := 2) rfl
        have Y3 := block_cell gt (i := 3) rfl
        have Y4 := block_cell gt (i := 4) rfl
        have X0 := block_cell gr (i := 0) rfl
        have X1 := block_cell gr (i := 1) rfl
        have X2 := block_cell gr (i := 2) rfl
        have X3 := block_cell gr (i := 3) rfl
        have X4 := block_cell gr (i := 4) rfl
        have Z0 : wr.frozen? ⟨Gr, 0, none⟩ = false := block_free gr
        have Z1 : wr.frozen? ⟨Gr, 1, none⟩ = false := block_free gr
        have Z2 : wr.frozen? ⟨Gr, 2, none⟩ = false := block_free gr
        have Z3 : wr.frozen? ⟨Gr, 3, none⟩ = false := block_free gr
        have Z4 : wr.frozen? ⟨Gr, 4, none⟩ = false := block_free gr
        have R := res5 (p := .int .i64 s.m.view) (q := .int .i64 s.m.height) (r := .string s.m.block) (s := .slice A c0 c) (u := .int .i64 s.t) gr
        have bz := bel5 (p := .int .i64 s.m.view) (q := .int .i64 s.m.height) (r := .string s.m.block) (s := .slice A c0 c) (u := .int .i64 s.t) bel leR
        have rz := Kd.row_keep (keep5 (E := [28]) (p := .int .i64 s.m.view) (q := .int .i64 s.m.height) (r := .string s.m.block) (s := .slice A c0 c) (u := .int .i64 s.t) gr (Nat.zero_le _) (by decide)) rowh
        go_wp2_with fail
        generalize ((((wr.setCell ⟨Gr, 0, none⟩ (.int .i64 s.m.view)).setCell ⟨Gr, 1, none⟩ (.int .i64 s.m.height)).setCell ⟨Gr, 2, none⟩ (.string s.m.block)).setCell ⟨Gr, 3, none⟩ (.slice A c0 c)).setCell ⟨Gr, 4, none⟩ (.int .i64 s.t) = Wf at *
        have z0 := block_cell R (i := 0) rfl
        have z1 := block_cell R (i := 1) rfl
        have z2 := block_cell R (i := 2) rfl
        have z3 := block_cell R (i := 3) rfl
        have z4 := block_cell R (i := 4) rfl
        refine bodyPost_ret (v := .agg #[.int .i64 s.m.view, .int .i64 s.m.height, .string s.m.block, .slice A c0 c, .int .i64 s.t]) (by simp [results, Try.results33, go_sem, z0, z1, z2, z3, z4]) rfl ?_
        exact ⟨⟨A, c, by rw [HSS.out, HC.out], by rw [HSS.out]; exact rz⟩, bz⟩
      case pos =>
        obtain ⟨x, hx⟩ : ∃ x, l[k]? = some x := ⟨_, List.getElem?_eq_getElem h1⟩
        have hsucc := bestF_succ roots q l k x hx
        obtain ⟨ad, rfl, A3, c3, e0, e1, e2, e3, _, _, _, _, _, rowx⟩ := kCert_at rowl hx
        have hlenx := hlx x (List.mem_of_getElem? hx)
        obtain ⟨s, hs⟩ : ∃ s, bestF roots q (l.take k) = s := ⟨_, rfl⟩
        rw [hs] at gt rowh hlenh hsucc
        obtain ⟨h, lh, t⟩ := s
        dsimp only at gt rowh hlenh
        obtain ⟨xv, xh, xb, lx⟩ := x
        dsimp only at e0 e1 e2 e3 rowx hlenx
        obtain ⟨m, hm⟩ : ∃ m : Mark, m = ⟨xv, xh, xb⟩ := ⟨_, rfl⟩
        have hst : stepB roots q ⟨h, lh, t⟩ ⟨xv, xh, xb, lx⟩ = ⟨if wantF m h lx roots q then m else h, if wantF m h lx roots q then lx else lh, if wantF m h lx roots q then IntKind.i64.wrap (t + 1) else t⟩ := by rw [hm]; rfl
        obtain rfl : m.view = xv := by rw [hm]
        obtain rfl : m.height = xh := by rw [hm]
        obtain rfl : m.block = xb := by rw [hm]
        rw [hst] at hsucc
        have HS := Lib.hid hsucc
        clear hm hx hst hsucc hs
        have hkI : (k : Int) < (l.length : Int) := by omega
        have hk0 : (0 : Int) ≤ (k : Int) := by omega
        obtain ⟨t1, ht1⟩ : ∃ t1, IntKind.i64.wrap (t + 1) = t1 := ⟨_, rfl⟩
        obtain ⟨bb, hbb⟩ : ∃ bb, wantF m h lx roots q = bb := ⟨_, rfl⟩
        have bt := bl_alloc (Below.refl wr.heap.size wr) (.cells #[.int .i64 m.view, .int .i64 m.height, .string m.block, .slice A3 lx.length c3] 35)
        have lB0 : B0 ≤ Gt := Nat.le_trans hB0 leT
        have htk := taker_calls m h lx lh roots t t1 q base cap ht1 A A3 Ar Ac c c3 cr nC cc B0 Gt _ lB0 hlenx hlenh hlr (block_below bt gt) (Kd.row_below bt rowx) (Kd.row_below bt rowh) (Kd.row_below bt rowr)
        rw [hbb] at htk
        have hS' := HS.out
        rw [hbb, ht1] at hS'
        have HS2 := Lib.hid hS'
        have HTK := Lib.hid htk
        have HGT := Lib.hid (block_below bt gt)
        have HGR := Lib.hid (block_below bt gr)
        have HL := Lib.hid (Kd.row_below bt rowl)
        have HRR := Lib.hid (Kd.row_below bt rowr)
        have HBT := Lib.hid (bl_trans bel bt)
        clear htk hS' HS hbb ht1 rowx rowh rowl rowr
        go_upto_region 7 with (go_at_call 60; refine HTK.out.mono ?_; rintro x w1 ⟨⟨u1, rfl⟩, ⟨A5, c5, g5, k5⟩, tk, bn⟩)
        have q9 : Below w.heap.size w w1 := (HBT.out).trans (bn _ leT)
        have gr9 : w1.heap[Gr]? = some (.cells #[.int .i64 0, .int .i64 0, .string ⟨#[]⟩, .slice none 0 0, .int .i64 0] 55 (0, 0)) := (tk.2 Gr (fun e => HNT.out e.symm) (blk_lt HGR.out)).trans HGR.out
        have kk : ∀ (B : Nat) (E : List TypeId), B ≤ Gt → 103 ∉ E → Keeps B E _ w1 := fun B E i1 i2 => tk.keeps HGT.out i1 i2
        have hl9 := Kd.row_keep (kk B0 (35 :: kCert.E) lB0 (by decide)) HL.out
        have hr9 := Kd.row_keep (kk B0 [9] lB0 (by decide)) HRR.out
        clear HTK HGT HGR HL HRR HBT kk tk bn gt gr
        go_wp2_with fail
        go_roundw
        case rel => exact ⟨k + 1, A5, c5, by omega, by go_num, q9, by rw [HS2.out]; exact g5, by rw [HS2.out]; exact k5, gr9, hl9, hr9⟩
        case measure => simp [intOf]; omega
end Go.Proofs.Ytglneailkgminaa
