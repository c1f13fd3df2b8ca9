/- slices.Clone at statements. No claim of its own; no condition. -/
import Derived.Test.YtglneailkgminaaFlat
import Derived.Test.YtglneailkgminaaAppStep
import Derived.Lib.Hide
import Derived.WalkSpells
import Derived.Test.YtglneailkgminaaPutN
import Derived.Test.YtglneailkgminaaWotF
namespace Go.Proofs.Ytglneailkgminaa
open Go.ChangeShapes Go.WideShapes Go.ChangeAt Go.RowKit
set_option linter.unusedVariables false
set_option linter.unusedSimpArgs false
theorem vinfo_kVote : (Try.prog.info? 28).map (fun i => (i.zero, i.size, i.bytes)) = some (some (.agg #[.int .i64 0, .int .i64 0, .int .i64 0, .string ⟨#[]⟩, .int .i64 0, .int .i64 0, .string ⟨#[]⟩]), 7, 72) := by kernel_rfl
theorem vflat_kVote : kVote.Flat := Kd.flat_iso (Kd.flat_pair Kd.flat_int (Kd.flat_pair Kd.flat_int (Kd.flat_pair Kd.flat_int (Kd.flat_pair Kd.flat_str (Kd.flat_pair Kd.flat_int (Kd.flat_pair Kd.flat_int Kd.flat_str))))))
set_option maxHeartbeats 800000 in
set_option maxRecDepth 100000 in
theorem clonev_calls (l : List Vote) (A : Option Addr) (n c : Nat) (w : World) (B : Nat) (hn : n = l.length) (hl : l.length ≤ 2097152) (hr : kVote.Row 28 B w A l) :
    Calls Try.prog 91 #[.slice A n c] w fun e w' => (∃ v, e = .returned v ∧ kVote.Own 28 w.heap.size w' w.heap.size v l ∧ (v = .slice none 0 0 ↔ A = none)) ∧ Below w.heap.size w w' := by
  subst hn
  obtain ⟨i0, hi, hz0, hz1, hz2⟩ := info_parts vinfo_kVote
  have hnil : ∀ (w : World) (a : Option Addr) (n c n' c' : Nat), (binOp .eql 22 (.slice a n c) (.slice none n' c')).run Try.prog w = .ok (.bool a.isNone) w := fun w a n c n' c' => Lib.run_eql_slice_nil w _ _ a n c n' c' Try.underlying22
  cases A with
  | none =>
    have hx : l = [] := by
      cases l with
      | nil => rfl
      | cons x l => obtain ⟨ad, h, _⟩ := hr (by simp); cases h
    subst hx
    go_enter Try.func91, Try.ntmps91
    go_wp2_with fail
    go_ret
    exact ⟨⟨_, rfl, Kd.own_nil _ _ _ _ _, by simp⟩, Below.refl _ _⟩
  | some ad =>
    have qe := bl_alloc (Below.refl w.heap.size w) (.cells #[] 28)
    have rowe := Kd.row_below qe (Kd.row_flat vflat_kVote hr (Nat.le_refl _))
    go_enter Try.func91, Try.ntmps91
    go_wp2_with (at_builtin; refine wpList_append_row _ rfl (.tmp 5) (.tmp 6) 22 rfl kVote w.heap.size w.heap.size 28 i0 _ 72 Try.underlying22 hi hz0 hz1 hz2 rfl (by decide) (.slice (some ⟨w.heap.size, 0, none⟩) 0 0) [] rfl (Kd.own_empty (Nat.le_refl _)) (some ad) c l.length l rfl rfl rowe (by simp only [List.length_nil]; omega) (by decide) qe.size (Nat.le_refl _) (by decide) ?_; intro v1 w1 own1 grw1 at1; have b1 := Kd.own_step qe (Kd.own_empty (d := kVote) (e := 28) (B := w.heap.size) (Nat.le_refl _)) grw1; rw [List.nil_append] at own1)
    go_ret
    refine ⟨⟨v1, rfl, own1, ?_⟩, b1⟩
    constructor
    · rintro rfl
      rcases at1 with h | h <;> simp [Value.ownBlock] at h
    · intro h; cases h
end Go.Proofs.Ytglneailkgminaa
/- Package light: copied, New. No claim of its own; no condition. -/
namespace Go.Proofs.Ytglneailkgminaa
open Go.ChangeShapes Go.WideShapes Go.ChangeAt Go.RowKit
set_option linter.unusedVariables false
set_option linter.unusedSimpArgs false
theorem res4 {X : World} {g : Nat} {a b c d p q r s : Value} {t : TypeId} (h : X.heap[g]? = some (.cells #[a, b, c, d] t (0, 0))) :
    ((((X.setCell ⟨g, 0, none⟩ p).setCell ⟨g, 1, none⟩ q).setCell ⟨g, 2, none⟩ r).setCell ⟨g, 3, none⟩ s).heap[g]? = some (.cells #[p, q, r, s] t (0, 0)) := by
  have h1 := block_set (i := 0) (u := p) h
  have h2 := block_set (i := 1) (u := q) h1
  have h3 := block_set (i := 2) (u := r) h2
  have h4 := block_set (i := 3) (u := s) h3
  exact h4
theorem keep4 {B : Nat} {E : List TypeId} {X : World} {g : Nat} {a b c d p q r s : Value} {t : TypeId} (h : X.heap[g]? = some (.cells #[a, b, c, d] t (0, 0))) (hB : B ≤ g) (ht : t ∉ E) :
    Keeps B E X ((((X.setCell ⟨g, 0, none⟩ p).setCell ⟨g, 1, none⟩ q).setCell ⟨g, 2, none⟩ r).setCell ⟨g, 3, none⟩ s) := by
  have h1 := block_set (i := 0) (u := p) h
  have h2 := block_set (i := 1) (u := q) h1
  have h3 := block_set (i := 2) (u := r) h2
  exact Keeps.trans (Keeps.trans (Keeps.trans (Keeps.set (p := ⟨g, 0, none⟩) h hB ht p) (Keeps.set (p := ⟨g, 1, none⟩) h1 hB ht q)) (Keeps.set (p := ⟨g, 2, none⟩) h2 hB ht r)) (Keeps.set (p := ⟨g, 3, none⟩) h3 hB ht s)
theorem row_up {B M : Nat} {w : World} {A : Option Addr} {l : List Vote} (hB : B ≤ M) (h : kVote.Row 28 B w A l) : kVote.Row 28 M w A l := by
  intro hne
  obtain ⟨ad, rfl, hb, hx⟩ := h hne
  exact ⟨ad, rfl, ⟨hb.1, hb.2.imp (fun k => Nat.lt_of_lt_of_le k hB) id⟩, hx⟩
set_option maxHeartbeats 1600000 in
set_option maxRecDepth 100000 in
theorem copied_calls (m : Mark) (l : List Vote) (A : Option Addr) (n c : Nat) (w : World) (B : Nat) (hn : n = l.length) (hl : l.length ≤ 2097152) (hr : kVote.Row 28 B w A l) :
    Calls Try.prog 58 #[.agg #[.int .i64 m.view, .int .i64 m.height, .string m.block, .slice A n c]] w fun e w' => (∃ A5 c5, e = .returned (.agg #[.int .i64 m.view, .int .i64 m.height, .string m.block, .slice A5 l.length c5]) ∧ l.length ≤ c5 ∧ c5 ≤ maxLen ∧ kVote.Row 28 0 w' A5 l) ∧ Below w.heap.size w w' := by
  have q0 := bl_alloc (bl_alloc (Below.refl w.heap.size w) (.cells #[.int .i64 m.view, .int .i64 m.height, .string m.block, .slice A n c] 35)) (.cells #[.int .i64 0, .int .i64 0, .string ⟨#[]⟩, .slice none 0 0] 35)
  have a0 := alloc_old (alloc_new w (.cells #[.int .i64 m.view, .int .i64 m.height, .string m.block, .slice A n c] 35)) (.cells #[.int .i64 0, .int .i64 0, .string ⟨#[]⟩, .slice none 0 0] 35)
  have a1 : ((w.alloc (.cells #[.int .i64 m.view, .int .i64 m.height, .string m.block, .slice A n c] 35)).alloc (.cells #[.int .i64 0, .int .i64 0, .string ⟨#[]⟩, .slice none 0 0] 35)).heap[w.heap.size + 1]? = some (.cells #[.int .i64 0, .int .i64 0, .string ⟨#[]⟩, .slice none 0 0] 35 (0, 0)) := by
    have := alloc_new (w.alloc (.cells #[.int .i64 m.view, .int .i64 m.height, .string m.block, .slice A n c] 35)) (.cells #[.int .i64 0, .int .i64 0, .string ⟨#[]⟩, .slice none 0 0] 35)
    rwa [World.size_alloc] at this
  have hrq := Kd.row_below q0 hr
  have hcl := clonev_calls l A n c _ B hn hl hrq
  have HCL := Lib.hid hcl
  clear hcl hrq hr hn
  go_enter Try.func58, Try.ntmps58
  go_upto_region 1 with fail
  obtain ⟨G, hG⟩ : ∃ G, w.heap.size = G := ⟨_, rfl⟩
  generalize (w.alloc (.cells #[.int .i64 m.view, .int .i64 m.height, .string m.block, .slice A n c] 35)).alloc (.cells #[.int .i64 0, .int .i64 0, .string ⟨#[]⟩, .slice none 0 0] 35) = V at *
  simp only [hG] at a0 a1 ⊢
  have hGV : G ≤ V.heap.size := by have := blk_lt a0; omega
  have r0 := block_cell a0 (i := 0) rfl
  have r1 := block_cell a0 (i := 1) rfl
  have r2 := block_cell a0 (i := 2) rfl
  have r3 := block_cell a0 (i := 3) rfl
  go_upto_region 2 with (go_at_call 91; refine (HCL.out).mono ?_; rintro x w1 ⟨⟨v1, rfl, own1, _⟩, b1⟩; obtain ⟨A5, c5, rfl, l5, m5, r5, _⟩ := Kd.own_row (Kd.own_flat (B' := 0) vflat_kVote own1 (Nat.zero_le _)); have g1 := block_below b1 a0; have z3 := block_cell g1 (i := 3) rfl; have f3 : w1.frozen? ⟨G, 3, none⟩ = false := block_free g1)
  have leG : w.heap.size ≤ G := by omega
  have g2 : (w1.setCell ⟨G, 3, none⟩ (.slice A5 l.length c5)).heap[G]? = some (.cells #[.int .i64 m.view, .int .i64 m.height, .string m.block, .slice A5 l.length c5] 35 (0, 0)) := block_set (i := 3) (u := .slice A5 l.length c5) g1
  have h2 := Below.heap_setCell w1 ⟨G, 3, none⟩ (.slice A5 l.length c5) (G + 1) (show G + 1 ≠ G by omega)
  rw [block_below b1 a1] at h2
  have bel := bl_set (bl_trans q0 b1) leG (p := ⟨G, 3, none⟩) (.slice A5 l.length c5)
  have row2 := Kd.row_keep (Keeps.set (E := [28]) (p := ⟨G, 3, none⟩) g1 (Nat.zero_le G) (by decide) (.slice A5 l.length c5)) r5
  clear r0 r1 r2 r3 z3 f3
  generalize w1.setCell ⟨G, 3, none⟩ (.slice A5 l.length c5) = W2 at *
  have y0 := block_cell g2 (i := 0) rfl
  have y1 := block_cell g2 (i := 1) rfl
  have y2 := block_cell g2 (i := 2) rfl
  have y3 := block_cell g2 (i := 3) rfl
  have f0 : W2.frozen? ⟨G + 1, 0, none⟩ = false := block_free h2
  have f1 : W2.frozen? ⟨G + 1, 1, none⟩ = false := block_free h2
  have f2 : W2.frozen? ⟨G + 1, 2, none⟩ = false := block_free h2
  have f3 : W2.frozen? ⟨G + 1, 3, none⟩ = false := block_free h2
  have x0 := block_cell h2 (i := 0) rfl
  have x1 := block_cell h2 (i := 1) rfl
  have x2 := block_cell h2 (i := 2) rfl
  have x3 := block_cell h2 (i := 3) rfl
  go_wp2_with fail
  have R := res4 (p := .int .i64 m.view) (q := .int .i64 m.height) (r := .string m.block) (s := .slice A5 l.length c5) h2
  have le1 : w.heap.size ≤ G + 1 := by omega
  have bz := bl_set (bl_set (bl_set (bl_set bel (p := ⟨G + 1, 0, none⟩) le1 (.int .i64 m.view)) (p := ⟨G + 1, 1, none⟩) le1 (.int .i64 m.height)) (p := ⟨G + 1, 2, none⟩) le1 (.string m.block)) (p := ⟨G + 1, 3, none⟩) le1 (.slice A5 l.length c5)
  have rz := Kd.row_keep (keep4 (E := [28]) (p := .int .i64 m.view) (q := .int .i64 m.height) (r := .string m.block) (s := .slice A5 l.length c5) h2 (Nat.zero_le _) (by decide)) row2
  generalize (((W2.setCell ⟨G + 1, 0, none⟩ (.int .i64 m.view)).setCell ⟨G + 1, 1, none⟩ (.int .i64 m.height)).setCell ⟨G + 1, 2, none⟩ (.string m.block)).setCell ⟨G + 1, 3, none⟩ (.slice A5 l.length c5) = Wf at *
  have z0 := block_cell R (i := 0) rfl
  have z1 := block_cell R (i := 1) rfl
  have z2 := block_cell R (i := 2) rfl
  have z3 := block_cell R (i := 3) rfl
  refine bodyPost_ret (v := .agg #[.int .i64 m.view, .int .i64 m.height, .string m.block, .slice A5 l.length c5]) (by simp [results, Try.results58, go_sem, z0, z1, z2, z3]) rfl ?_
  exact ⟨⟨A5, c5, rfl, l5, m5, rz⟩, bz⟩
end Go.Proofs.Ytglneailkgminaa
/- Packages light, mootlaw36: Agrees, New, alive. No claim of its own; no condition. -/
namespace Go.Proofs.Ytglneailkgminaa
open Go.ChangeShapes Go.WideShapes Go.ChangeAt Go.RowKit
set_option linter.unusedVariables false
set_option linter.unusedSimpArgs false
def agreesF (h : Int) (b : ByteArray) (ns : List ByteArray) : Bool :=
  if h < 1 then true else if h > (ns.length : Int) then true else match ns[(h - 1).toNat]? with
  | some s => s.toList == b.toList
  | none => true
set_option maxHeartbeats 1600000 in
set_option maxRecDepth 100000 in
theorem agrees_calls (m : Mark) (A : Option Addr) (n c : Nat) (t : Int) (ns : List ByteArray) (An : Option Addr) (nn cn B : Nat) (w : World) (hnn : nn = ns.length) (hl : ns.length ≤ 1048576) (hr : Kd.str.Row 9 B w An ns) :
    Calls Try.prog 30 #[.agg #[.int .i64 m.view, .int .i64 m.height, .string m.block, .slice A n c, .int .i64 t], .slice An nn cn] w fun e w' => e = .returned (.bool (agreesF m.height m.block ns)) ∧ Below w.heap.size w w' := by
  have q0 := bl_alloc (Below.refl w.heap.size w) (.cells #[.int .i64 m.view, .int .i64 m.height, .string m.block, .slice A n c, .int .i64 t] 55)
  have a0 := alloc_new w (.cells #[.int .i64 m.view, .int .i64 m.height, .string m.block, .slice A n c, .int .i64 t] 55)
  have hrq := Kd.row_below q0 hr
  subst hnn
  by_cases h1 : m.height < 1
  · have e1 : agreesF m.height m.block ns = true := by unfold agreesF; rw [if_pos h1]
    rw [e1]
    clear e1 hrq hr
    go_enter Try.func30, Try.ntmps30
    go_upto_region 1 with fail
    generalize w.alloc (.cells #[.int .i64 m.view, .int .i64 m.height, .string m.block, .slice A n c, .int .i64 t] 55) = W at *
    have r1 := block_cell a0 (i := 1) rfl
    go_upto_region 2 with fail
    go_quiet (fail)
    go_wp2_with fail
    go_ret
    exact ⟨rfl, bl_drewN q0 _⟩
  · by_cases h2 : m.height > (ns.length : Int)
    · have e1 : agreesF m.height m.block ns = true := by unfold agreesF; rw [if_neg h1, if_pos h2]
      rw [e1]
      clear e1 hrq hr
      go_enter Try.func30, Try.ntmps30
      go_upto_region 1 with fail
      generalize w.alloc (.cells #[.int .i64 m.view, .int .i64 m.height, .string m.block, .slice A n c, .int .i64 t] 55) = W at *
      have r1 := block_cell a0 (i := 1) rfl
      go_upto_region 2 with fail
      go_quiet (fail)
      go_wp2_with fail
      go_ret
      exact ⟨rfl, bl_drewN q0 _⟩
    · obtain ⟨k, hk⟩ : ∃ k : Nat, m.height = (k : Int) + 1 := ⟨(m.height - 1).toNat, by omega⟩
      have hkl : k < ns.length := by omega
      obtain ⟨x, hx⟩ : ∃ x, ns[k]? = some x := ⟨_, List.getElem?_eq_getElem hkl⟩
      obtain ⟨ad, rfl, c0⟩ := str_at hrq hx
      obtain ⟨q, hq⟩ : ∃ q, (x.toList == m.block.toList) = q := ⟨_, rfl⟩
      have e1 : agreesF m.height m.block ns = q := by
        unfold agreesF
        rw [if_neg h1, if_neg h2, hk, show ((k : Int) + 1 - 1).toNat = k by omega, hx]
        exact hq
      rw [e1]
      have hi1 : IntKind.i64.wrap ((k : Int) + 1 - 1) = (k : Int) := by rw [show (k : Int) + 1 - 1 = (k : Int) by omega]; exact IntWalk.i64_in _ (by omega)
      have hk1 : ¬ ((k : Int) + 1 < 1) := by omega
      have hk2 : ¬ ((k : Int) + 1 > (ns.length : Int)) := by omega
      have hk0 : (0 : Int) ≤ (k : Int) := by omega
      obtain ⟨mv, mh, mb⟩ := m
      dsimp only at *
      subst hk
      clear e1 hrq hr h1 h2 hx
      go_enter Try.func30, Try.ntmps30
      go_upto_region 1 with fail
      generalize w.alloc (.cells #[.int .i64 mv, .int .i64 ((k : Int) + 1), .string mb, .slice A n c, .int .i64 t] 55) = W at *
      have r1 := block_cell a0 (i := 1) rfl
      have r2 := block_cell a0 (i := 2) rfl
      go_upto_region 2 with fail
      go_quiet (fail)
      go_wp2_with fail
      go_ret
      exact ⟨rfl, bl_drewN q0 _⟩
theorem res5 {X : World} {g : Nat} {a b c d e p q r s u : Value} {t : TypeId} (h : X.heap[g]? = some (.cells #[a, b, c, d, e] t (0, 0))) :
    (((((X.setCell ⟨g, 0, none⟩ p).setCell ⟨g, 1, none⟩ q).setCell ⟨g, 2, none⟩ r).setCell ⟨g, 3, none⟩ s).setCell ⟨g, 4, none⟩ u).heap[g]? = some (.cells #[p, q, r, s, u] t (0, 0)) := by
  have h1 := block_set (i := 0) (u := p) h
  have h2 := block_set (i := 1) (u := q) h1
  have h3 := block_set (i := 2) (u := r) h2
  have h4 := block_set (i := 3) (u := s) h3
  have h5 := block_set (i := 4) (u := u) h4
  exact h5
theorem bel5 {W X : World} {g : Nat} {p q r s u : Value} (h : Below W.heap.size W X) (le : W.heap.size ≤ g) : Below W.heap.size W (((((X.setCell ⟨g, 0, none⟩ p).setCell ⟨g, 1, none⟩ q).setCell ⟨g, 2, none⟩ r).setCell ⟨g, 3, none⟩ s).setCell ⟨g, 4, none⟩ u) :=
  bl_set (bl_set (bl_set (bl_set (bl_set h (p := ⟨g, 0, none⟩) le _) (p := ⟨g, 1, none⟩) le _) (p := ⟨g, 2, none⟩) le _) (p := ⟨g, 3, none⟩) le _) (p := ⟨g, 4, none⟩) le _
theorem keep5 {B : Nat} {E : List TypeId} {X : World} {g : Nat} {a b c d e p q r s u : Value} {t : TypeId} (h : X.heap[g]? = some (.cells #[a, b, c, d, e] t (0, 0))) (hB : B ≤ g) (ht : t ∉ E) :
    Keeps B E X (((((X.setCell ⟨g, 0, none⟩ p).setCell ⟨g, 1, none⟩ q).setCell ⟨g, 2, none⟩ r).setCell ⟨g, 3, none⟩ s).setCell ⟨g, 4, none⟩ u) := by
  have h1 := block_set (i := 0) (u := p) h
  have h2 := block_set (i := 1) (u := q) h1
  have h3 := block_set (i := 2) (u := r) h2
  have h4 := block_set (i := 3) (u := s) h3
  exact Keeps.trans (Keeps.trans (Keeps.trans (Keeps.trans (Keeps.set (p := ⟨g, 0, none⟩) h hB ht p) (Keeps.set (p := ⟨g, 1, none⟩) h1 hB ht q)) (Keeps.set (p := ⟨g, 2, none⟩) h2 hB ht r)) (Keeps.set (p := ⟨g, 3, none⟩) h3 hB ht s)) (Keeps.set (p := ⟨g, 4, none⟩) h4 hB ht u)
theorem light_new (fb : ByteArray) (hf : ∀ W, Calls Try.prog 44 #[] W fun e w' => e = .returned (.agg #[.int .i64 0, .int .i64 0, .string fb, .slice none 0 0]) ∧ Below W.heap.size W w') (w : World) :
    Calls Try.prog 32 #[] w fun e w' => e = .returned (.agg #[.int .i64 0, .int .i64 0, .string fb, .slice none 0 0, .int .i64 0]) ∧ Below w.heap.size w w' := by
  have q0 := bl_alloc (Below.refl w.heap.size w) (.cells #[.int .i64 0, .int .i64 0, .string ⟨#[]⟩, .slice none 0 0, .int .i64 0] 55)
  have a0 := alloc_new w (.cells #[.int .i64 0, .int .i64 0, .string ⟨#[]⟩, .slice none 0 0, .int .i64 0] 55)
  obtain ⟨G, hG⟩ : ∃ G, w.heap.size = G := ⟨_, rfl⟩
  go_enter Try.func32, Try.ntmps32
  go_upto_region 1 with fail
  generalize w.alloc (.cells #[.int .i64 0, .int .i64 0, .string ⟨#[]⟩, .slice none 0 0, .int .i64 0] 55) = V at *
  simp only [hG] at a0 ⊢
  go_wp2_with (go_at_call 44; refine (hf _).mono ?_; rintro x w1 ⟨rfl, b1⟩; have hR := block_below b1 a0; have r0 := block_cell hR (i := 0) rfl; have r1 := block_cell hR (i := 1) rfl; have r2 := block_cell hR (i := 2) rfl; have r3 := block_cell hR (i := 3) rfl; have r4 := block_cell hR (i := 4) rfl; have f0 : w1.frozen? ⟨G, 0, none⟩ = false := block_free hR; have f1 : w1.frozen? ⟨G, 1, none⟩ = false := block_free hR; have f2 : w1.frozen? ⟨G, 2, none⟩ = false := block_free hR; have f3 : w1.frozen? ⟨G, 3, none⟩ = false := block_free hR; have f4 : w1.frozen? ⟨G, 4, none⟩ = false := block_free hR)
  have R := res5 (p := .int .i64 0) (q := .int .i64 0) (r := .string fb) (s := .slice none 0 0) (u := .int .i64 0) hR
  have bz := bel5 (p := .int .i64 0) (q := .int .i64 0) (r := .string fb) (s := .slice none 0 0) (u := .int .i64 0) (bl_trans q0 b1) (show w.heap.size ≤ G by omega)
  generalize ((((w1.setCell ⟨G, 0, none⟩ (.int .i64 0)).setCell ⟨G, 1, none⟩ (.int .i64 0)).setCell ⟨G, 2, none⟩ (.string fb)).setCell ⟨G, 3, none⟩ (.slice none 0 0)).setCell ⟨G, 4, none⟩ (.int .i64 0) = Wf at *
  have z0 := block_cell R (i := 0) rfl
  have z1 := block_cell R (i := 1) rfl
  have z2 := block_cell R (i := 2) rfl
  have z3 := block_cell R (i := 3) rfl
  have z4 := block_cell R (i := 4) rfl
  refine bodyPost_ret (v := .agg #[.int .i64 0, .int .i64 0, .string fb, .slice none 0 0, .int .i64 0]) (by simp [results, Try.results32, go_sem, z0, z1, z2, z3, z4]) rfl ?_
  exact ⟨rfl, bz⟩
theorem agrees_low (fb : ByteArray) (An : Option Addr) (nn cn : Nat) (w : World) :
    Calls Try.prog 30 #[.agg #[.int .i64 0, .int .i64 0, .string fb, .slice none 0 0, .int .i64 0], .slice An nn cn] w fun e w' => e = .returned (.bool true) ∧ Below w.heap.size w w' := by
  have q0 := bl_alloc (Below.refl w.heap.size w) (.cells #[.int .i64 0, .int .i64 0, .string fb, .slice none 0 0, .int .i64 0] 55)
  have a0 := alloc_new w (.cells #[.int .i64 0, .int .i64 0, .string fb, .slice none 0 0, .int .i64 0] 55)
  go_enter Try.func30, Try.ntmps30
  go_upto_region 1 with fail
  generalize w.alloc (.cells #[.int .i64 0, .int .i64 0, .string fb, .slice none 0 0, .int .i64 0] 55) = W at *
  have r1 := block_cell a0 (i := 1) rfl
  go_upto_region 2 with fail
  go_quiet (fail)
  go_wp2_with fail
  go_ret
  exact ⟨rfl, bl_drewN q0 _⟩
theorem run_head (a b : Int) (fb : ByteArray) (A : Option Addr) (n c : Nat) (t : Int) (w : World) :
    (Instr.field 55 (.agg #[.int .i64 a, .int .i64 b, .string fb, .slice A n c, .int .i64 t]) 0).run Try.prog w = .ok (.agg #[.int .i64 a, .int .i64 b, .string fb, .slice A n c]) w := by
  simp [Instr.field, Try.underlying55, go_sem, asAgg]
theorem run_blk35 (a b : Int) (fb : ByteArray) (A : Option Addr) (n c : Nat) (w : World) :
    (Instr.field 35 (.agg #[.int .i64 a, .int .i64 b, .string fb, .slice A n c]) 2).run Try.prog w = .ok (.string fb) w := by
  simp [Instr.field, Try.underlying35, go_sem, asAgg]
set_option maxHeartbeats 1600000 in
set_option maxRecDepth 100000 in
theorem alive36_at (fb : ByteArray) (hz : fb.size = 32) (hf : ∀ W, Calls Try.prog 44 #[] W fun e w' => e = .returned (.agg #[.int .i64 0, .int .i64 0, .string fb, .slice none 0 0]) ∧ Below W.heap.size W w') (w : World) :
    Calls Try.prog 31 #[] w fun e w' => e = .returned (.bool true) ∧ Below w.heap.size w w' := by
  have hn := fun W => light_new fb hf W
  have HN := Lib.hid hn
  have HZ := Lib.hid hz
  have hfl := fun W => run_head 0 0 fb none 0 0 0 W
  have hbl := fun W => run_blk35 0 0 fb none 0 0 W
  have bel := Below.refl w.heap.size w
  have hsz : ((fb.size : Int) == 32) = true := by rw [hz]; rfl
  clear hn hf hz
  go_enter Try.func31, Try.ntmps31
  go_wp2_with (first
    | (go_at_call 32; refine (HN.out _).mono ?_; rintro x w1 ⟨rfl, b1⟩; have bel := bl_trans bel b1)
    | (go_at_call 30; refine (agrees_low fb _ _ _ _).mono ?_; rintro x w2 ⟨rfl, b2⟩; have bel := bl_trans (bl_alloc bel _) b2))
  go_ret
  exact ⟨rfl, bel⟩
end Go.Proofs.Ytglneailkgminaa
