/- Package light: copied, New. No claim of its own; no condition. -/
import Derived.Test.YtglneailkgminaaLigC
import Derived.Test.YtglneailkgminaaPutN
namespace Go.Proofs.Ytglneailkgminaa
open Go.ChangeShapes Go.WideShapes Go.ChangeAt Go.RowKit
set_option linter.unusedVariables false
set_option linter.unusedSimpArgs false
theorem res4 {X : World} {g : Nat} {a b c d p q r s : Value} {t : TypeId} (h : X.heap[g]? = some (.cells #[a, b, c, d] t (0, 0))) :
    ((((X.setCell ⟨g, 0, none⟩ p).setCell ⟨g, 1, none⟩ q).setCell ⟨g, 2, none⟩ r).setCell ⟨g, 3, none⟩ s).heap[g]? = some (.cells #[p, q, r, s] t (0, 0)) := by
  have h1 := block_set (i := 0) (u := p) h
  have h2 := block_set (i := 1) (u := q) h1
  have h3 := block_set (i := 2) (u := r) h2
  have h4 := block_set (i := 3) (u := s) h3
  exact h4
theorem keep4 {B : Nat} {E : List TypeId} {X : World} {g : Nat} {a b c d p q r s : Value} {t : TypeId} (h : X.heap[g]? = some (.cells #[a, b, c, d] t (0, 0))) (hB : B ≤ g) (ht : t ∉ E) :
    Keeps B E X ((((X.setCell ⟨g, 0, none⟩ p).setCell ⟨g, 1, none⟩ q).setCell ⟨g, 2, none⟩ r).setCell ⟨g, 3, none⟩ s) := by
  have h1 := block_set (i := 0) (u := p) h
  have h2 := block_set (i := 1) (u := q) h1
  have h3 := block_set (i := 2) (u := r) h2
  exact Keeps.trans (Keeps.trans (Keeps.trans (Keeps.set (p := ⟨g, 0, none⟩) h hB ht p) (Keeps.set (p := ⟨g, 1, none⟩) h1 hB ht q)) (Keeps.set (p := ⟨g, 2, none⟩) h2 hB ht r)) (Keeps.set (p := ⟨g, 3, none⟩) h3 hB ht s)
theorem row_up {B M : Nat} {w : World} {A : Option Addr} {l : List Vote} (hB : B ≤ M) (h : kVote.Row 28 B w A l) : kVote.Row 28 M w A l := by
  intro hne
  obtain ⟨ad, rfl, hb, hx⟩ := h hne
  exact ⟨ad, rfl, ⟨hb.1, hb.2.imp (fun k => Nat.lt_of_lt_of_le k hB) id⟩, hx⟩
set_option maxHeartbeats 1600000 in
set_option maxRecDepth 100000 in
theorem copied_calls (m : Mark) (l : List Vote) (A : Option Addr) (n c : Nat) (w : World) (B : Nat) (hn : n = l.length) (hl : l.length ≤ 2097152) (hr : kVote.Row 28 B w A l) :
    Calls Try.prog 58 #[.agg #[.int .i64 m.view, .int .i64 m.height, .string m.block, .slice A n c]] w fun e w' => (∃ A5 c5, e = .returned (.agg #[.int .i64 m.view, .int .i64 m.height, .string m.block, .slice A5 l.length c5]) ∧ l.length ≤ c5 ∧ c5 ≤ maxLen ∧ kVote.Row 28 0 w' A5 l) ∧ Below w.heap.size w w' := by
  have q0 := bl_alloc (bl_alloc (Below.refl w.heap.size w) (.cells #[.int .i64 m.view, .int .i64 m.height, .string m.block, .slice A n c] 35)) (.cells #[.int .i64 0, .int .i64 0, .string ⟨#[]⟩, .slice none 0 0] 35)
  have a0 := alloc_old (alloc_new w (.cells #[.int .i64 m.view, .int .i64 m.height, .string m.block, .slice A n c] 35)) (.cells #[.int .i64 0, .int .i64 0, .string ⟨#[]⟩, .slice none 0 0] 35)
  have a1 : ((w.alloc (.cells #[.int .i64 m.view, .int .i64 m.height, .string m.block, .slice A n c] 35)).alloc (.cells #[.int .i64 0, .int .i64 0, .string ⟨#[]⟩, .slice none 0 0] 35)).heap[w.heap.size + 1]? = some (.cells #[.int .i64 0, .int .i64 0, .string ⟨#[]⟩, .slice none 0 0] 35 (0, 0)) := by
    have := alloc_new (w.alloc (.cells #[.int .i64 m.view, .int .i64 m.height, .string m.block, .slice A n c] 35)) (.cells #[.int .i64 0, .int .i64 0, .string ⟨#[]⟩, .slice none 0 0] 35)
    rwa [World.size_alloc] at this
  have hrq := Kd.row_below q0 hr
  have hcl := clonev_calls l A n c _ B hn hl hrq
  have HCL := Lib.hid hcl
  clear hcl hrq hr hn
  go_enter Try.func58, Try.ntmps58
  go_upto_region 1 with fail
  obtain ⟨G, hG⟩ : ∃ G, w.heap.size = G := ⟨_, rfl⟩
  generalize (w.alloc (.cells #[.int .i64 m.view, .int .i64 m.height, .string m.block, .slice A n c] 35)).alloc (.cells #[.int .i64 0, .int .i64 0, .string ⟨#[]⟩, .slice none 0 0] 35) = V at *
  simp only [hG] at a0 a1 ⊢
  have hGV : G ≤ V.heap.size := by have := blk_lt a0; omega
  have r0 := block_cell a0 (i := 0) rfl
  have r1 := block_cell a0 (i := 1) rfl
  have r2 := block_cell a0 (i := 2) rfl
  have r3 := block_cell a0 (i := 3) rfl
  go_upto_region 2 with (go_at_call 91; refine (HCL.out).mono ?_; rintro x w1 ⟨⟨v1, rfl, own1, _⟩, b1⟩; obtain ⟨A5, c5, rfl, l5, m5, r5, _⟩ := Kd.own_row (Kd.own_flat (B' := 0) vflat_kVote own1 (Nat.zero_le _)); have g1 := block_below b1 a0; have z3 := block_cell g1 (i := 3) rfl; have f3 : w1.frozen? ⟨G, 3, none⟩ = false := block_free g1)
  have leG : w.heap.size ≤ G := by omega
  have g2 : (w1.setCell ⟨G, 3, none⟩ (.slice A5 l.length c5)).heap[G]? = some (.cells #[.int .i64 m.view, .int .i64 m.height, .string m.block, .slice A5 l.length c5] 35 (0, 0)) := block_set (i := 3) (u := .slice A5 l.length c5) g1
  have h2 := Below.heap_setCell w1 ⟨G, 3, none⟩ (.slice A5 l.length c5) (G + 1) (show G + 1 ≠ G by omega)
  rw [block_below b1 a1] at h2
  have bel := bl_set (bl_trans q0 b1) leG (p := ⟨G, 3, none⟩) (.slice A5 l.length c5)
  have row2 := Kd.row_keep (Keeps.set (E := [28]) (p := ⟨G, 3, none⟩) g1 (Nat.zero_le G) (by decide) (.slice A5 l.length c5)) r5
  clear r0 r1 r2 r3 z3 f3
  generalize w1.setCell ⟨G, 3, none⟩ (.slice A5 l.length c5) = W2 at *
  have y0 := block_cell g2 (i := 0) rfl
  have y1 := block_cell g2 (i := 1) rfl
  have y2 := block_cell g2 (i := 2) rfl
  have y3 := block_cell g2 (i := 3) rfl
  have f0 : W2.frozen? ⟨G + 1, 0, none⟩ = false := block_free h2
  have f1 : W2.frozen? ⟨G + 1, 1, none⟩ = false := block_free h2
  have f2 : W2.frozen? ⟨G + 1, 2, none⟩ = false := block_free h2
  have f3 : W2.frozen? ⟨G + 1, 3, none⟩ = false := block_free h2
  have x0 := block_cell h2 (i := 0) rfl
  have x1 := block_cell h2 (i := 1) rfl
  have x2 := block_cell h2 (i := 2) rfl
  have x3 := block_cell h2 (i := 3) rfl
  go_wp2_with fail
  have R := res4 (p := .int .i64 m.view) (q := .int .i64 m.height) (r := .string m.block) (s := .slice A5 l.length c5) h2
  have le1 : w.heap.size ≤ G + 1 := by omega
  have bz := bl_set (bl_set (bl_set (bl_set bel (p := ⟨G + 1, 0, none⟩) le1 (.int .i64 m.view)) (p := ⟨G + 1, 1, none⟩) le1 (.int .i64 m.height)) (p := ⟨G + 1, 2, none⟩) le1 (.string m.block)) (p := ⟨G + 1, 3, none⟩) le1 (.slice A5 l.length c5)
  have rz := Kd.row_keep (keep4 (E := [28]) (p := .int .i64 m.view) (q := .int .i64 m.height) (r := .string m.block) (s := .slice A5 l.length c5) h2 (Nat.zero_le _) (by decide)) row2
  generalize (((W2.setCell ⟨G + 1, 0, none⟩ (.int .i64 m.view)).setCell ⟨G + 1, 1, none⟩ (.int .i64 m.height)).setCell ⟨G + 1, 2, none⟩ (.string m.block)).setCell ⟨G + 1, 3, none⟩ (.slice A5 l.length c5) = Wf at *
  have z0 := block_cell R (i := 0) rfl
  have z1 := block_cell R (i := 1) rfl
  have z2 := block_cell R (i := 2) rfl
  have z3 := block_cell R (i := 3) rfl
  refine bodyPost_ret (v := .agg #[.int .i64 m.view, .int .i64 m.height, .string m.block, .slice A5 l.length c5]) (by simp [results, Try.results58, go_sem, z0, z1, z2, z3]) rfl ?_
  exact ⟨⟨A5, c5, rfl, l5, m5, rz⟩, bz⟩
end Go.Proofs.Ytglneailkgminaa
