/- Packages light, mootlaw36: Agrees, New, alive. No claim of its own; no condition. -/
import Derived.Test.YtglneailkgminaaLigD
import Derived.Test.YtglneailkgminaaWotF
namespace Go.Proofs.Ytglneailkgminaa
open Go.ChangeShapes Go.WideShapes Go.ChangeAt Go.RowKit
set_option linter.unusedVariables false
set_option linter.unusedSimpArgs false
def agreesF (h : Int) (b : ByteArray) (ns : List ByteArray) : Bool :=
  if h < 1 then true else if h > (ns.length : Int) then true else match ns[(h - 1).toNat]? with
  | some s => s.toList == b.toList
  | none => true
set_option maxHeartbeats 1600000 in
set_option maxRecDepth 100000 in
theorem agrees_calls (m : Mark) (A : Option Addr) (n c : Nat) (t : Int) (ns : List ByteArray) (An : Option Addr) (nn cn B : Nat) (w : World) (hnn : nn = ns.length) (hl : ns.length ≤ 1048576) (hr : Kd.str.Row 9 B w An ns) :
    Calls Try.prog 30 #[.agg #[.int .i64 m.view, .int .i64 m.height, .string m.block, .slice A n c, .int .i64 t], .slice An nn cn] w fun e w' => e = .returned (.bool (agreesF m.height m.block ns)) ∧ Below w.heap.size w w' := by
  have q0 := bl_alloc (Below.refl w.heap.size w) (.cells #[.int .i64 m.view, .int .i64 m.height, .string m.block, .slice A n c, .int .i64 t] 55)
  have a0 := alloc_new w (.cells #[.int .i64 m.view, .int .i64 m.height, .string m.block, .slice A n c, .int .i64 t] 55)
  have hrq := Kd.row_below q0 hr
  subst hnn
  by_cases h1 : m.height < 1
  · have e1 : agreesF m.height m.block ns = true := by unfold agreesF; rw [if_pos h1]
    rw [e1]
    clear e1 hrq hr
    go_enter Try.func30, Try.ntmps30
    go_upto_region 1 with fail
    generalize w.alloc (.cells #[.int .i64 m.view, .int .i64 m.height, .string m.block, .slice A n c, .int .i64 t] 55) = W at *
    have r1 := block_cell a0 (i := 1) rfl
    go_upto_region 2 with fail
    go_quiet (fail)
    go_wp2_with fail
    go_ret
    exact ⟨rfl, bl_drewN q0 _⟩
  · by_cases h2 : m.height > (ns.length : Int)
    · have e1 : agreesF m.height m.block ns = true := by unfold agreesF; rw [if_neg h1, if_pos h2]
      rw [e1]
      clear e1 hrq hr
      go_enter Try.func30, Try.ntmps30
      go_upto_region 1 with fail
      generalize w.alloc (.cells #[.int .i64 m.view, .int .i64 m.height, .string m.block, .slice A n c, .int .i64 t] 55) = W at *
      have r1 := block_cell a0 (i := 1) rfl
      go_upto_region 2 with fail
      go_quiet (fail)
      go_wp2_with fail
      go_ret
      exact ⟨rfl, bl_drewN q0 _⟩
    · obtain ⟨k, hk⟩ : ∃ k : Nat, m.height = (k : Int) + 1 := ⟨(m.height - 1).toNat, by omega⟩
      have hkl : k < ns.length := by omega
      obtain ⟨x, hx⟩ : ∃ x, ns[k]? = some x := ⟨_, List.getElem?_eq_getElem hkl⟩
      obtain ⟨ad, rfl, c0⟩ := str_at hrq hx
      obtain ⟨q, hq⟩ : ∃ q, (x.toList == m.block.toList) = q := ⟨_, rfl⟩
      have e1 : agreesF m.height m.block ns = q := by
        unfold agreesF
        rw [if_neg h1, if_neg h2, hk, show ((k : Int) + 1 - 1).toNat = k by omega, hx]
        exact hq
      rw [e1]
      have hi1 : IntKind.i64.wrap ((k : Int) + 1 - 1) = (k : Int) := by rw [show (k : Int) + 1 - 1 = (k : Int) by omega]; exact IntWalk.i64_in _ (by omega)
      have hk1 : ¬ ((k : Int) + 1 < 1) := by omega
      have hk2 : ¬ ((k : Int) + 1 > (ns.length : Int)) := by omega
      have hk0 : (0 : Int) ≤ (k : Int) := by omega
      obtain ⟨mv, mh, mb⟩ := m
      dsimp only at *
      subst hk
      clear e1 hrq hr h1 h2 hx
      go_enter Try.func30, Try.ntmps30
      go_upto_region 1 with fail
      generalize w.alloc (.cells #[.int .i64 mv, .int .i64 ((k : Int) + 1), .string mb, .slice A n c, .int .i64 t] 55) = W at *
      have r1 := block_cell a0 (i := 1) rfl
      have r2 := block_cell a0 (i := 2) rfl
      go_upto_region 2 with fail
      go_quiet (fail)
      go_wp2_with fail
      go_ret
      exact ⟨rfl, bl_drewN q0 _⟩
theorem res5 {X : World} {g : Nat} {a b c d e p q r s u : Value} {t : TypeId} (h : X.heap[g]? = some (.cells #[a, b, c, d, e] t (0, 0))) :
    (((((X.setCell ⟨g, 0, none⟩ p).setCell ⟨g, 1, none⟩ q).setCell ⟨g, 2, none⟩ r).setCell ⟨g, 3, none⟩ s).setCell ⟨g, 4, none⟩ u).heap[g]? = some (.cells #[p, q, r, s, u] t (0, 0)) := by
  have h1 := block_set (i := 0) (u := p) h
  have h2 := block_set (i := 1) (u := q) h1
  have h3 := block_set (i := 2) (u := r) h2
  have h4 := block_set (i := 3) (u := s) h3
  have h5 := block_set (i := 4) (u := u) h4
  exact h5
theorem bel5 {W X : World} {g : Nat} {p q r s u : Value} (h : Below W.heap.size W X) (le : W.heap.size ≤ g) : Below W.heap.size W (((((X.setCell ⟨g, 0, none⟩ p).setCell ⟨g, 1, none⟩ q).setCell ⟨g, 2, none⟩ r).setCell ⟨g, 3, none⟩ s).setCell ⟨g, 4, none⟩ u) :=
  bl_set (bl_set (bl_set (bl_set (bl_set h (p := ⟨g, 0, none⟩) le _) (p := ⟨g, 1, none⟩) le _) (p := ⟨g, 2, none⟩) le _) (p := ⟨g, 3, none⟩) le _) (p := ⟨g, 4, none⟩) le _
theorem keep5 {B : Nat} {E : List TypeId} {X : World} {g : Nat} {a b c d e p q r s u : Value} {t : TypeId} (h : X.heap[g]? = some (.cells #[a, b, c, d, e] t (0, 0))) (hB : B ≤ g) (ht : t ∉ E) :
    Keeps B E X (((((X.setCell ⟨g, 0, none⟩ p).setCell ⟨g, 1, none⟩ q).setCell ⟨g, 2, none⟩ r).setCell ⟨g, 3, none⟩ s).setCell ⟨g, 4, none⟩ u) := by
  have h1 := block_set (i := 0) (u := p) h
  have h2 := block_set (i := 1) (u := q) h1
  have h3 := block_set (i := 2) (u := r) h2
  have h4 := block_set (i := 3) (u := s) h3
  exact Keeps.trans (Keeps.trans (Keeps.trans (Keeps.trans (Keeps.set (p := ⟨g, 0, none⟩) h hB ht p) (Keeps.set (p := ⟨g, 1, none⟩) h1 hB ht q)) (Keeps.set (p := ⟨g, 2, none⟩) h2 hB ht r)) (Keeps.set (p := ⟨g, 3, none⟩) h3 hB ht s)) (Keeps.set (p := ⟨g, 4, none⟩) h4 hB ht u)
theorem light_new (fb : ByteArray) (hf : ∀ W, Calls Try.prog 44 #[] W fun e w' => e = .returned (.agg #[.int .i64 0, .int .i64 0, .string fb, .slice none 0 0]) ∧ Below W.heap.size W w') (w : World) :
    Calls Try.prog 32 #[] w fun e w' => e = .returned (.agg #[.int .i64 0, .int .i64 0, .string fb, .slice none 0 0, .int .i64 0]) ∧ Below w.heap.size w w' := by
  have q0 := bl_alloc (Below.refl w.heap.size w) (.cells #[.int .i64 0, .int .i64 0, .string ⟨#[]⟩, .slice none 0 0, .int .i64 0] 55)
  have a0 := alloc_new w (.cells #[.int .i64 0, .int .i64 0, .string ⟨#[]⟩, .slice none 0 0, .int .i64 0] 55)
  obtain ⟨G, hG⟩ : ∃ G, w.heap.size = G := ⟨_, rfl⟩
  go_enter Try.func32, Try.ntmps32
  go_upto_region 1 with fail
  generalize w.alloc (.cells #[.int .i64 0, .int .i64 0, .string ⟨#[]⟩, .slice none 0 0, .int .i64 0] 55) = V at *
  simp only [hG] at a0 ⊢
  go_wp2_with (go_at_call 44; refine (hf _).mono ?_; rintro x w1 ⟨rfl, b1⟩; have hR := block_below b1 a0; have r0 := block_cell hR (i := 0) rfl; have r1 := block_cell hR (i := 1) rfl; have r2 := block_cell hR (i := 2) rfl; have r3 := block_cell hR (i := 3) rfl; have r4 := block_cell hR (i := 4) rfl; have f0 : w1.frozen? ⟨G, 0, none⟩ = false := block_free hR; have f1 : w1.frozen? ⟨G, 1, none⟩ = false := block_free hR; have f2 : w1.frozen? ⟨G, 2, none⟩ = false := block_free hR; have f3 : w1.frozen? ⟨G, 3, none⟩ = false := block_free hR; have f4 : w1.frozen? ⟨G, 4, none⟩ = false := block_free hR)
  have R := res5 (p := .int .i64 0) (q := .int .i64 0) (r := .string fb) (s := .slice none 0 0) (u := .int .i64 0) hR
  have bz := bel5 (p := .int .i64 0) (q := .int .i64 0) (r := .string fb) (s := .slice none 0 0) (u := .int .i64 0) (bl_trans q0 b1) (show w.heap.size ≤ G by omega)
  generalize ((((w1.setCell ⟨G, 0, none⟩ (.int .i64 0)).setCell ⟨G, 1, none⟩ (.int .i64 0)).setCell ⟨G, 2, none⟩ (.string fb)).setCell ⟨G, 3, none⟩ (.slice none 0 0)).setCell ⟨G, 4, none⟩ (.int .i64 0) = Wf at *
  have z0 := block_cell R (i := 0) rfl
  have z1 := block_cell R (i := 1) rfl
  have z2 := block_cell R (i := 2) rfl
  have z3 := block_cell R (i := 3) rfl
  have z4 := block_cell R (i := 4) rfl
  refine bodyPost_ret (v := .agg #[.int .i64 0, .int .i64 0, .string fb, .slice none 0 0, .int .i64 0]) (by simp [results, Try.results32, go_sem, z0, z1, z2, z3, z4]) rfl ?_
  exact ⟨rfl, bz⟩
theorem agrees_low (fb : ByteArray) (An : Option Addr) (nn cn : Nat) (w : World) :
    Calls Try.prog 30 #[.agg #[.int .i64 0, .int .i64 0, .string fb, .slice none 0 0, .int .i64 0], .slice An nn cn] w fun e w' => e = .returned (.bool true) ∧ Below w.heap.size w w' := by
  have q0 := bl_alloc (Below.refl w.heap.size w) (.cells #[.int .i64 0, .int .i64 0, .string fb, .slice none 0 0, .int .i64 0] 55)
  have a0 := alloc_new w (.cells #[.int .i64 0, .int .i64 0, .string fb, .slice none 0 0, .int .i64 0] 55)
  go_enter Try.func30, Try.ntmps30
  go_upto_region 1 with fail
  generalize w.alloc (.cells #[.int .i64 0, .int .i64 0, .string fb, .slice none 0 0, .int .i64 0] 55) = W at *
  have r1 := block_cell a0 (i := 1) rfl
  go_upto_region 2 with fail
  go_quiet (fail)
  go_wp2_with fail
  go_ret
  exact ⟨rfl, bl_drewN q0 _⟩
theorem run_head (a b : Int) (fb : ByteArray) (A : Option Addr) (n c : Nat) (t : Int) (w : World) :
    (Instr.field 55 (.agg #[.int .i64 a, .int .i64 b, .string fb, .slice A n c, .int .i64 t]) 0).run Try.prog w = .ok (.agg #[.int .i64 a, .int .i64 b, .string fb, .slice A n c]) w := by
  simp [Instr.field, Try.underlying55, go_sem, asAgg]
theorem run_blk35 (a b : Int) (fb : ByteArray) (A : Option Addr) (n c : Nat) (w : World) :
    (Instr.field 35 (.agg #[.int .i64 a, .int .i64 b, .string fb, .slice A n c]) 2).run Try.prog w = .ok (.string fb) w := by
  simp [Instr.field, Try.underlying35, go_sem, asAgg]
set_option maxHeartbeats 1600000 in
set_option maxRecDepth 100000 in
theorem alive36_at (fb : ByteArray) (hz : fb.size = 32) (hf : ∀ W, Calls Try.prog 44 #[] W fun e w' => e = .returned (.agg #[.int .i64 0, .int .i64 0, .string fb, .slice none 0 0]) ∧ Below W.heap.size W w') (w : World) :
    Calls Try.prog 31 #[] w fun e w' => e = .returned (.bool true) ∧ Below w.heap.size w w' := by
  have hn := fun W => light_new fb hf W
  have HN := Lib.hid hn
  have HZ := Lib.hid hz
  have hfl := fun W => run_head 0 0 fb none 0 0 0 W
  have hbl := fun W => run_blk35 0 0 fb none 0 0 W
  have bel := Below.refl w.heap.size w
  have hsz : ((fb.size : Int) == 32) = true := by rw [hz]; rfl
  clear hn hf hz
  go_enter Try.func31, Try.ntmps31
  go_wp2_with (first
    | (go_at_call 32; refine (HN.out _).mono ?_; rintro x w1 ⟨rfl, b1⟩; have bel := bl_trans bel b1)
    | (go_at_call 30; refine (agrees_low fb _ _ _ _).mono ?_; rintro x w2 ⟨rfl, b2⟩; have bel := bl_trans (bl_alloc bel _) b2))
  go_ret
  exact ⟨rfl, bel⟩
end Go.Proofs.Ytglneailkgminaa
