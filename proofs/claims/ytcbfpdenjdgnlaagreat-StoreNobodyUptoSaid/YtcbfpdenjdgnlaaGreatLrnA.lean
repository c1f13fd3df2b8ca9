/- slices.Clone at texts, tree.New, disk.New. No claim of its own; no condition. -/
import Derived.Test.YtcbfpdenjdgnlaaGreatFlat
import Derived.Test.YtcbfpdenjdgnlaaGreatAppStep
import Derived.Test.YtcbfpdenjdgnlaaGreatInvL
import Derived.Lib.Hide
import Derived.WalkSpells
namespace Go.Proofs.YtcbfpdenjdgnlaaGreat
open Go.ChangeShapes Go.WideShapes Go.ChangeAt Go.RowKit
set_option linter.unusedVariables false
set_option linter.unusedSimpArgs false
theorem sinfo : (Tryz.prog.info? 9).map (fun i => (i.zero, i.size, i.bytes)) = some (some (.string ⟨#[]⟩), 1, 16) := by kernel_rfl
set_option maxHeartbeats 800000 in
set_option maxRecDepth 100000 in
theorem clones_calls (l : List ByteArray) (A : Option Addr) (n c : Nat) (w : World) (B : Nat) (hn : n = l.length) (hl : l.length ≤ 2097152) (hr : Kd.str.Row 9 B w A l) :
    Calls Tryz.prog 56 #[.slice A n c] w fun e w' => (∃ v, e = .returned v ∧ Kd.str.Own 9 w.heap.size w' w.heap.size v l ∧ (v = .slice none 0 0 ↔ A = none)) ∧ Below w.heap.size w w' := by
  subst hn
  obtain ⟨i0, hi, hz0, hz1, hz2⟩ := info_parts sinfo
  have hnil : ∀ (w : World) (a : Option Addr) (n c n' c' : Nat), (binOp .eql 22 (.slice a n c) (.slice none n' c')).run Tryz.prog w = .ok (.bool a.isNone) w := fun w a n c n' c' => Lib.run_eql_slice_nil w _ _ a n c n' c' Tryz.underlying22
  cases A with
  | none =>
    have hx : l = [] := by
      cases l with
      | nil => rfl
      | cons x l => obtain ⟨ad, h, _⟩ := hr (by simp); cases h
    subst hx
    go_enter Tryz.func56, Tryz.ntmps56
    go_wp2_with fail
    go_ret
    exact ⟨⟨_, rfl, Kd.own_nil _ _ _ _ _, by simp⟩, Below.refl _ _⟩
  | some ad =>
    have qe := bl_alloc (Below.refl w.heap.size w) (.cells #[] 9)
    have rowe := Kd.row_below qe (Kd.row_flat Kd.flat_str hr (Nat.le_refl _))
    go_enter Tryz.func56, Tryz.ntmps56
    go_wp2_with (at_builtin; refine wpList_append_row _ rfl (.tmp 5) (.tmp 6) 22 rfl Kd.str w.heap.size w.heap.size 9 i0 _ 16 Tryz.underlying22 hi hz0 hz1 hz2 rfl (by decide) (.slice (some ⟨w.heap.size, 0, none⟩) 0 0) [] rfl (Kd.own_empty (Nat.le_refl _)) (some ad) c l.length l rfl rfl rowe (by simp only [List.length_nil]; omega) (by decide) qe.size (Nat.le_refl _) (by decide) ?_; intro v1 w1 own1 grw1 at1; have b1 := Kd.own_step qe (Kd.own_empty (d := Kd.str) (e := 9) (B := w.heap.size) (Nat.le_refl _)) grw1; rw [List.nil_append] at own1)
    go_ret
    refine ⟨⟨v1, rfl, own1, ?_⟩, b1⟩
    constructor
    · rintro rfl
      rcases at1 with h | h <;> simp [Value.ownBlock] at h
    · intro h; cases h
/-- A tree of no blocks. -/
def TreeNew (w w' : World) (b : Nat) : Prop := ∃ M, w'.heap[b]? = some (.cells #[.map (some M)] 169 (0, 0)) ∧ w'.heap[M]? = some (.map #[] 0) ∧ w.heap.size ≤ b ∧ w.heap.size ≤ M
theorem tree_new (w : World) : Calls Tryz.prog 57 #[] w fun e w' => (∃ b, e = .returned (.pointer (some ⟨b, 0, none⟩)) ∧ TreeNew w w' b) ∧ Below w.heap.size w w' := by
  have hmm := @run_makeMap Tryz.prog
  have q0 := bl_alloc (bl_alloc (Below.refl w.heap.size w) (.map #[] 0)) (.cells #[.map (some w.heap.size)] 169)
  have a0 := alloc_old (alloc_new w (.map #[] 0)) (.cells #[.map (some w.heap.size)] 169)
  have a1 : ((w.alloc (.map #[] 0)).alloc (.cells #[.map (some w.heap.size)] 169)).heap[w.heap.size + 1]? = some (.cells #[.map (some w.heap.size)] 169 (0, 0)) := by
    have := alloc_new (w.alloc (.map #[] 0)) (.cells #[.map (some w.heap.size)] 169)
    rwa [World.size_alloc] at this
  go_enter Tryz.func57, Tryz.ntmps57
  go_wp2_with fail
  go_ret
  exact ⟨⟨_, rfl, _, a1, a0, by omega, by omega⟩, q0⟩
theorem disk_new (room : Int) (hr : 0 ≤ room ∧ room ≤ 262144) (w : World) : Calls Tryz.prog 90 #[.int .i64 room] w fun e w' => (∃ b, e = .returned (.pointer (some ⟨b, 0, none⟩)) ∧ w'.heap[b]? = some (.cells #[.slice none 0 0, .int .i64 0, .int .i64 room, .bool true] 220 (0, 0)) ∧ w.heap.size ≤ b) ∧ Below w.heap.size w w' := by
  have q0 := bl_alloc (Below.refl w.heap.size w) (.cells #[.slice none 0 0, .int .i64 0, .int .i64 room, .bool true] 220)
  have a0 := alloc_new w (.cells #[.slice none 0 0, .int .i64 0, .int .i64 room, .bool true] 220)
  have h1 : max room 0 = room := by omega
  have h2 : min room 262144 = room := by omega
  go_enter Tryz.func90, Tryz.ntmps90
  go_wp2_with fail
  go_ret
  exact ⟨⟨_, rfl, a0, Nat.le_refl _⟩, q0⟩
end Go.Proofs.YtcbfpdenjdgnlaaGreat
