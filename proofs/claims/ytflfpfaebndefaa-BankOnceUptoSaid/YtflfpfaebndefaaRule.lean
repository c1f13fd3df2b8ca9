/- Package rule: contracts of its functions. No claim of its own; no condition. -/
import Derived.Test.YtflfpfaebndefaaTypes
import Derived.Maps.Views
import Derived.Maps.OwnSet
import Derived.Deep.RegionHeld3
import Derived.Deep.DeepCutAuto
namespace Go.Proofs.Ytflfpfaebndefaa
open Go.ChangeShapes Go.WideShapes Go.ChangeAt Go.RowKit Go.Maps Go.WideMaps
set_option linter.unusedVariables false
set_option linter.unusedSimpArgs false

def Vote.about (v : Vote) : Mark := ⟨v.view, v.height, v.block⟩

theorem about_calls (v : Vote) (w : World) :
    Calls Try.prog 47 #[.agg #[.int .i64 v.kind, .int .i64 v.view, .int .i64 v.height, .string v.block, .int .i64 v.ticks, .int .i64 v.signer, .string v.sig]] w
      fun e w' => e = .returned (.agg #[.int .i64 v.view, .int .i64 v.height, .string v.block]) ∧ Below w.heap.size w w' := by
  go_enter Try.func47, Try.ntmps47
  go_wp2
  refine bodyPost_ret (v := .agg #[.int .i64 v.view, .int .i64 v.height, .string v.block]) (by simp [results, Try.results47, go_sem]) rfl ⟨rfl, ?_⟩
  repeat (first | exact Below.refl _ _ | apply bl_alloc | apply bl_drew | (refine bl_set ?_ (by simp) _))

def sgn (m : Mark) (kind ticks : Int) (v : Vote) : Bool := (v.kind == kind) && (decide (ticks ≤ v.ticks) && (v.about == m))
/-- The signers that count, one behind the other, over the first k statements. -/
def keysOf (m : Mark) (kind ticks : Int) (l : List Vote) : List Lit := (l.filter (sgn m kind ticks)).map fun v => .int .i64 v.signer
def signersF (m : Mark) (kind ticks : Int) (l : List Vote) : Nat := ((keysOf m kind ticks l).foldl addKey []).length
theorem keyed3 : Keyed Try.prog 3 := int_keyed Try.underlying3

theorem keysOf_yes {m : Mark} {kind ticks : Int} {l : List Vote} {k : Nat} {v : Vote} (hk : l[k]? = some v) (h : sgn m kind ticks v = true) : keysOf m kind ticks (l.take (k + 1)) = keysOf m kind ticks (l.take k) ++ [.int .i64 v.signer] := by
  unfold keysOf
  rw [List.take_add_one, hk, List.filter_append, List.map_append]
  simp [h]
theorem keysOf_no {m : Mark} {kind ticks : Int} {l : List Vote} {k : Nat} {v : Vote} (hk : l[k]? = some v) (h : sgn m kind ticks v = false) : keysOf m kind ticks (l.take (k + 1)) = keysOf m kind ticks (l.take k) := by
  unfold keysOf
  rw [List.take_add_one, hk, List.filter_append, List.map_append]
  simp [h]
theorem keysOf_lits (m : Mark) (kind ticks : Int) (l : List Vote) : ∀ x ∈ keysOf m kind ticks l, WideAt.IsKeyLit x := by
  intro x hx
  obtain ⟨v, _, rfl⟩ := List.mem_map.1 hx
  trivial
theorem ownsMap_below {H : Type} {P : Program} {w w' : World} {k : TypeId} {R : Value → Option (DataW H × List MemPlace)} {b n : Nat} {D : DataW H} (h : w.ownsMap P k R b n D) (hb : Below w.heap.size w w') : w'.ownsMap P k R b n D := by
  obtain ⟨es, clock, h1, h2⟩ := h
  exact ⟨es, clock, block_below hb h1, h2⟩
theorem ownsMap_mono {H : Type} {P : Program} {w : World} {k : TypeId} {R : Value → Option (DataW H × List MemPlace)} {b n m : Nat} {D : DataW H} (h : w.ownsMap P k R b n D) (hn : n ≤ m) : w.ownsMap P k R b m D := by
  obtain ⟨es, clock, h1, h2, h3, h4⟩ := h
  exact ⟨es, clock, h1, h2, Nat.le_trans h3 hn, h4⟩
theorem wf_of {x : Int} (h : IntOk x) : (Lit.int .i64 x).wf = true := by
  simpa [IntOk, Lit.wf, IntKind.min, IntKind.max, IntKind.signed, IntKind.bits] using h

theorem signers_calls (m : Mark) (l : List Vote) (A : Option Addr) (c : Nat) (kind ticks : Int) (w : World) (B : Nat)
    (hl : l.length ≤ 2097152) (hr : kVote.Row 90 B w A l) :
    Calls Try.prog 40 #[.agg #[.int .i64 m.view, .int .i64 m.height, .string m.block], .slice A l.length c, .int .i64 kind, .int .i64 ticks] w
      fun e w' => e = .returned (.int .i64 (signersF m kind ticks l)) ∧ Below w.heap.size w w' := by
  have hmm := @run_makeMap Try.prog
  go_enter Try.func40, Try.ntmps40
  go_wp2
  go_loopw [15] (fun i wr => ∃ k : Nat, k ≤ l.length ∧ i = .int .i64 k ∧ wr.ownsMap Try.prog 3 (plainElem Try.prog 4) (w.heap.size + 1) k (setOf (H := Unit) (.lit (.bool true)) (keysOf m kind ticks (l.take k))) ∧
      wr.heap[w.heap.size]? = some (.cells #[.int .i64 m.view, .int .i64 m.height, .string m.block] 32 (0, 0)) ∧ Below w.heap.size w wr)
    (fun i _ => l.length - (intOf i).toNat)
  case atStart =>
    refine ⟨0, Nat.zero_le _, rfl, ?_, ?_, ?_⟩
    · have h0 := World.ownsMap_made (H := Unit) (w.alloc (.cells #[.int .i64 m.view, .int .i64 m.height, .string m.block] 32)) Try.prog 3 (plainElem Try.prog 4)
      rw [show (w.alloc (.cells #[.int .i64 m.view, .int .i64 m.height, .string m.block] 32)).heap.size = w.heap.size + 1 by simp] at h0
      exact h0
    · exact alloc_old (alloc_new _ _) _
    · repeat (first | exact Below.refl _ _ | apply bl_alloc | apply bl_drew | (refine bl_set ?_ (by simp) _))
  case round =>
    obtain ⟨k, hk, rfl, hown, hbox, hbel⟩ := hrel
    by_cases hlt : k < l.length
    · obtain ⟨ad, rfl, c0, c1, c2, c3, c4, c5, c6, i0, i1, i2, i3, i4, i5, i6⟩ := kVote_at hr (List.getElem?_eq_getElem hlt)
      have e0 := cell_below hbel c0
      have e1 := cell_below hbel c1
      have e2 := cell_below hbel c2
      have e3 := cell_below hbel c3
      have e4 := cell_below hbel c4
      have e5 := cell_below hbel c5
      have e6 := cell_below hbel c6
      clear c0 c1 c2 c3 c4 c5 c6
      have hv : l[k]? = some l[k] := List.getElem?_eq_getElem hlt
      generalize l[k] = v at *
      have HV := Lib.hid hv
      clear hv
      go_wp2
      have q1 := alloc_new wr (.cells #[.int .i64 v.kind, .int .i64 v.view, .int .i64 v.height, .string v.block, .int .i64 v.ticks, .int .i64 v.signer, .string v.sig] 90)
      have q2 := alloc_old hbox (.cells #[.int .i64 v.kind, .int .i64 v.view, .int .i64 v.height, .string v.block, .int .i64 v.ticks, .int .i64 v.signer, .string v.sig] 90)
      have q3 := bl_alloc hbel (.cells #[.int .i64 v.kind, .int .i64 v.view, .int .i64 v.height, .string v.block, .int .i64 v.ticks, .int .i64 v.signer, .string v.sig] 90)
      have q4 : (wr.alloc (.cells #[.int .i64 v.kind, .int .i64 v.view, .int .i64 v.height, .string v.block, .int .i64 v.ticks, .int .i64 v.signer, .string v.sig] 90)).ownsMap Try.prog 3 (plainElem Try.prog 4) (w.heap.size + 1) k (setOf (H := Unit) (.lit (.bool true)) (keysOf m kind ticks (l.take k))) := ownsMap_below hown (bl_alloc (Below.refl _ _) _)
      generalize wr.alloc (.cells #[.int .i64 v.kind, .int .i64 v.view, .int .i64 v.height, .string v.block, .int .i64 v.ticks, .int .i64 v.signer, .string v.sig] 90) = W at *
      have f0 := held_cell (block_cell q1 (i := 0) rfl)
      have f1 := held_cell (block_cell q1 (i := 1) rfl)
      have f2 := held_cell (block_cell q1 (i := 2) rfl)
      have f3 := held_cell (block_cell q1 (i := 3) rfl)
      have f4 := held_cell (block_cell q1 (i := 4) rfl)
      have f5 := held_cell (block_cell q1 (i := 5) rfl)
      have f6 := held_cell (block_cell q1 (i := 6) rfl)
      have g0 := held_cell (block_cell q2 (i := 0) rfl)
      have g1 := held_cell (block_cell q2 (i := 1) rfl)
      have g2 := held_cell (block_cell q2 (i := 2) rfl)
      clear e0 e1 e2 e3 e4 e5 e6 hbox hown hbel
      have he : ∀ w', (binOp .eql 32 (.agg #[.int .i64 v.view, .int .i64 v.height, .string v.block]) (.agg #[.int .i64 m.view, .int .i64 m.height, .string m.block])).run Try.prog w' = .ok (.bool (decide (v.about = m))) w' := fun w' => eqlMark v.about m w'
      go_cut [34] (fun b w' => b = .bool (sgn m kind ticks v) ∧ Below W.heap.size W w')
      case first =>
        by_cases k1 : v.kind = kind
        · have k1b : (v.kind == kind) = true := beq_iff_eq.2 k1
          by_cases k2 : ticks ≤ v.ticks
          · have hs : decide (v.about = m) = sgn m kind ticks v := by simp [sgn, k1, k2]; rfl
            have HS := Lib.hid hs
            clear k1 hs
            go_region_held3 (fun w' => Below W.heap.size W w') (first | exact Below.refl _ _ | (apply bl_drew; exact Below.refl _ _) | (refine bl_trans ?_ (by assumption); assumption)) ((go_at_call 47; refine (about_calls v _).mono ?_; rintro e w' ⟨rfl, hb⟩))
            all_goals (go_wp2_with fail; go_meet; exact ⟨by rw [HS.out], by assumption⟩)
          · have hs : false = sgn m kind ticks v := by simp [sgn, k2]
            have HS := Lib.hid hs
            have k2b : decide (ticks ≤ v.ticks) = false := by simpa using k2
            clear k1 k2 hs
            have c0 := f0 _ (Below.refl _ _)
            have c4 := f4 _ (Below.refl _ _)
            go_quiet (fail)
            go_wp2_with fail
            go_meet
            exact ⟨by rw [← HS.out], bl_drewN (Below.refl _ _) _⟩
        · have hs : false = sgn m kind ticks v := by simp [sgn, k1]
          have HS := Lib.hid hs
          have k1b : (v.kind == kind) = false := by simpa using k1
          clear k1 hs
          have c0 := f0 _ (Below.refl _ _)
          go_quiet (fail)
          go_wp2_with fail
          go_meet
          exact ⟨by rw [← HS.out], bl_drewN (Below.refl _ _) _⟩
      case rest =>
        obtain ⟨rfl, hbc⟩ := hcut
        have c5 := f5 _ hbc
        have q1c := block_below hbc q2
        have q3c := bl_trans q3 hbc
        have q4c : wc.ownsMap Try.prog 3 (plainElem Try.prog 4) (w.heap.size + 1) k (setOf (H := Unit) (.lit (.bool true)) (keysOf m kind ticks (l.take k))) := ownsMap_below q4 hbc
        have hkey : keyOf Try.prog 3 (.int .i64 v.signer) = some (.int .i64 v.signer) := keyOf_int_mk Try.underlying3 (wf_of i5)
        clear f0 f1 f2 f3 f4 f5 f6 g0 g1 g2 he q1 q2 q3 q4
        cases hsg : sgn m kind ticks v with
        | true =>
          go_wp2_with (at_mapUpdate; refine wpList_mapUpdate_own _ rfl _ _ _ 88 rfl 3 4 keyed3 Try.underlying88 (plainElem (H := Unit) Try.prog 4) (w.heap.size + 1) k _ rfl q4c (by unfold maxLen; omega) _ _ _ rfl rfl hkey _ [] (plainElem_bool Try.underlying4 true) ?_; intro w1 hown1 hgrow1)
          refine ⟨⟨k + 1, by omega, by go_num, ?_, ?_, ?_⟩, by simp [intOf]; omega⟩
          · rw [keysOf_yes HV.out hsg, setOf_snoc]; exact hown1
          · exact (hgrow1.block _ (blk_lt q1c) (by simp)).trans q1c
          · exact bl_grown q3c hgrow1 (fun j hj => by cases hj; omega)
        | false =>
          go_wp2
          exact ⟨⟨k + 1, by omega, by go_num, by rw [keysOf_no HV.out hsg]; exact ownsMap_mono q4c (by omega), q1c, q3c⟩, by simp [intOf]; omega⟩
    · have hk2 : k = l.length := by omega
      subst hk2
      rw [List.take_length] at hown
      have hlen : size (setOf (H := Unit) (.lit (.bool true)) (keysOf m kind ticks l)) = signersF m kind ticks l := size_setOf _ _ (keysOf_lits _ _ _ _)
      have HL := Lib.hid hlen
      clear hlen hlt
      go_wp2_with (at_len; refine wpList_len_own _ rfl _ 88 rfl 3 4 Try.underlying88 _ (w.heap.size + 1) l.length _ rfl hown ?_)
      go_ret
      exact ⟨by rw [← HL.out]; rfl, hbel⟩

end Go.Proofs.Ytflfpfaebndefaa
