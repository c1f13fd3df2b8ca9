/- Package octets: Words. No claim of its own; no condition. -/
import Derived.Test.YtcbfpdenjdgnlaaGreatShaE
import Derived.Test.YtcbfpdenjdgnlaaGreatWordsB
import Derived.Test.YtcbfpdenjdgnlaaGreatAppStep
namespace Go.Proofs.YtcbfpdenjdgnlaaGreat
open Go.ChangeShapes Go.WideShapes Go.ChangeAt Go.RowKit
set_option linter.unusedVariables false
set_option linter.unusedSimpArgs false
theorem info_u8 : (Tryz.prog.info? 5).map (fun i => (i.zero, i.size, i.bytes)) = some (some (.int .u8 0), 1, 1) := by kernel_rfl
def ob (x : UInt32) (k : Nat) : UInt8 := UInt8.ofNat (x.toNat / 2 ^ k)
/-- An octet as the model has it. -/
def un (b : UInt8) : Int := (b.toNat : Int)
theorem ob_eq (x : UInt32) (k : Nat) : tn x / 2 ^ k % 256 = un (ob x k) := by
  unfold ob un tn
  rw [UInt8.toNat_ofNat']
  simp
theorem ob24 (x : UInt32) : tn x / 16777216 % 256 = un (ob x 24) := ob_eq x 24
theorem ob16 (x : UInt32) : tn x / 65536 % 256 = un (ob x 16) := ob_eq x 16
theorem ob8 (x : UInt32) : tn x / 256 % 256 = un (ob x 8) := ob_eq x 8
theorem ob0 (x : UInt32) : tn x % 256 = un (ob x 0) := by
  have := ob_eq x 0
  simpa using this
def o4 (x : UInt32) : List UInt8 := [ob x 24, ob x 16, ob x 8, ob x 0]
def wordsB (l : List UInt32) : List UInt8 := l.flatMap o4
theorem flat_snoc {α β : Type} (f : α → List β) (l : List α) (k : Nat) (x : α) (h : l[k]? = some x) : (l.take (k + 1)).flatMap f = (l.take k).flatMap f ++ f x := by
  rw [List.take_add_one, h, List.flatMap_append]
  simp
theorem o4_len (l : List UInt32) : (l.flatMap o4).length = 4 * l.length := by
  induction l with
  | nil => rfl
  | cons x l ih => simp only [List.flatMap_cons, List.length_append, ih, List.length_cons]; simp only [o4, List.length_cons, List.length_nil]; omega
attribute [local go_sem] ob24 ob16 ob8 ob0
set_option maxHeartbeats 3200000 in
set_option maxRecDepth 100000 in
theorem octwords_calls (l : List UInt32) (N n c : Nat) (w : World) (T : TypeId) (hn : n = l.length) (hl : l.length ≤ 64) (hb : WB w N T l) :
    Calls Tryz.prog 243 #[.slice (some ⟨N, 0, none⟩) n c] w fun e w' => (∃ v, e = .returned v ∧ Kd.u8.Own 5 w.heap.size w' w.heap.size v (wordsB l)) ∧ Below w.heap.size w w' := by
  subst hn
  obtain ⟨i0, hi, hz0, hz1, hz2⟩ := info_parts info_u8
  go_enter Tryz.func243, Tryz.ntmps243
  go_wp2_with ((at_make; refine wpList_make_own _ rfl _ _ 60 rfl w.heap.size 5 i0 _ 1 Tryz.underlying60 hi hz0 hz1 .i64 .i64 _ (4 * l.length) rfl rfl (by omega) (by rw [hz2]; omega) (by simp only [maxLen]; omega) (Nat.le_refl _) ?_; intro w1 own1 grw1))
  have bel1 : Below w.heap.size w w1 := bl_grown (Below.refl _ _) grw1 (fun k hk => by cases hk)
  have ownK : Kd.u8.Own 5 w.heap.size w1 w.heap.size (.slice (some ⟨w.heap.size, 0, none⟩) 0 (4 * l.length)) (wordsB (l.take 0)) := ⟨[], own1, .nil⟩
  have hNw : N < w.heap.size := blk_lt hb
  clear own1 grw1
  go_loopw [3, 12] (fun ov kv w' => ∃ k : Nat, k ≤ l.length ∧ kv = .int .i64 k ∧ Kd.u8.Own 5 w.heap.size w' w.heap.size ov (wordsB (l.take k)) ∧ Below w.heap.size w w') (fun _ kv _ => l.length - (intOf kv).toNat)
  case atStart => exact ⟨0, by omega, rfl, ownK, bel1⟩
  case round =>
    obtain ⟨k, h1, rfl, own, bel⟩ := hrel
    by_cases h : k < l.length
    · obtain ⟨x, hx⟩ : ∃ x, l[k]? = some x := ⟨_, List.getElem?_eq_getElem h⟩
      have hkI : (k : Int) < (l.length : Int) := by omega
      have hk0 : (0 : Int) ≤ (k : Int) := by omega
      have cx := WB.cell (WB.below hb bel) hx
      have hs : wordsB (l.take (k + 1)) = wordsB (l.take k) ++ o4 x := flat_snoc o4 l k x hx
      have hlo : (wordsB (l.take k)).length ≤ 256 := by unfold wordsB; rw [o4_len, List.length_take]; omega
      have HS := Lib.hid hs
      obtain ⟨T', hT'⟩ : ∃ T', wordsB (l.take k) = T' := ⟨_, rfl⟩
      rw [hT'] at hlo own
      have HT := Lib.hid hT'
      clear hs hT' hx ownK bel1
      obtain ⟨Ao, co, rfl, _, _, _, _⟩ := Kd.own_row own
      have al := bl_alloc (Below.refl wr.heap.size wr) (.cells #[.int .u8 (un (ob x 24)), .int .u8 (un (ob x 16)), .int .u8 (un (ob x 8)), .int .u8 (un (ob x 0))] 5)
      have ownA := Kd.own_below own al
      have belA := bl_trans bel al
      have row4 : Kd.u8.Row 5 w.heap.size (wr.alloc (.cells #[.int .u8 (un (ob x 24)), .int .u8 (un (ob x 16)), .int .u8 (un (ob x 8)), .int .u8 (un (ob x 0))] 5)) (some ⟨wr.heap.size, 0, none⟩) (o4 x) :=
        Kd.row_fresh rfl (.cons (show Kd.u8.K _ _ _ [_] from rfl) (.cons (show Kd.u8.K _ _ _ [_] from rfl) (.cons (show Kd.u8.K _ _ _ [_] from rfl) (.cons (show Kd.u8.K _ _ _ [_] from rfl) .nil))))
      go_wp2_with ((at_builtin; refine wpList_append_row _ rfl (.tmp 16) (.tmp 28) 60 rfl Kd.u8 w.heap.size w.heap.size 5 i0 _ 1 Tryz.underlying60 hi hz0 hz1 hz2 rfl (by decide) _ T' rfl ownA _ _ _ (o4 x) rfl rfl row4 (by simp only [o4, List.length_cons, List.length_nil]; omega) (by decide) belA.size (Nat.le_refl _) (by decide) ?_; intro v4 w4 own4 grw4 at4; have bel4 := Kd.own_step belA ownA grw4))
      go_roundw
      case rel => exact ⟨k + 1, by omega, by go_num, (by rw [HS.out, HT.out]; exact own4), bel4⟩
      case measure => simp [intOf]; omega
    · have hk : k = l.length := by omega
      subst hk
      have hnI : ¬ ((l.length : Int) < (l.length : Int)) := by omega
      go_wp2_with fail
      go_ret
      rw [List.take_of_length_le (Nat.le_refl _)] at own
      exact ⟨⟨_, rfl, own⟩, bel⟩
end Go.Proofs.YtcbfpdenjdgnlaaGreat
