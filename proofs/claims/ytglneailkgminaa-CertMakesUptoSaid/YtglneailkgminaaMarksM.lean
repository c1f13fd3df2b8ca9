/- Package rule: Marks; the law's helpers. No claim of its own; no condition. -/
import Derived.Test.YtglneailkgminaaSortM
import Derived.Test.YtglneailkgminaaSmall
namespace Go.Proofs.Ytglneailkgminaa
open Go.ChangeShapes Go.WideShapes Go.ChangeAt Go.RowKit Go.Sort
set_option linter.unusedVariables false
set_option linter.unusedSimpArgs false
def Vote.about (v : Vote) : Mark := ⟨v.view, v.height, v.block⟩
theorem about_calls (v : Vote) (w : World) :
    Calls Try.prog 39 #[.agg #[.int .i64 v.kind, .int .i64 v.view, .int .i64 v.height, .string v.block, .int .i64 v.ticks, .int .i64 v.signer, .string v.sig]] w
      fun e w' => e = .returned (.agg #[.int .i64 v.view, .int .i64 v.height, .string v.block]) ∧ Below w.heap.size w w' := by
  go_enter Try.func39, Try.ntmps39
  go_wp2
  refine bodyPost_ret (v := .agg #[.int .i64 v.view, .int .i64 v.height, .string v.block]) (by simp [results, Try.results39, go_sem]) rfl ⟨rfl, ?_⟩
  repeat (first | exact Below.refl _ _ | apply bl_alloc | apply bl_drew | (refine bl_set ?_ (by simp) _))
theorem counts_self (v : Vote) (m : Mark) (w : World) :
    Calls Try.prog 12 #[.agg #[.int .i64 v.kind, .int .i64 v.view, .int .i64 v.height, .string v.block, .int .i64 v.ticks, .int .i64 v.signer, .string v.sig], .agg #[.int .i64 m.view, .int .i64 m.height, .string m.block], .int .i64 v.kind, .int .i64 v.ticks] w
      fun e w' => e = .returned (.bool (decide (v.about = m))) ∧ Gd w w' := by
  have hb := gd_alloc (gd_alloc (gd_refl w) (.cells #[.int .i64 v.kind, .int .i64 v.view, .int .i64 v.height, .string v.block, .int .i64 v.ticks, .int .i64 v.signer, .string v.sig] 28)) (.cells #[.int .i64 m.view, .int .i64 m.height, .string m.block] 26)
  have key : decide (v.about = m) = ((v.view == m.view) && ((v.height == m.height) && (v.block.toList == m.block.toList))) := by
    cases m
    simp only [Vote.about, Mark.mk.injEq, Bool.decide_and, bytes_beq]
    rfl
  rw [key]
  clear key
  have d0 : (v.kind == v.kind) = true := by simp
  have d1 : v.ticks ≤ v.ticks := Int.le_refl _
  cases h1 : v.view == m.view
  · go_enter Try.func12, Try.ntmps12
    go_wp2
    go_ret
    exact ⟨rfl, hb⟩
  · cases h2 : v.height == m.height
    · go_enter Try.func12, Try.ntmps12
      go_wp2
      go_ret
      exact ⟨rfl, hb⟩
    · cases h3 : v.block.toList == m.block.toList
      all_goals
        go_enter Try.func12, Try.ntmps12
        go_wp2
        go_ret
        exact ⟨rfl, hb⟩
theorem below_calls (a b : Mark) (w : World) :
    Calls Try.prog 13 #[.agg #[.int .i64 a.view, .int .i64 a.height, .string a.block], .agg #[.int .i64 b.view, .int .i64 b.height, .string b.block]] w
      fun e w' => e = .returned (.bool (belowF a b)) ∧ Gd w w' := by
  have hb := gd_alloc (gd_alloc (gd_refl w) (.cells #[.int .i64 a.view, .int .i64 a.height, .string a.block] 26)) (.cells #[.int .i64 b.view, .int .i64 b.height, .string b.block] 26)
  by_cases h1 : a.view = b.view
  · have d1 : (a.view != b.view) = false := by simp [h1]
    by_cases h2 : a.height = b.height
    · have d2 : (a.height != b.height) = false := by simp [h2]
      have e : belowF a b = Op.bytesLess a.block.toList b.block.toList := by simp [belowF, h1, h2, strLt]
      rw [e]
      clear e h1 h2
      go_enter Try.func13, Try.ntmps13
      go_wp2
      go_ret
      exact ⟨rfl, hb⟩
    · have d2 : (a.height != b.height) = true := by simp [h2]
      have e : belowF a b = decide (a.height < b.height) := by simp [belowF, h1, h2]
      rw [e]
      clear e h1 h2
      go_enter Try.func13, Try.ntmps13
      go_wp2
      go_ret
      exact ⟨rfl, hb⟩
  · have d1 : (a.view != b.view) = true := by simp [h1]
    have e : belowF a b = decide (a.view < b.view) := by simp [belowF, h1]
    rw [e]
    clear e h1
    go_enter Try.func13, Try.ntmps13
    go_wp2
    go_ret
    exact ⟨rfl, hb⟩
def checkF (r : Rule) (replicas quorum : Int) : Int :=
  if replicas ≤ 7 ∧ 1 ≤ quorum ∧ quorum ≤ replicas ∧ ((r.kind = 1 ∧ quorum ≤ r.n ∧ r.n ≤ replicas) ∨ (r.kind = 2 ∧ 1 ≤ r.n ∧ r.n ≤ 32)) then 0 else 81
theorem check_calls (r : Rule) (n q : Int) (w : World) :
    Calls Try.prog 43 #[.agg #[.int .i64 r.kind, .int .i64 r.n], .int .i64 n, .int .i64 q] w fun e w' => e = .returned (.int .i64 (checkF r n q)) ∧ Below w.heap.size w w' := by
  have hk : r.kind = 1 ∧ (r.kind == 1) = true ∨ r.kind = 2 ∧ (r.kind == 1) = false ∧ (r.kind == 2) = true ∨ (r.kind ≠ 1 ∧ r.kind ≠ 2) ∧ (r.kind == 1) = false ∧ (r.kind == 2) = false := by
    by_cases h1 : r.kind = 1
    · exact .inl ⟨h1, by simp [h1]⟩
    · by_cases h2 : r.kind = 2
      · exact .inr (.inl ⟨h2, by simp [h2], by simp [h2]⟩)
      · exact .inr (.inr ⟨⟨h1, h2⟩, by simp [h1], by simp [h2]⟩)
  rcases hk with ⟨h1, h2⟩ | ⟨h1, h2, h3⟩ | ⟨h1, h2, h3⟩
  all_goals
    have H1 := Lib.hid h1
    clear h1
    go_enter Try.func43, Try.ntmps43
    go_wp2
    all_goals go_ret
    all_goals refine ⟨?_, bl_alloc (Below.refl _ _) _⟩
    all_goals
      have H2 := H1.out
      first
        | (have e : checkF r n q = 0 := if_pos (by omega)
           rw [e]; rfl)
        | (have e : checkF r n q = 81 := if_neg (by omega)
           rw [e]; rfl)
theorem alive21_calls (w : World) : Calls Try.prog 14 #[] w fun e w' => e = .returned (.bool true) ∧ Below w.heap.size w w' := by
  go_enter Try.func14, Try.ntmps14
  go_wp2_with (first | (go_at_call_of 43 (Value.agg #[.int .i64 1, .int .i64 2]); refine (check_calls ⟨1, 2⟩ 4 3 _).mono ?_; rintro e w1 ⟨rfl, hb1⟩; rw [show checkF ⟨1, 2⟩ 4 3 = 81 by decide]) | (go_at_call_of 43 (Value.agg #[.int .i64 2, .int .i64 2]); refine (check_calls ⟨2, 2⟩ 4 3 _).mono ?_; rintro e w2 ⟨rfl, hb2⟩; rw [show checkF ⟨2, 2⟩ 4 3 = 0 by decide]))
  go_ret
  exact ⟨rfl, bl_trans hb1 hb2⟩
/-- A statement of commit or held. -/
def saysB (v : Vote) : Bool := (v.kind == 2) || (v.kind == 3)
def marksIn (l : List Vote) : List Mark := (l.filter saysB).map Vote.about
theorem marks_step {l : List Vote} {k : Nat} {x : Vote} (h : l[k]? = some x) : marksIn (l.take (k + 1)) = marksIn (l.take k) ++ (if saysB x then [x.about] else []) := by
  unfold marksIn
  rw [List.take_add_one, h, List.filter_append, List.map_append]
  cases hp : saysB x <;> simp [hp]
theorem marks_le (l : List Vote) (k : Nat) : (marksIn (l.take k)).length ≤ k := by
  unfold marksIn
  rw [List.length_map]
  exact Nat.le_trans (List.length_filter_le _ _) (by rw [List.length_take]; omega)
set_option maxHeartbeats 3200000 in
set_option maxRecDepth 100000 in
theorem marks_calls (l : List Vote) (A : Option Addr) (n c : Nat) (w : World) (B : Nat) (hn : n = l.length) (hl : l.length ≤ 1048576) (hr : kVote.Row 28 B w A l) :
    Calls Try.prog 11 #[.slice A n c] w fun e w' => (∃ v M, e = .returned v ∧ kMark.Own 26 w.heap.size w' w.heap.size v (compF M) ∧ M.Perm (marksIn l) ∧ M.Pairwise fun a b => belowF b a = false) ∧ Below w.heap.size w w' := by
  subst hn
  obtain ⟨i0, hi, hz0, hz1, hz2⟩ := info_parts info_kMark
  go_enter Try.func11, Try.ntmps11
  go_wp2_with fail
  go_loopw [3, 8] (fun vv kv w' => ∃ k : Nat, k ≤ l.length ∧ kv = .int .i64 k ∧ kMark.Own 26 w.heap.size w' w.heap.size vv (marksIn (l.take k)) ∧ Below w.heap.size w w') (fun _ kv _ => l.length - (intOf kv).toNat)
  case atStart => exact ⟨0, by omega, rfl, Kd.own_nil _ _ _ _ _, Below.refl _ _⟩
  case round =>
    obtain ⟨k, h1, rfl, own, bel⟩ := hrel
    by_cases h : k < l.length
    · obtain ⟨x, hx⟩ : ∃ x, l[k]? = some x := ⟨_, List.getElem?_eq_getElem h⟩
      obtain ⟨ad, rfl, e0, e1, e2, e3, e4, e5, e6, g0, g1, g2, g3, g4, g5, g6⟩ := kVote_at (Kd.row_below bel hr) hx
      have hs := marks_step hx
      have hle := marks_le l k
      have hkI : (k : Int) < (l.length : Int) := by omega
      have bel2 := bl_alloc bel (.cells #[.int .i64 x.kind, .int .i64 x.view, .int .i64 x.height, .string x.block, .int .i64 x.ticks, .int .i64 x.signer, .string x.sig] 28)
      have own2 := Kd.own_below own (bl_alloc (Below.refl wr.heap.size wr) (.cells #[.int .i64 x.kind, .int .i64 x.view, .int .i64 x.height, .string x.block, .int .i64 x.ticks, .int .i64 x.signer, .string x.sig] 28))
      clear hx
      by_cases hk : saysB x = true
      · rw [if_pos hk] at hs
        have hd : (x.kind == 2) = true ∨ ((x.kind == 2) = false ∧ (x.kind == 3) = true) := by
          unfold saysB at hk
          cases h2 : x.kind == 2
          · rw [h2] at hk; exact .inr ⟨rfl, by simpa using hk⟩
          · exact .inl rfl
        have HS := Lib.hid hs
        clear hs hk
        rcases hd with d1 | ⟨d1, d2⟩
        all_goals
          go_wp2_with (first
            | (go_at_call 39; refine (about_calls x _).mono ?_; rintro e w1 ⟨rfl, b1⟩; have own3 := Kd.own_below own2 b1; have bel3 := bl_trans bel2 b1; have bel4 := bl_alloc bel3 (.cells #[.int .i64 x.view, .int .i64 x.height, .string x.block] 26); have own4 := Kd.own_below own3 (bl_alloc (Below.refl w1.heap.size w1) (.cells #[.int .i64 x.view, .int .i64 x.height, .string x.block] 26)))
            | (at_builtin; refine wpList_append_row _ rfl (.tmp 20) (.tmp 23) 23 rfl kMark w.heap.size w.heap.size 26 i0 _ 32 Try.underlying23 hi hz0 hz1 hz2 rfl (by decide) _ _ rfl own4 _ _ _ [x.about] rfl rfl (Kd.row_fresh1 (kMark_mk x.about g1 g2 g3)) (by simp only [List.length_singleton]; omega) (by decide) bel4.size (Nat.le_refl _) (by decide) ?_; intro v' w' own' grw at'))
          go_roundw
          case rel => exact ⟨k + 1, by omega, by go_num, by rw [HS.out]; exact own', Kd.own_step bel4 own4 grw⟩
          case measure => simp [intOf]; omega
      · have d1 : (x.kind == 2) = false := by
          cases h2 : x.kind == 2
          · rfl
          · exact absurd (by unfold saysB; rw [h2]; rfl) hk
        have d2 : (x.kind == 3) = false := by
          cases h2 : x.kind == 3
          · rfl
          · exact absurd (by unfold saysB; rw [h2]; simp) hk
        rw [if_neg hk, List.append_nil] at hs
        have HS := Lib.hid hs
        clear hs hk
        go_wp2_with fail
        go_roundw
        case rel => exact ⟨k + 1, by omega, by go_num, by rw [HS.out]; exact own2, bel2⟩
        case measure => simp [intOf]; omega
    · have hk : k = l.length := by omega
      subst hk
      rw [List.take_of_length_le (Nat.le_refl _)] at own
      have hle := marks_le l l.length
      rw [List.take_of_length_le (Nat.le_refl _)] at hle
      have hcs := sortMark (marksIn l) _ wr w.heap.size w.heap.size (by omega) own
      have HC := Lib.hid hcs
      have HO := Lib.hid own
      have hkI : ¬ ((l.length : Int) < (l.length : Int)) := by omega
      clear hcs own
      go_wp2_with (first
        | (go_at_call 40; refine (HC.out).mono ?_; rintro e w1 ⟨rfl, ⟨M, hpm, hso, own1⟩, g1⟩; have b1 := Kd.own_step bel HO.out g1; have hlM := hpm.length_eq; have hcm := compact_kMark M _ w1 w.heap.size w.heap.size (by omega) own1; have HM := Lib.hid hcm; have HP := Lib.hid hpm; have HSO := Lib.hid hso; have HO1 := Lib.hid own1; clear hcm hpm hso own1)
        | (go_at_call 42; refine (HM.out).mono ?_; rintro e w2 ⟨⟨v2, rfl, own2⟩, g2⟩; have b2 := Kd.own_step b1 HO1.out g2))
      go_ret
      exact ⟨⟨v2, M, rfl, own2, HP.out, HSO.out.imp fun h => by rw [ord_below] at h; exact h⟩, b2⟩
end Go.Proofs.Ytglneailkgminaa
