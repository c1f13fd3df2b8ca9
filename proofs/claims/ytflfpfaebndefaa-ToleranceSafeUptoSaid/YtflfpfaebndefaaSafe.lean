/- Package tolerance: Safe; package mootplain: Ints; the walk of ToleranceSafe. No claim of its own; no condition. -/
import Derived.Test.YtflfpfaebndefaaWatchB
import Derived.Test.YtflfpfaebndefaaTolC
import Derived.Test.YtflfpfaebndefaaRuleC
import Derived.Test.YtflfpfaebndefaaWordsB
import Derived.Test.YtflfpfaebndefaaInts
namespace Go.Proofs.Ytflfpfaebndefaa
open Go.ChangeShapes Go.WideShapes Go.ChangeAt Go.RowKit
set_option linter.unusedVariables false
set_option linter.unusedSimpArgs false

theorem info3 : (Try.prog.info? 3).map (fun i => (i.zero, i.size, i.bytes)) = some (some (.int .i64 0), 1, 8) := by kernel_rfl
def safeF (l : List Rule) (n q s : Int) : Nat → List Int
  | 0 => []
  | k + 1 => safeF l n q s k ++ (match l[k]? with | some r => if quorumF r n q s = true then [(k : Int)] else [] | none => [])
theorem safeF_len (l : List Rule) (n q s : Int) : ∀ k, (safeF l n q s k).length ≤ k
  | 0 => by simp [safeF]
  | k + 1 => by
    have := safeF_len l n q s k
    simp only [safeF, List.length_append]
    split
    · split <;> simp <;> omega
    · simp; omega
theorem safeF_yes {l : List Rule} {n q s : Int} {k : Nat} {r : Rule} (h : l[k]? = some r) (hq : quorumF r n q s = true) : safeF l n q s (k + 1) = safeF l n q s k ++ [(k : Int)] := by
  simp [safeF, h, hq]
theorem safeF_no {l : List Rule} {n q s : Int} {k : Nat} {r : Rule} (h : l[k]? = some r) (hq : quorumF r n q s = false) : safeF l n q s (k + 1) = safeF l n q s k := by
  simp [safeF, h, hq]
set_option maxRecDepth 100000 in
theorem safe_calls (n q s : Int) (l : List Rule) (A : Option Addr) (c len : Nat) (w : World) (B : Nat) (hlen : len = l.length) (hl : l.length ≤ 1048576) (hr : kRule.Row 30 B w A l) :
    Calls Try.prog 32 #[.int .i64 n, .int .i64 q, .int .i64 s, .slice A len c] w
      fun e w' => (∃ A' c', e = .returned (.slice A' (safeF l n q s l.length).length c') ∧ Kd.int.Row 3 w.heap.size w' A' (safeF l n q s l.length)) ∧ Below w.heap.size w w' := by
  subst hlen
  obtain ⟨i0, hi, hz0, hz1, hz2⟩ := info_parts info3
  go_enter Try.func32, Try.ntmps32
  go_wp2_with fail
  go_loopw [9, 14] (fun vv kv w' => ∃ k : Nat, k ≤ l.length ∧ kv = .int .i64 k ∧ Kd.int.Own 3 w.heap.size w' w.heap.size vv (safeF l n q s k) ∧ Below w.heap.size w w') (fun _ kv _ => l.length - (intOf kv).toNat)
  case atStart => exact ⟨0, by omega, rfl, Kd.own_nil _ _ _ _ _, Below.refl _ _⟩
  case round =>
    obtain ⟨k, h1, rfl, own, bel⟩ := hrel
    by_cases h : k < l.length
    · have hk := List.getElem?_eq_getElem h
      obtain ⟨r, hr2⟩ : ∃ r, l[k]? = some r := ⟨_, hk⟩
      clear hk
      have hrow := Kd.row_below bel hr
      obtain ⟨ad, rfl, e0, e1, hh⟩ := kRule_at hrow hr2
      have bel2 := bl_alloc bel (.cells #[.int .i64 r.kind, .int .i64 r.n] 30)
      have own2 := Kd.own_below own (bl_alloc (Below.refl wr.heap.size wr) (.cells #[.int .i64 r.kind, .int .i64 r.n] 30))
      cases hq : quorumF r n q s with
      | true =>
        have hs := safeF_yes hr2 hq
        have HQ := Lib.hid hq
        have HS := Lib.hid hs
        clear hq hs
        have hlk := safeF_len l n q s k
        have hk64 : IntOk (k : Int) := by unfold IntOk; omega
        go_wp2_with (first
          | (go_at_call 27; refine (quorum_calls r n q s _).mono ?_; rw [HQ.out]; rintro e w1 ⟨rfl, b1⟩; have own3 := Kd.own_below own2 b1; have bel3 := bl_trans bel2 b1; have bel4 := bl_alloc bel3 (.cells #[.int .i64 (k : Int)] 3); have own4 := Kd.own_below own3 (bl_alloc (Below.refl w1.heap.size w1) (.cells #[.int .i64 (k : Int)] 3)))
          | (at_builtin; refine wpList_append_row _ rfl (.tmp 24) (.tmp 26) 51 rfl Kd.int w.heap.size w.heap.size 3 i0 _ 8 Try.underlying51 hi hz0 hz1 hz2 rfl (by decide) _ _ rfl own4 _ _ _ [(k : Int)] rfl rfl (Kd.row_fresh1 ⟨rfl, hk64⟩) (by simp only [List.length_singleton]; omega) (by decide) bel4.size (Nat.le_refl _) (by decide) ?_; intro v' w' own' grw at'))
        go_roundw
        case rel => exact ⟨k + 1, by omega, by go_num, by rw [HS.out]; exact own', Kd.own_step bel4 own4 grw⟩
        case measure => simp [intOf]; omega
      | false =>
        have hs := safeF_no hr2 hq
        have HQ := Lib.hid hq
        have HS := Lib.hid hs
        clear hq hs
        go_wp2_with (first | (go_at_call 27; refine (quorum_calls r n q s _).mono ?_; rw [HQ.out]; rintro e w1 ⟨rfl, b1⟩; have own3 := Kd.own_below own2 b1; have bel3 := bl_trans bel2 b1))
        go_roundw
        case rel => exact ⟨k + 1, by omega, by go_num, by rw [HS.out]; exact own3, bel3⟩
        case measure => simp [intOf]; omega
    · have hk : k = l.length := by omega
      subst hk
      obtain ⟨A', c', rfl, h3, h4, hrow, hb⟩ := Kd.own_row own
      go_wp2_with fail
      go_ret
      exact ⟨⟨A', c', rfl, hrow⟩, bel⟩
set_option maxRecDepth 100000 in
theorem safelaw_walk (n q s : Int) (l : List Rule) (A : Option Addr) (c : Nat) (w : World) (B : Nat) (hl : l.length ≤ 1048576) (hr : kRule.Row 30 B w A l) :
    Calls Try.prog 11 #[.int .i64 n, .int .i64 q, .int .i64 s, .slice A l.length c] w fun e w' => e = .returned (.bool true) ∧ Below w.heap.size w w' := by
  obtain ⟨i0, hi, hz0, hz1, hz2⟩ := info_parts info3
  go_enter Try.func11, Try.ntmps11
  go_wp2_with fail
  go_loopw [9, 10] (fun vv kv w' => ∃ k : Nat, k ≤ l.length ∧ kv = .int .i64 k ∧ Kd.int.Own 3 w.heap.size w' w.heap.size vv (safeF l n q s k) ∧ Below w.heap.size w w') (fun _ kv _ => l.length - (intOf kv).toNat)
  case atStart => exact ⟨0, by omega, rfl, Kd.own_nil _ _ _ _ _, Below.refl _ _⟩
  case round =>
    obtain ⟨k, h1, rfl, own, bel⟩ := hrel
    by_cases h : k < l.length
    · have hk := List.getElem?_eq_getElem h
      obtain ⟨r, hr2⟩ : ∃ r, l[k]? = some r := ⟨_, hk⟩
      clear hk
      have hrow := Kd.row_below bel hr
      obtain ⟨ad, rfl, e0, e1, hh⟩ := kRule_at hrow hr2
      cases hq : quorumF r n q s with
      | true =>
        have hs := safeF_yes hr2 hq
        have HQ := Lib.hid hq
        have HS := Lib.hid hs
        clear hq hs
        have hlk := safeF_len l n q s k
        have hk64 : IntOk (k : Int) := by unfold IntOk; omega
        go_wp2_with (first
          | (go_at_call 27; refine (quorum_calls r n q s _).mono ?_; rw [HQ.out]; rintro e w1 ⟨rfl, b1⟩; have own3 := Kd.own_below own b1; have bel3 := bl_trans bel b1; have bel4 := bl_alloc bel3 (.cells #[.int .i64 (k : Int)] 3); have own4 := Kd.own_below own3 (bl_alloc (Below.refl w1.heap.size w1) (.cells #[.int .i64 (k : Int)] 3)))
          | (at_builtin; refine wpList_append_row _ rfl (.tmp 25) (.tmp 27) 51 rfl Kd.int w.heap.size w.heap.size 3 i0 _ 8 Try.underlying51 hi hz0 hz1 hz2 rfl (by decide) _ _ rfl own4 _ _ _ [(k : Int)] rfl rfl (Kd.row_fresh1 ⟨rfl, hk64⟩) (by simp only [List.length_singleton]; omega) (by decide) bel4.size (Nat.le_refl _) (by decide) ?_; intro v' w' own' grw at'))
        go_roundw
        case rel => exact ⟨k + 1, by omega, by go_num, by rw [HS.out]; exact own', Kd.own_step bel4 own4 grw⟩
        case measure => simp [intOf]; omega
      | false =>
        have hs := safeF_no hr2 hq
        have HQ := Lib.hid hq
        have HS := Lib.hid hs
        clear hq hs
        go_wp2_with (first | (go_at_call 27; refine (quorum_calls r n q s _).mono ?_; rw [HQ.out]; rintro e w1 ⟨rfl, b1⟩; have own3 := Kd.own_below own b1; have bel3 := bl_trans bel b1))
        go_roundw
        case rel => exact ⟨k + 1, by omega, by go_num, by rw [HS.out]; exact own3, bel3⟩
        case measure => simp [intOf]; omega
    · have hk : k = l.length := by omega
      subst hk
      obtain ⟨A', c', rfl, h3, h4, hrow, hb⟩ := Kd.own_row own
      have hlk := safeF_len l n q s l.length
      have hd : decide (safeF l n q s l.length = safeF l n q s l.length) = true := by simp
      have HD := Lib.hid hd
      clear hd
      go_wp2_with (first
        | (go_at_call 32; refine (safe_calls n q s l A c l.length _ B rfl hl (Kd.row_below bel hr)).mono ?_; rintro e w2 ⟨⟨A2, c2, rfl, hr2⟩, b2⟩; have b3 := bl_trans bel b2)
        | (go_at_call 31; refine (ints_calls (safeF l n q s l.length) (safeF l n q s l.length) A2 A' _ c2 _ c' _ _ _ rfl rfl (by omega) hr2 (Kd.row_below b2 hrow)).mono ?_; rintro e w4 ⟨rfl, b4⟩; have b5 := bl_trans b3 b4)
        | (go_at_call 21; refine (alive37_calls _).mono ?_; rintro e w5 ⟨rfl, b6⟩; have b7 := bl_trans b5 b6))
      go_ret
      exact ⟨rfl, b7⟩
end Go.Proofs.Ytflfpfaebndefaa
