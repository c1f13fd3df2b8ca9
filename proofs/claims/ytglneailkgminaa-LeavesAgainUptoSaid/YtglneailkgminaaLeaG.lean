/- Package leaves: All. No claim of its own; no condition. -/
import Derived.Test.YtglneailkgminaaLeaF
import Derived.Test.YtglneailkgminaaSortU
namespace Go.Proofs.Ytglneailkgminaa
open Go.ChangeShapes Go.WideShapes Go.ChangeAt Go.RowKit Go.Sort
set_option linter.unusedVariables false
set_option linter.unusedSimpArgs false
def usesIn (roots : List ByteArray) (l : List Vote) : List Use := l.filterMap fun v => useF v roots
theorem uses_step {roots : List ByteArray} {l : List Vote} {k : Nat} {x : Vote} (h : l[k]? = some x) : usesIn roots (l.take (k + 1)) = usesIn roots (l.take k) ++ (match useF x roots with | some u => [u] | none => []) := by
  unfold usesIn
  rw [List.take_add_one, h, List.filterMap_append]
  cases hp : useF x roots <;> simp [hp]
theorem uses_le (roots : List ByteArray) (l : List Vote) (k : Nat) : (usesIn roots (l.take k)).length ≤ k := by
  unfold usesIn
  exact Nat.le_trans (List.length_filterMap_le _ _) (by rw [List.length_take]; omega)
theorem useF_ok {v : Vote} {roots : List ByteArray} {u : Use} (h : useF v roots = some u) (hs : IntOk v.signer) : IntOk u.signer ∧ IntOk u.leaf ∧ u.text.size ≤ 140737488351232 := by
  unfold useF at h
  split at h
  · rename_i hval
    have hval' := hval
    unfold validV at hval'
    simp only [Bool.and_eq_true, decide_eq_true_eq] at hval'
    obtain ⟨hok, _, _⟩ := hval'
    have htl := (vfW_ok hok).2
    cases h
    refine ⟨hs, ?_, ?_⟩
    · show IntOk (((verF _ 4 (vtB v) v.sig).getD 0 : Nat) : Int)
      have : (verF (roots.getD v.signer.toNat ⟨#[]⟩) 4 (vtB v) v.sig).getD 0 < 65536 := by
        unfold verF
        split
        · exact leafN_lt _
        · decide
      unfold IntOk
      omega
    · show (vtB v).toArray.size ≤ _
      have : (vtB v).length ≤ 16384 := htl
      simp only [List.size_toArray]
      omega
  · cases h
theorem fresh2U (B : Nat) (W : World) (u : Use) (q0 : IntOk u.signer) (q1 : IntOk u.leaf) (q2 : u.text.size ≤ 140737488351232) : kUse.Row 71 B ((W.alloc (.cells #[.int .i64 u.signer, .int .i64 u.leaf, .string u.text] 71)).alloc (.cells #[.int .i64 u.signer, .int .i64 u.leaf, .string u.text] 71)) (some ⟨W.heap.size + 1, 0, none⟩) [u] := by
  have := Kd.row_fresh1 (d := kUse) (e := 71) (B := B) (w := W.alloc (.cells #[.int .i64 u.signer, .int .i64 u.leaf, .string u.text] 71)) (x := u) (cs := #[.int .i64 u.signer, .int .i64 u.leaf, .string u.text]) (kUse_mk u q0 q1 q2)
  rwa [World.size_alloc] at this
set_option maxHeartbeats 3200000 in
set_option maxRecDepth 100000 in
theorem all_calls (l : List Vote) (roots : List ByteArray) (A Ar : Option Addr) (n nr c cr : Nat) (w : World) (B : Nat) (hn : n = l.length) (hnr : nr = roots.length) (hl : l.length ≤ 1048576) (hlr : roots.length ≤ 1048576) (hr : kVote.Row 28 B w A l) (hrr : Kd.str.Row 9 B w Ar roots) :
    Calls Try.prog 35 #[.slice A n c, .slice Ar nr cr] w fun e w' => (∃ v M, e = .returned v ∧ kUse.Own 71 w.heap.size w' w.heap.size v (compF M) ∧ M.Perm (usesIn roots l) ∧ M.Pairwise fun a b => ltOf ordU b a = false) ∧ Below w.heap.size w w' := by
  subst hn hnr
  obtain ⟨i0, hi, hz0, hz1, hz2⟩ := info_parts info_kUse
  go_enter Try.func35, Try.ntmps35
  go_wp2_with fail
  go_loopw [5, 12] (fun vv kv w' => ∃ k : Nat, k ≤ l.length ∧ kv = .int .i64 k ∧ kUse.Own 71 w.heap.size w' w.heap.size vv (usesIn roots (l.take k)) ∧ Below w.heap.size w w') (fun _ kv _ => l.length - (intOf kv).toNat)
  case atStart => exact ⟨0, by omega, rfl, Kd.own_nil _ _ _ _ _, Below.refl _ _⟩
  case round =>
    obtain ⟨k, h1, rfl, own, bel⟩ := hrel
    by_cases h : k < l.length
    · obtain ⟨x, hx⟩ : ∃ x, l[k]? = some x := ⟨_, List.getElem?_eq_getElem h⟩
      obtain ⟨ad, rfl, e0, e1, e2, e3, e4, e5, e6, g0, g1, g2, g3, g4, g5, g6⟩ := kVote_at (Kd.row_below bel hr) hx
      have hs := uses_step (roots := roots) hx
      have hle := uses_le roots l k
      have hkI : (k : Int) < (l.length : Int) := by omega
      have bt := bl_alloc (Below.refl wr.heap.size wr) (.cells #[.int .i64 x.kind, .int .i64 x.view, .int .i64 x.height, .string x.block, .int .i64 x.ticks, .int .i64 x.signer, .string x.sig] 28)
      have bel2 := bl_trans bel bt
      have own2 := Kd.own_below own bt
      have rr2 := Kd.row_below bel2 hrr
      have hof := of_calls x roots Ar roots.length cr B (wr.alloc (.cells #[.int .i64 x.kind, .int .i64 x.view, .int .i64 x.height, .string x.block, .int .i64 x.ticks, .int .i64 x.signer, .string x.sig] 28)) rfl rr2 g6 hlr
      clear hx
      cases ho : useF x roots with
      | none =>
        rw [ho] at hs hof
        have hof2 : Calls Try.prog 62 #[.agg #[.int .i64 x.kind, .int .i64 x.view, .int .i64 x.height, .string x.block, .int .i64 x.ticks, .int .i64 x.signer, .string x.sig], .slice Ar roots.length cr] (wr.alloc (.cells #[.int .i64 x.kind, .int .i64 x.view, .int .i64 x.height, .string x.block, .int .i64 x.ticks, .int .i64 x.signer, .string x.sig] 28)) fun e w' => e = .returned (.tuple #[.agg #[.int .i64 0, .int .i64 0, .string ⟨#[]⟩], .bool false]) ∧ Below (wr.alloc (.cells #[.int .i64 x.kind, .int .i64 x.view, .int .i64 x.height, .string x.block, .int .i64 x.ticks, .int .i64 x.signer, .string x.sig] 28)).heap.size (wr.alloc (.cells #[.int .i64 x.kind, .int .i64 x.view, .int .i64 x.height, .string x.block, .int .i64 x.ticks, .int .i64 x.signer, .string x.sig] 28)) w' := hof
        dsimp only at hs
        rw [List.append_nil] at hs
        have HS := Lib.hid hs
        have HOF := Lib.hid hof2
        clear hs hof hof2 ho
        go_wp2_with (go_at_call 62; refine (HOF.out).mono ?_; rintro e w1 ⟨rfl, b1⟩; have own3 := Kd.own_below own2 b1; have bel3 := bl_trans bel2 b1)
        go_roundw
        case rel => exact ⟨k + 1, by omega, by go_num, by rw [HS.out]; exact Kd.own_below own3 (bl_alloc (Below.refl _ _) _), bl_alloc bel3 _⟩
        case measure => simp [intOf]; omega
      | some u =>
        rw [ho] at hs hof
        obtain ⟨q0, q1, q2⟩ := useF_ok ho g5
        have hof2 : Calls Try.prog 62 #[.agg #[.int .i64 x.kind, .int .i64 x.view, .int .i64 x.height, .string x.block, .int .i64 x.ticks, .int .i64 x.signer, .string x.sig], .slice Ar roots.length cr] (wr.alloc (.cells #[.int .i64 x.kind, .int .i64 x.view, .int .i64 x.height, .string x.block, .int .i64 x.ticks, .int .i64 x.signer, .string x.sig] 28)) fun e w' => e = .returned (.tuple #[.agg #[.int .i64 u.signer, .int .i64 u.leaf, .string u.text], .bool true]) ∧ Below (wr.alloc (.cells #[.int .i64 x.kind, .int .i64 x.view, .int .i64 x.height, .string x.block, .int .i64 x.ticks, .int .i64 x.signer, .string x.sig] 28)).heap.size (wr.alloc (.cells #[.int .i64 x.kind, .int .i64 x.view, .int .i64 x.height, .string x.block, .int .i64 x.ticks, .int .i64 x.signer, .string x.sig] 28)) w' := hof
        dsimp only at hs
        have HS := Lib.hid hs
        have HOF := Lib.hid hof2
        clear hs hof hof2 ho
        go_wp2_with (first
          | (go_at_call 62; refine (HOF.out).mono ?_; rintro e w1 ⟨rfl, b1⟩; have own3 := Kd.own_below own2 b1; have bel3 := bl_trans bel2 b1; have bel4 := bl_alloc (bl_alloc bel3 (.cells #[.int .i64 u.signer, .int .i64 u.leaf, .string u.text] 71)) (.cells #[.int .i64 u.signer, .int .i64 u.leaf, .string u.text] 71); have own4 := Kd.own_below own3 (bl_alloc (bl_alloc (Below.refl w1.heap.size w1) (.cells #[.int .i64 u.signer, .int .i64 u.leaf, .string u.text] 71)) (.cells #[.int .i64 u.signer, .int .i64 u.leaf, .string u.text] 71)))
          | (at_builtin; refine wpList_append_row _ rfl (.tmp 23) (.tmp 25) 67 rfl kUse w.heap.size w.heap.size 71 i0 _ 32 Try.underlying67 hi hz0 hz1 hz2 rfl (by decide) _ _ rfl own4 _ _ _ [u] rfl rfl (fresh2U _ _ u q0 q1 q2) (by simp only [List.length_singleton]; omega) (by decide) bel4.size (Nat.le_refl _) (by decide) ?_; intro v' w' own' grw at'))
        go_roundw
        case rel => exact ⟨k + 1, by omega, by go_num, by rw [HS.out]; exact own', Kd.own_step bel4 own4 grw⟩
        case measure => simp [intOf]; omega
    · have hk : k = l.length := by omega
      subst hk
      rw [List.take_of_length_le (Nat.le_refl _)] at own
      have hle := uses_le roots l l.length
      rw [List.take_of_length_le (Nat.le_refl _)] at hle
      have hcs := sortUse (usesIn roots l) _ wr w.heap.size w.heap.size (by omega) own
      have HC := Lib.hid hcs
      have HO := Lib.hid own
      have hkI : ¬ ((l.length : Int) < (l.length : Int)) := by omega
      clear hcs own
      go_wp2_with (first
        | (go_at_call 63; refine (HC.out).mono ?_; rintro e w1 ⟨rfl, ⟨M, hpm, hso, own1⟩, g1⟩; have b1 := Kd.own_step bel HO.out g1; have hlM := hpm.length_eq; have hcm := compact_kUse M _ w1 w.heap.size w.heap.size (by omega) own1; have HM := Lib.hid hcm; have HP := Lib.hid hpm; have HSO := Lib.hid hso; have HO1 := Lib.hid own1; clear hcm hpm hso own1)
        | (go_at_call 65; refine (HM.out).mono ?_; rintro e w2 ⟨⟨v2, rfl, own2⟩, g2⟩; have b2 := Kd.own_step b1 HO1.out g2))
      go_ret
      exact ⟨⟨v2, M, rfl, own2, HP.out, HSO.out⟩, b2⟩
end Go.Proofs.Ytglneailkgminaa
