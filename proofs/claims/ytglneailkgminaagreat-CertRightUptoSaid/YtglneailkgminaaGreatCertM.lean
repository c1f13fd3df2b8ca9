/- Package cert: Make. No claim of its own; no condition. -/
import Derived.Test.YtglneailkgminaaGreatCertP
import Derived.Deep.RegionHeld3
namespace Go.Proofs.YtglneailkgminaaGreat
open Go.ChangeShapes Go.WideShapes Go.ChangeAt Go.RowKit Go.Sort
set_option linter.unusedVariables false
set_option linter.unusedSimpArgs false
theorem clip_calls (A : Option Addr) (n c : Nat) (w : World) (h : n ≤ c) (hn : n ≤ 2097152) : Calls Tryz.prog 18 #[.slice A n c] w fun e w' => e = .returned (.slice A n n) ∧ w' = w := by
  have h1 : (n : Int) ≤ (c : Int) := by omega
  have h0 : (0 : Int) ≤ (n : Int) := by omega
  go_enter Tryz.func18, Tryz.ntmps18
  go_wp2
  all_goals go_ret
  all_goals exact ⟨rfl, rfl⟩
theorem vrow_take {e : TypeId} {B : Nat} {w : World} {A : Option Addr} {xs : List Vote} (h : kVote.Row e B w A xs) (n : Nat) : kVote.Row e B w A (xs.take n) := by
  intro hne
  have hx : xs ≠ [] := by rintro rfl; simp at hne
  obtain ⟨ad, rfl, hb, hk⟩ := h hx
  refine ⟨ad, rfl, hb, fun i x hi => hk i x ?_⟩
  rw [List.getElem?_take] at hi
  split at hi
  · exact hi
  · cases hi
theorem cert_set {w : World} {b : Nat} {C : Array Value} (h : w.heap[b]? = some (.cells C 31 (0, 0))) {B : Nat} (hB : B ≤ b) (i : Nat) (u : Value) : Keeps B (29 :: kVote.E) w (w.setCell ⟨b, i, none⟩ u) ∧ (w.setCell ⟨b, i, none⟩ u).heap[b]? = some (.cells (C.setIfInBounds i u) 31 (0, 0)) :=
  ⟨Keeps.set (p := ⟨b, i, none⟩) h hB (by decide) u, heap_setCell_same w b i C 31 u h⟩
theorem cert_put {w : World} {b : Nat} {C : Array Value} (h : w.heap[b]? = some (.cells C 31 (0, 0))) {B : Nat} (hB : B ≤ b) (u0 u1 u2 u3 : Value) : Keeps B (29 :: kVote.E) w ((((w.setCell ⟨b, 0, none⟩ u0).setCell ⟨b, 1, none⟩ u1).setCell ⟨b, 2, none⟩ u2).setCell ⟨b, 3, none⟩ u3) := by
  obtain ⟨k0, h0⟩ := cert_set h hB 0 u0
  obtain ⟨k1, h1⟩ := cert_set h0 hB 1 u1
  obtain ⟨k2, h2⟩ := cert_set h1 hB 2 u2
  obtain ⟨k3, h3⟩ := cert_set h2 hB 3 u3
  exact ((k0.trans k1).trans k2).trans k3
theorem put_other {w : World} {b b' : Nat} {o : Obj} (h : w.heap[b']? = some o) (ne : b' ≠ b) (u0 u1 u2 u3 : Value) : ((((w.setCell ⟨b, 0, none⟩ u0).setCell ⟨b, 1, none⟩ u1).setCell ⟨b, 2, none⟩ u2).setCell ⟨b, 3, none⟩ u3).heap[b']? = some o := by
  have st : ∀ (w : World) (i : Nat) (u : Value), w.heap[b']? = some o → (w.setCell ⟨b, i, none⟩ u).heap[b']? = some o := fun w i u h => (Below.heap_setCell w ⟨b, i, none⟩ u b' ne).trans h
  exact st _ _ _ (st _ _ _ (st _ _ _ (st _ _ _ h)))
def badQ (o : List Vote) (q : Int) : Bool := decide (q < 1) || decide ((o.length : Int) < q)
set_option maxHeartbeats 6400000 in
set_option maxRecDepth 100000 in
theorem make_calls (l : List Vote) (m : Mark) (q : Int) (A : Option Addr) (c : Nat) (w : World) (hl : l.length ≤ 1048576) (hr : kVote.Row 29 w.heap.size w A l) :
    Calls Tryz.prog 6 #[.slice A l.length c, .agg #[.int .i64 m.view, .int .i64 m.height, .string m.block], .int .i64 q] w fun e w' =>
      ((badQ (ownF m l) q = true ∧ e = .returned (.tuple #[.agg #[.int .i64 0, .int .i64 0, .string ⟨#[]⟩, .slice none 0 0], .bool false])) ∨
       (badQ (ownF m l) q = false ∧ ∃ s A' n' c', s.Perm (ownF m l) ∧ Rises s ∧ n' = (s.take q.toNat).length ∧ e = .returned (.tuple #[.agg #[.int .i64 m.view, .int .i64 m.height, .string m.block, .slice A' n' c'], .bool true]) ∧ kVote.Row 29 w.heap.size w' A' (s.take q.toNat))) ∧ Below w.heap.size w w' := by
  obtain ⟨i0, hi, hz0, hz1, hz2⟩ := info_parts info_kVote
  have q0 := bl_alloc (bl_alloc (Below.refl w.heap.size w) (.cells #[.int .i64 m.view, .int .i64 m.height, .string m.block] 24)) (.cells #[.int .i64 0, .int .i64 0, .string ⟨#[]⟩, .slice none 0 0] 31)
  have a4 := alloc_old (alloc_new w (.cells #[.int .i64 m.view, .int .i64 m.height, .string m.block] 24)) (.cells #[.int .i64 0, .int .i64 0, .string ⟨#[]⟩, .slice none 0 0] 31)
  have a6 := alloc_new (w.alloc (.cells #[.int .i64 m.view, .int .i64 m.height, .string m.block] 24)) (.cells #[.int .i64 0, .int .i64 0, .string ⟨#[]⟩, .slice none 0 0] 31)
  have s1 : (w.alloc (.cells #[.int .i64 m.view, .int .i64 m.height, .string m.block] 24)).heap.size = w.heap.size + 1 := by simp
  rw [s1] at a6
  clear s1
  go_enter Tryz.func6, Tryz.ntmps6
  go_upto_region 1 with fail
  generalize (w.alloc (.cells #[.int .i64 m.view, .int .i64 m.height, .string m.block] 24)).alloc (.cells #[.int .i64 0, .int .i64 0, .string ⟨#[]⟩, .slice none 0 0] 31) = W at *
  have k0 := block_cell a4 (i := 0) rfl
  have k1 := block_cell a4 (i := 1) rfl
  have k2 := block_cell a4 (i := 2) rfl
  go_upto_region 2 with (go_at_call 12; refine (about54V_calls m _).mono ?_; rintro e w1 ⟨rfl, rfl⟩)
  have bA := bl_alloc (Below.refl W.heap.size W) (.cells #[.int .i64 m.view, .int .i64 m.height, .string m.block] 24)
  have a8 := alloc_new W (.cells #[.int .i64 m.view, .int .i64 m.height, .string m.block] 24)
  have hlt6 := blk_lt a6
  replace a4 := block_below bA a4
  replace a6 := block_below bA a6
  have q1 := bl_trans q0 bA
  clear k0 k1 k2 bA q0
  generalize W.alloc (.cells #[.int .i64 m.view, .int .i64 m.height, .string m.block] 24) = W1 at *
  have hlt8 := blk_lt a8
  generalize hb8 : W.heap.size = b8 at *
  clear hb8
  go_wp2_with fail
  go_loopw [9, 17] (fun vv kv w' => ∃ k : Nat, k ≤ l.length ∧ kv = .int .i64 k ∧ kVote.Own 29 w.heap.size w' W1.heap.size vv (ownF m (l.take k)) ∧ Below W1.heap.size W1 w') (fun _ kv _ => l.length - (intOf kv).toNat)
  case atStart => exact ⟨0, by omega, rfl, Kd.own_nil _ _ _ _ _, Below.refl _ _⟩
  case round =>
    obtain ⟨k, h1, rfl, own, bel⟩ := hrel
    have hle := own_le m l k
    by_cases h : k < l.length
    · obtain ⟨x, hx⟩ : ∃ x, l[k]? = some x := ⟨_, List.getElem?_eq_getElem h⟩
      obtain ⟨ad, rfl, e0, e1, e2, e3, e4, e5, e6, g0, g1, g2, g3, g4, g5, g6⟩ := kVote_at (Kd.row_below (bl_trans q1 bel) hr) hx
      have hs := own_step (m := m) hx
      generalize ownF m (l.take k) = o at *
      obtain ⟨A9, c9, rfl, hc9, hm9, row9, _⟩ := Kd.own_row own
      have hkI : (k : Int) < (l.length : Int) := by omega
      have bt := bl_alloc (Below.refl wr.heap.size wr) (.cells #[.int .i64 x.kind, .int .i64 x.view, .int .i64 x.height, .string x.block, .int .i64 x.ticks, .int .i64 x.signer, .string x.sig] 29)
      have bb := alloc_new wr (.cells #[.int .i64 x.kind, .int .i64 x.view, .int .i64 x.height, .string x.block, .int .i64 x.ticks, .int .i64 x.signer, .string x.sig] 29)
      have belt := bl_trans bel bt
      have ownt := Kd.own_below own bt
      have h8 := block_below belt a8
      clear hx own
      go_upto_region 6 with fail
      generalize wr.alloc (.cells #[.int .i64 x.kind, .int .i64 x.view, .int .i64 x.height, .string x.block, .int .i64 x.ticks, .int .i64 x.signer, .string x.sig] 29) = V at *
      have y0 := block_cell bb (i := 0) rfl
      have y1 := block_cell bb (i := 1) rfl
      have y2 := block_cell bb (i := 2) rfl
      have y3 := block_cell bb (i := 3) rfl
      have y4 := block_cell bb (i := 4) rfl
      have y5 := block_cell bb (i := 5) rfl
      have y6 := block_cell bb (i := 6) rfl
      have hia := isaboutV_calls x m b8 V (block_cell h8 (i := 0) rfl) (block_cell h8 (i := 1) rfl) (block_cell h8 (i := 2) rfl)
      cases hf : isF m x with
      | false =>
        rw [own_no (.inl hf)] at hs
        rw [hf] at hia
        have HS := Lib.hid hs
        have HIA := Lib.hid hia
        clear hs hia hf
        go_wp2_with (go_at_call 25; refine (HIA.out).mono ?_; rintro e w2 ⟨rfl, b2⟩)
        go_roundw
        case rel => exact ⟨k + 1, by omega, by go_num, by rw [HS.out]; exact Kd.own_below ownt b2, bl_trans belt b2⟩
        case measure => simp [intOf]; omega
      | true =>
        rw [hf] at hia
        have HIA := Lib.hid hia
        clear hia
        have HROW := Lib.hid row9
        cases ha : o.any (fun y => y.signer == x.signer) with
        | true =>
          rw [own_no (.inr ha)] at hs
          have HS := Lib.hid hs
          have HA := Lib.hid ha
          clear hs hf ha row9
          go_wp2_with (first
            | (go_at_call 25; refine (HIA.out).mono ?_; rintro e w2 ⟨rfl, b2⟩; have own2 := Kd.own_below ownt b2; have hcon := contains_calls o A9 _ c9 w2 w.heap.size 13 #[.pointer (some ⟨wr.heap.size, 0, none⟩)] (fun y => y.signer == x.signer) (enters_of Tryz.func13 (by kernel_rfl) rfl) rfl (by omega) (Kd.row_below (bl_trans bt b2) HROW.out) (fun y W' hb => same_calls y x.signer wr.heap.size W' (cell_below hb (cell_below b2 y5))); rw [HA.out] at hcon; have HCON := Lib.hid hcon; clear hcon)
            | (go_at_call 14; refine (HCON.out).mono ?_; rintro e w3 ⟨rfl, b3⟩; have own3 := Kd.own_below own2 b3))
          go_roundw
          case rel => exact ⟨k + 1, by omega, by go_num, by rw [HS.out]; exact own3, bl_trans belt (bl_trans b2 b3)⟩
          case measure => simp [intOf]; omega
        | false =>
          rw [own_yes hf ha] at hs
          have HS := Lib.hid hs
          have HA := Lib.hid ha
          clear hs hf ha row9
          go_wp2_with (first
            | (go_at_call 25; refine (HIA.out).mono ?_; rintro e w2 ⟨rfl, b2⟩; have own2 := Kd.own_below ownt b2; have hcon := contains_calls o A9 _ c9 w2 w.heap.size 13 #[.pointer (some ⟨wr.heap.size, 0, none⟩)] (fun y => y.signer == x.signer) (enters_of Tryz.func13 (by kernel_rfl) rfl) rfl (by omega) (Kd.row_below (bl_trans bt b2) HROW.out) (fun y W' hb => same_calls y x.signer wr.heap.size W' (cell_below hb (cell_below b2 y5))); rw [HA.out] at hcon; have HCON := Lib.hid hcon; clear hcon)
            | (go_at_call 14; refine (HCON.out).mono ?_; rintro e w3 ⟨rfl, b3⟩; have own3 := Kd.own_below own2 b3; have b23 := bl_trans b2 b3; have z0 := cell_below b23 y0; have z1 := cell_below b23 y1; have z2 := cell_below b23 y2; have z3 := cell_below b23 y3; have z4 := cell_below b23 y4; have z5 := cell_below b23 y5; have z6 := cell_below b23 y6; have bel4 := bl_alloc (bl_trans belt b23) (.cells #[.int .i64 x.kind, .int .i64 x.view, .int .i64 x.height, .string x.block, .int .i64 x.ticks, .int .i64 x.signer, .string x.sig] 29); have own4 := Kd.own_below own3 (bl_alloc (Below.refl w3.heap.size w3) (.cells #[.int .i64 x.kind, .int .i64 x.view, .int .i64 x.height, .string x.block, .int .i64 x.ticks, .int .i64 x.signer, .string x.sig] 29)))
            | (at_builtin; refine wpList_append_row _ rfl (.tmp 31) (.tmp 33) 22 rfl kVote w.heap.size W1.heap.size 29 i0 _ 72 Tryz.underlying22 hi hz0 hz1 hz2 rfl (by decide) _ _ rfl own4 _ _ _ [x] rfl rfl (Kd.row_fresh1 (kVote_mk x g0 g1 g2 g3 g4 g5 g6)) (by simp only [List.length_singleton]; omega) (by decide) bel4.size q1.size (by decide) ?_; intro v' w' own' grw at'))
          go_roundw
          case rel => exact ⟨k + 1, by omega, by go_num, by rw [HS.out]; exact own', Kd.own_step bel4 own4 grw⟩
          case measure => simp [intOf]; omega
    · have hkl : k = l.length := by omega
      subst hkl
      rw [List.take_of_length_le (Nat.le_refl _)] at own hle
      have hdis := own_distinct m l
      obtain ⟨o, ho⟩ : ∃ o, ownF m l = o := ⟨_, rfl⟩
      rw [ho] at own hle hdis
      have HOF := Lib.hid ho
      clear ho
      have hnI : ¬ ((l.length : Int) < (l.length : Int)) := by omega
      have n6 := block_below bel a6
      have n4 := block_below bel a4
      have qe := bl_trans q1 bel
      have hcs := sortVote o _ wr w.heap.size W1.heap.size (by omega) own
      obtain ⟨A9, c9, rfl, hc9, hm9, row9, _⟩ := Kd.own_row own
      have le6 : w.heap.size ≤ w.heap.size + 1 := by omega
      have HO := Lib.hid own
      have HC := Lib.hid hcs
      have HD := Lib.hid hdis
      have H4 := Lib.hid a4
      have H6 := Lib.hid a6
      clear own hcs hdis row9 a4 a6 a8
      by_cases hq1 : q < 1
      · have hb : badQ o q = true := by simp [badQ, hq1]
        have HB := Lib.hid hb
        clear hb
        have z0 := block_cell n6 (i := 0) rfl
        have z1 := block_cell n6 (i := 1) rfl
        have z2 := block_cell n6 (i := 2) rfl
        have z3 := block_cell n6 (i := 3) rfl
        have f0 := frozen_of_row _ _ 0 _ 31 n6
        have f1 := frozen_of_row _ _ 1 _ 31 n6
        have f2 := frozen_of_row _ _ 2 _ 31 n6
        have f3 := frozen_of_row _ _ 3 _ 31 n6
        go_wp2_with fail
        refine bodyPost_ret (v := .tuple #[.agg #[.int .i64 0, .int .i64 0, .string ⟨#[]⟩, .slice none 0 0], .bool false]) (by simp [results, Tryz.results6, go_sem, z0, z1, z2, z3]) rfl ⟨.inl ⟨by rw [HOF.out]; exact HB.out, rfl⟩, ?_⟩
        exact bl_set (bl_set (bl_set (bl_set qe le6 _) le6 _) le6 _) le6 _
      · by_cases hq2 : (o.length : Int) < q
        · have hb : badQ o q = true := by simp [badQ, hq2]
          have HB := Lib.hid hb
          clear hb
          have z0 := block_cell n6 (i := 0) rfl
          have z1 := block_cell n6 (i := 1) rfl
          have z2 := block_cell n6 (i := 2) rfl
          have z3 := block_cell n6 (i := 3) rfl
          have f0 := frozen_of_row _ _ 0 _ 31 n6
          have f1 := frozen_of_row _ _ 1 _ 31 n6
          have f2 := frozen_of_row _ _ 2 _ 31 n6
          have f3 := frozen_of_row _ _ 3 _ 31 n6
          go_wp2_with fail
          refine bodyPost_ret (v := .tuple #[.agg #[.int .i64 0, .int .i64 0, .string ⟨#[]⟩, .slice none 0 0], .bool false]) (by simp [results, Tryz.results6, go_sem, z0, z1, z2, z3]) rfl ⟨.inl ⟨by rw [HOF.out]; exact HB.out, rfl⟩, ?_⟩
          exact bl_set (bl_set (bl_set (bl_set qe le6 _) le6 _) le6 _) le6 _
        · have hb : badQ o q = false := by simp [badQ]; omega
          have HB := Lib.hid hb
          clear hb
          obtain ⟨n, rfl⟩ : ∃ n : Nat, q = n := ⟨q.toNat, by omega⟩
          have hn1 : n ≤ o.length := by omega
          have hnI1 : (n : Int) ≤ (c9 : Int) := by omega
          clear n4 n6
          go_upto_region 13 with (go_at_call 15; refine (HC.out).mono ?_; rintro e w2 ⟨rfl, ⟨s, hpm, hso, own2⟩, g2⟩; have b2 := Kd.own_step bel HO.out g2)
          have n4 := block_below b2 H4.out
          have n6 := block_below b2 H6.out
          have qe2 := bl_trans q1 b2
          have hris := rises_of hpm HD.out hso
          obtain ⟨A', c', he, _, _, row2, _⟩ := Kd.own_row own2
          simp only [Value.slice.injEq] at he
          obtain ⟨hx1, hx2, hx3⟩ := he
          subst hx1
          clear hx2 hx3 own2 g2 b2 hso
          have HP := Lib.hid hpm
          have HRI := Lib.hid hris
          have HR := Lib.hid row2
          have HN6 := Lib.hid n6
          clear hpm hris row2
          have m0 : ∀ w', (Below w.heap.size w w' ∧ w'.heap[w.heap.size]? = some (.cells #[.int .i64 m.view, .int .i64 m.height, .string m.block] 24)) → w'.cell? ⟨w.heap.size, 0, none⟩ = some (.int .i64 m.view) := fun w' h => block_cell h.2 (i := 0) rfl
          have m1 : ∀ w', (Below w.heap.size w w' ∧ w'.heap[w.heap.size]? = some (.cells #[.int .i64 m.view, .int .i64 m.height, .string m.block] 24)) → w'.cell? ⟨w.heap.size, 1, none⟩ = some (.int .i64 m.height) := fun w' h => block_cell h.2 (i := 1) rfl
          have m2 : ∀ w', (Below w.heap.size w w' ∧ w'.heap[w.heap.size]? = some (.cells #[.int .i64 m.view, .int .i64 m.height, .string m.block] 24)) → w'.cell? ⟨w.heap.size, 2, none⟩ = some (.string m.block) := fun w' h => block_cell h.2 (i := 2) rfl
          have S0 : Below w.heap.size w w2 ∧ w2.heap[w.heap.size]? = some (.cells #[.int .i64 m.view, .int .i64 m.height, .string m.block] 24) := ⟨qe2, n4⟩
          have S1 : Below w.heap.size w w2.drew ∧ w2.drew.heap[w.heap.size]? = some (.cells #[.int .i64 m.view, .int .i64 m.height, .string m.block] 24) := ⟨bl_drew qe2, n4⟩
          have ne46 : w.heap.size ≠ w.heap.size + 1 := by omega
          have SX : ∀ u0 u1 u2 u3 : Value, Below w.heap.size w ((((w2.drew.setCell ⟨w.heap.size + 1, 0, none⟩ u0).setCell ⟨w.heap.size + 1, 1, none⟩ u1).setCell ⟨w.heap.size + 1, 2, none⟩ u2).setCell ⟨w.heap.size + 1, 3, none⟩ u3) ∧ ((((w2.drew.setCell ⟨w.heap.size + 1, 0, none⟩ u0).setCell ⟨w.heap.size + 1, 1, none⟩ u1).setCell ⟨w.heap.size + 1, 2, none⟩ u2).setCell ⟨w.heap.size + 1, 3, none⟩ u3).heap[w.heap.size]? = some (.cells #[.int .i64 m.view, .int .i64 m.height, .string m.block] 24) :=
            fun u0 u1 u2 u3 => ⟨bl_set (bl_set (bl_set (bl_set (bl_drew qe2) le6 _) le6 _) le6 _) le6 _, put_other (w := w2.drew) n4 ne46 u0 u1 u2 u3⟩
          have z0 := block_cell n6 (i := 0) rfl
          have z1 := block_cell n6 (i := 1) rfl
          have z2 := block_cell n6 (i := 2) rfl
          have z3 := block_cell n6 (i := 3) rfl
          have f0 := frozen_of_row _ _ 0 _ 31 n6
          have f1 := frozen_of_row _ _ 1 _ 31 n6
          have f2 := frozen_of_row _ _ 2 _ 31 n6
          have f3 := frozen_of_row _ _ 3 _ 31 n6
          clear n6 n4
          go_region_held3 (fun w' => Below w.heap.size w w' ∧ w'.heap[w.heap.size]? = some (.cells #[.int .i64 m.view, .int .i64 m.height, .string m.block] 24)) (first | exact S0 | exact S1 | exact SX _ _ _ _ | assumption) ((go_at_call 18; refine (clip_calls _ _ c9 _ (by omega) (by omega)).mono ?_; rintro e w3 ⟨rfl, rfl⟩))
          all_goals
            go_wp2_with fail
            refine bodyPost_ret (v := .tuple #[.agg #[.int .i64 m.view, .int .i64 m.height, .string m.block, .slice A9 n n], .bool true]) (by simp [results, Tryz.results6, go_sem, z0, z1, z2, z3]) rfl ⟨.inr ⟨by rw [HOF.out]; exact HB.out, s, A9, n, n, by rw [HOF.out]; exact HP.out, HRI.out, ?_, rfl, ?_⟩, (SX _ _ _ _).1⟩
            · have := HP.out.length_eq
              rw [List.length_take]
              omega
            · rw [Int.toNat_natCast]
              exact Kd.row_keep (cert_put (w := w2.drew) HN6.out le6 _ _ _ _) (Kd.row_below (bl_drew (Below.refl w2.heap.size w2)) (vrow_take HR.out n))
end Go.Proofs.YtglneailkgminaaGreat
