/- Package mootref06: Num, Text. No claim of its own; no condition. -/
import Derived.Test.YtglneailkgminaaGreatRefF
import Derived.Test.YtglneailkgminaaGreatVotC
namespace Go.Proofs.YtglneailkgminaaGreat
open Go.ChangeShapes Go.WideShapes Go.ChangeAt Go.RowKit
set_option linter.unusedVariables false
set_option linter.unusedSimpArgs false
/-- A pair's block, written anew. -/
theorem res2 {X : World} {g : Nat} {a b p q : Value} {t : TypeId} (h : X.heap[g]? = some (.cells #[a, b] t (0, 0))) :
    ((X.setCell ⟨g, 0, none⟩ p).setCell ⟨g, 1, none⟩ q).cell? ⟨g, 0, none⟩ = some p ∧ ((X.setCell ⟨g, 0, none⟩ p).setCell ⟨g, 1, none⟩ q).cell? ⟨g, 1, none⟩ = some q := by
  have h1 := block_set (i := 0) (u := p) h
  have h2 := block_set (i := 1) (u := q) h1
  exact ⟨block_cell h2 (i := 0) (by simp), block_cell h2 (i := 1) (by simp)⟩
theorem k_fin {w w' : World} {B : Nat} {b : List UInt8} {v : Value} {e : Int} {x : Ending} (bz : Below w.heap.size w w') (hk : kBB.K B w b [v]) (hx : x = .returned (.agg #[v, .int .i64 e])) :
    (∃ v', x = .returned (.agg #[v', .int .i64 e]) ∧ kBB.K B w' b [v']) ∧ Below w.heap.size w w' := ⟨⟨v, hx, k_rb bz hk⟩, bz⟩
set_option maxHeartbeats 3200000 in
set_option maxRecDepth 100000 in
theorem refnum_calls (s : List UInt8 × Int) (n : Int) (v : Value) (B : Nat) (w : World) (hk : kBB.K B w s.1 [v]) (hl : s.1.length ≤ 65536) :
    Calls Tryz.prog 43 #[.agg #[v, .int .i64 s.2], .int .i64 n] w fun x w' => (∃ v', x = .returned (.agg #[v', .int .i64 (numW s n).2]) ∧ kBB.K B w' (numW s n).1 [v']) ∧ Below w.heap.size w w' := by
  obtain ⟨b, e⟩ := s
  dsimp only at hk hl ⊢
  obtain ⟨A, c, rfl, lc, mc, row⟩ := k_form hk
  obtain ⟨i0, hi, hz0, hz1, hz2⟩ := info_parts info_u8
  have q0 := bl_alloc (bl_alloc (Below.refl w.heap.size w) (.cells #[.slice A b.length c, .int .i64 e] 56)) (.cells #[.slice none 0 0, .int .i64 0] 56)
  have a0 : ((w.alloc (.cells #[.slice A b.length c, .int .i64 e] 56)).alloc (.cells #[.slice none 0 0, .int .i64 0] 56)).heap[w.heap.size]? = some (.cells #[.slice A b.length c, .int .i64 e] 56 (0, 0)) := alloc_old (alloc_new w _) _
  have a1 : ((w.alloc (.cells #[.slice A b.length c, .int .i64 e] 56)).alloc (.cells #[.slice none 0 0, .int .i64 0] 56)).heap[w.heap.size + 1]? = some (.cells #[.slice none 0 0, .int .i64 0] 56 (0, 0)) := by
    have := alloc_new (w.alloc (.cells #[.slice A b.length c, .int .i64 e] 56)) (.cells #[.slice none 0 0, .int .i64 0] 56)
    rwa [World.size_alloc] at this
  obtain ⟨G, hG⟩ : ∃ G, w.heap.size = G := ⟨_, rfl⟩
  have HG := Lib.hid hG
  have HK := Lib.hid hk
  clear hk
  by_cases hbad : n < 0 ∨ 1099511627776 < n
  · by_cases h0 : (e == 0) = true
    · have hw : numW (b, e) n = (b, 4) := by unfold numW errF; rw [if_pos hbad, if_pos h0]
      rw [hw]
      clear hw
      rcases hbad with hn | hn
      · have hneg : n < 0 := hn
        go_enter Tryz.func43, Tryz.ntmps43
        go_upto_region 1 with fail
        generalize (w.alloc (.cells #[.slice A b.length c, .int .i64 e] 56)).alloc (.cells #[.slice none 0 0, .int .i64 0] 56) = V at *
        simp only [hG] at a0 a1 ⊢
        clear hG
        have x0 := block_cell a0 (i := 0) rfl
        have x1 := block_cell a0 (i := 1) rfl
        have y0 := block_cell a1 (i := 0) rfl
        have y1 := block_cell a1 (i := 1) rfl
        have z0 : V.frozen? ⟨G, 0, none⟩ = false := block_free a0
        have z1 : V.frozen? ⟨G, 1, none⟩ = false := block_free a0
        have z2 : V.frozen? ⟨G + 1, 0, none⟩ = false := block_free a1
        have z3 : V.frozen? ⟨G + 1, 1, none⟩ = false := block_free a1
        go_wp2_with fail
        have R := res2 (p := .slice A b.length c) (q := .int .i64 4) (block_far (i := 1) (u := .int .i64 4) a1 (show G + 1 ≠ G by omega))
        refine bodyPost_ret (v := .agg #[.slice A b.length c, .int .i64 4]) (by simp [results, Tryz.results43, go_sem, R.1, R.2]) rfl ?_
        have le : w.heap.size ≤ G := by have := HG.out; omega
        have le1 : w.heap.size ≤ G + 1 := by omega
        refine k_fin ?_ HK.out rfl
        exact bl_set (bl_set (bl_set q0 le _) le1 _) le1 _
      · have hneg : ¬ (n < 0) := by omega
        have hbig : n > 1099511627776 := hn
        go_enter Tryz.func43, Tryz.ntmps43
        go_upto_region 1 with fail
        generalize (w.alloc (.cells #[.slice A b.length c, .int .i64 e] 56)).alloc (.cells #[.slice none 0 0, .int .i64 0] 56) = V at *
        simp only [hG] at a0 a1 ⊢
        clear hG
        have x0 := block_cell a0 (i := 0) rfl
        have x1 := block_cell a0 (i := 1) rfl
        have y0 := block_cell a1 (i := 0) rfl
        have y1 := block_cell a1 (i := 1) rfl
        have z0 : V.frozen? ⟨G, 0, none⟩ = false := block_free a0
        have z1 : V.frozen? ⟨G, 1, none⟩ = false := block_free a0
        have z2 : V.frozen? ⟨G + 1, 0, none⟩ = false := block_free a1
        have z3 : V.frozen? ⟨G + 1, 1, none⟩ = false := block_free a1
        go_wp2_with fail
        have R := res2 (p := .slice A b.length c) (q := .int .i64 4) (block_far (i := 1) (u := .int .i64 4) a1 (show G + 1 ≠ G by omega))
        refine bodyPost_ret (v := .agg #[.slice A b.length c, .int .i64 4]) (by simp [results, Tryz.results43, go_sem, R.1, R.2]) rfl ?_
        have le : w.heap.size ≤ G := by have := HG.out; omega
        have le1 : w.heap.size ≤ G + 1 := by omega
        refine k_fin ?_ HK.out rfl
        exact bl_set (bl_set (bl_set q0 le _) le1 _) le1 _
    · have h0' : (e == 0) = false := by simpa using h0
      have hw : numW (b, e) n = (b, e) := by unfold numW errF; rw [if_pos hbad, if_neg h0]
      rw [hw]
      clear hw h0
      rcases hbad with hn | hn
      · have hneg : n < 0 := hn
        go_enter Tryz.func43, Tryz.ntmps43
        go_upto_region 1 with fail
        generalize (w.alloc (.cells #[.slice A b.length c, .int .i64 e] 56)).alloc (.cells #[.slice none 0 0, .int .i64 0] 56) = V at *
        simp only [hG] at a0 a1 ⊢
        clear hG
        have x0 := block_cell a0 (i := 0) rfl
        have x1 := block_cell a0 (i := 1) rfl
        have y0 := block_cell a1 (i := 0) rfl
        have y1 := block_cell a1 (i := 1) rfl
        have z0 : V.frozen? ⟨G, 0, none⟩ = false := block_free a0
        have z1 : V.frozen? ⟨G, 1, none⟩ = false := block_free a0
        have z2 : V.frozen? ⟨G + 1, 0, none⟩ = false := block_free a1
        have z3 : V.frozen? ⟨G + 1, 1, none⟩ = false := block_free a1
        go_wp2_with fail
        have R := res2 (p := .slice A b.length c) (q := .int .i64 e) a1
        refine bodyPost_ret (v := .agg #[.slice A b.length c, .int .i64 e]) (by simp [results, Tryz.results43, go_sem, R.1, R.2]) rfl ?_
        have le : w.heap.size ≤ G := by have := HG.out; omega
        have le1 : w.heap.size ≤ G + 1 := by omega
        refine k_fin ?_ HK.out rfl
        exact bl_set (bl_set q0 le1 _) le1 _
      · have hneg : ¬ (n < 0) := by omega
        have hbig : n > 1099511627776 := hn
        go_enter Tryz.func43, Tryz.ntmps43
        go_upto_region 1 with fail
        generalize (w.alloc (.cells #[.slice A b.length c, .int .i64 e] 56)).alloc (.cells #[.slice none 0 0, .int .i64 0] 56) = V at *
        simp only [hG] at a0 a1 ⊢
        clear hG
        have x0 := block_cell a0 (i := 0) rfl
        have x1 := block_cell a0 (i := 1) rfl
        have y0 := block_cell a1 (i := 0) rfl
        have y1 := block_cell a1 (i := 1) rfl
        have z0 : V.frozen? ⟨G, 0, none⟩ = false := block_free a0
        have z1 : V.frozen? ⟨G, 1, none⟩ = false := block_free a0
        have z2 : V.frozen? ⟨G + 1, 0, none⟩ = false := block_free a1
        have z3 : V.frozen? ⟨G + 1, 1, none⟩ = false := block_free a1
        go_wp2_with fail
        have R := res2 (p := .slice A b.length c) (q := .int .i64 e) a1
        refine bodyPost_ret (v := .agg #[.slice A b.length c, .int .i64 e]) (by simp [results, Tryz.results43, go_sem, R.1, R.2]) rfl ?_
        have le : w.heap.size ≤ G := by have := HG.out; omega
        have le1 : w.heap.size ≤ G + 1 := by omega
        refine k_fin ?_ HK.out rfl
        exact bl_set (bl_set q0 le1 _) le1 _
  · obtain ⟨k, rfl⟩ : ∃ k : Nat, n = (k : Int) := ⟨n.toNat, by omega⟩
    have hneg : ¬ ((k : Int) < 0) := by omega
    have hbig : ¬ ((k : Int) > 1099511627776) := by omega
    by_cases hlen : b.length ≤ 16384
    case neg =>
      have hw : numW (b, e) (k : Int) = (b, e) := by unfold numW; rw [if_neg hbad, if_neg hlen]
      rw [hw]
      have hlI : ¬ ((b.length : Int) ≤ 16384) := by omega
      clear hw
      go_enter Tryz.func43, Tryz.ntmps43
      go_upto_region 1 with fail
      generalize (w.alloc (.cells #[.slice A b.length c, .int .i64 e] 56)).alloc (.cells #[.slice none 0 0, .int .i64 0] 56) = V at *
      simp only [hG] at a0 a1 ⊢
      clear hG
      have x0 := block_cell a0 (i := 0) rfl
      have x1 := block_cell a0 (i := 1) rfl
      have y0 := block_cell a1 (i := 0) rfl
      have y1 := block_cell a1 (i := 1) rfl
      have z0 : V.frozen? ⟨G, 0, none⟩ = false := block_free a0
      have z1 : V.frozen? ⟨G, 1, none⟩ = false := block_free a0
      have z2 : V.frozen? ⟨G + 1, 0, none⟩ = false := block_free a1
      have z3 : V.frozen? ⟨G + 1, 1, none⟩ = false := block_free a1
      go_wp2_with fail
      have R := res2 (p := .slice A b.length c) (q := .int .i64 e) a1
      refine bodyPost_ret (v := .agg #[.slice A b.length c, .int .i64 e]) (by simp [results, Tryz.results43, go_sem, R.1, R.2]) rfl ?_
      have le : w.heap.size ≤ G := by have := HG.out; omega
      have le1 : w.heap.size ≤ G + 1 := by omega
      refine k_fin ?_ HK.out rfl
      exact bl_set (bl_set q0 le1 _) le1 _
    case pos =>
      have hw : numW (b, e) (k : Int) = (b ++ putB 6 k, e) := by unfold numW; rw [if_neg hbad, if_pos hlen, Int.toNat_natCast]
      rw [hw]
      have hlI : (b.length : Int) ≤ 16384 := by omega
      have hput := fun W => refput_calls 6 k (by omega) (by omega) W
      have HPUT := Lib.hid hput
      have hlb := hlen
      clear hw hput
      go_enter Tryz.func43, Tryz.ntmps43
      go_upto_region 1 with fail
      generalize (w.alloc (.cells #[.slice A b.length c, .int .i64 e] 56)).alloc (.cells #[.slice none 0 0, .int .i64 0] 56) = V at *
      simp only [hG] at a0 a1 ⊢
      clear hG
      have x0 := block_cell a0 (i := 0) rfl
      have x1 := block_cell a0 (i := 1) rfl
      have y0 := block_cell a1 (i := 0) rfl
      have y1 := block_cell a1 (i := 1) rfl
      have z0 : V.frozen? ⟨G, 0, none⟩ = false := block_free a0
      have z1 : V.frozen? ⟨G, 1, none⟩ = false := block_free a0
      have z2 : V.frozen? ⟨G + 1, 0, none⟩ = false := block_free a1
      have z3 : V.frozen? ⟨G + 1, 1, none⟩ = false := block_free a1
      have qe := bl_alloc (Below.refl V.heap.size V) (.cells #[] 5)
      have rowe : Kd.u8.Row 5 V.heap.size (V.alloc (.cells #[] 5)) A b := Kd.row_below qe (Kd.row_flat Kd.flat_u8 (Kd.row_below q0 row) (Nat.le_refl _))
      have xe := cell_below qe x0
      go_wp2_with (first
        | (go_at_call 72; refine (HPUT.out _).mono ?_; rintro x w2 ⟨⟨v2, rfl, own2⟩, b2⟩; obtain ⟨A2, c2, hv2, l2, m2, _, _⟩ := Kd.own_row own2; rw [putB_len] at hv2; subst hv2; have r2 := own_rows Kd.flat_u8 own2 V.heap.size; have own1' := Kd.own_below own1 b2; have bel2 := bl_trans bel1 b2)
        | (at_builtin; refine wpList_append_row _ rfl (.tmp 20) (.tmp 22) 41 rfl Kd.u8 V.heap.size V.heap.size 5 i0 _ 1 Tryz.underlying41 hi hz0 hz1 hz2 rfl (by decide) (.slice (some ⟨V.heap.size, 0, none⟩) 0 0) [] rfl (Kd.own_empty (Nat.le_refl _)) A c b.length b rfl rfl rowe (by simp only [List.length_nil]; omega) (by decide) qe.size (Nat.le_refl _) (by decide) ?_; intro v1 w1 own1 grw1 at1; have bel1 := Kd.own_step qe (Kd.own_empty (d := Kd.u8) (e := 5) (B := V.heap.size) (Nat.le_refl _)) grw1; rw [List.nil_append] at own1; obtain ⟨A1, n1, c1, rfl⟩ := k_some (k_own own1))
        | (at_builtin; refine wpList_append_row _ rfl (.tmp 23) (.tmp 25) 41 rfl Kd.u8 V.heap.size V.heap.size 5 i0 _ 1 Tryz.underlying41 hi hz0 hz1 hz2 rfl (by decide) _ b rfl own1' A2 c2 _ (putB 6 k) rfl (putB_len _ _).symm r2 (by rw [putB_len]; omega) (by decide) bel2.size (Nat.le_refl _) (by decide) ?_; intro v3 w3 own3 grw3 at3; have bel3 := Kd.own_step bel2 own1' grw3; obtain ⟨A3, n3, c3, rfl⟩ := k_some (k_own own3); have e0 := block_below bel3 a0; have e1 := block_below bel3 a1; have f0 := block_cell e0 (i := 0) rfl; have f1 := block_cell e0 (i := 1) rfl; have f2 := block_cell e1 (i := 0) rfl; have f3 := block_cell e1 (i := 1) rfl; have j0 : w3.frozen? ⟨G, 0, none⟩ = false := block_free e0; have j1 : w3.frozen? ⟨G, 1, none⟩ = false := block_free e0; have j2 : w3.frozen? ⟨G + 1, 0, none⟩ = false := block_free e1; have j3 : w3.frozen? ⟨G + 1, 1, none⟩ = false := block_free e1))
      have E0 := block_far (i := 0) (u := .slice A3 n3 c3) e1 (show G + 1 ≠ G by omega)
      have R := res2 (p := .slice A3 n3 c3) (q := .int .i64 e) E0
      refine bodyPost_ret (v := .agg #[.slice A3 n3 c3, .int .i64 e]) (by simp [results, Tryz.results43, go_sem, R.1, R.2]) rfl ?_
      have le : w.heap.size ≤ G := by have := HG.out; omega
      have le1 : w.heap.size ≤ G + 1 := by omega
      have E1 := block_set (i := 0) (u := .slice A3 n3 c3) E0
      obtain ⟨A9, c9, h9, l9, m9, _, _⟩ := Kd.own_row own3
      refine ⟨⟨_, rfl, ?_⟩, bl_set (bl_set (bl_set (bl_trans q0 bel3) le _) le1 _) le1 _⟩
      have r0 := own_rows Kd.flat_u8 own3
      have r1 := row_set Kd.flat_u8 (i := 0) e0 (by decide) (.slice A3 n3 c3) r0
      have r2 := row_set Kd.flat_u8 (i := 0) E0 (by decide) (.slice A3 n3 c3) r1
      have r3 := row_set Kd.flat_u8 (i := 1) E1 (by decide) (.int .i64 e) r2
      injection h9 with g1 g2 g3
      subst g1 g2 g3
      exact ⟨_, _, rfl, l9, m9, r3 B⟩
set_option maxHeartbeats 3200000 in
set_option maxRecDepth 100000 in
theorem reftext_calls (s : List UInt8 × Int) (t : ByteArray) (v : Value) (B : Nat) (w : World) (hk : kBB.K B w s.1 [v]) (hl : s.1.length ≤ 65536) (ht : t.size ≤ 1048576) :
    Calls Tryz.prog 44 #[.agg #[v, .int .i64 s.2], .string t] w fun x w' => (∃ v', x = .returned (.agg #[v', .int .i64 (textW s t).2]) ∧ kBB.K B w' (textW s t).1 [v']) ∧ Below w.heap.size w w' := by
  obtain ⟨b, e⟩ := s
  dsimp only at hk hl ⊢
  obtain ⟨A, c, rfl, lc, mc, row⟩ := k_form hk
  obtain ⟨i0, hi, hz0, hz1, hz2⟩ := info_parts info_u8
  have q0 := bl_alloc (bl_alloc (Below.refl w.heap.size w) (.cells #[.slice A b.length c, .int .i64 e] 56)) (.cells #[.slice none 0 0, .int .i64 0] 56)
  have a0 : ((w.alloc (.cells #[.slice A b.length c, .int .i64 e] 56)).alloc (.cells #[.slice none 0 0, .int .i64 0] 56)).heap[w.heap.size]? = some (.cells #[.slice A b.length c, .int .i64 e] 56 (0, 0)) := alloc_old (alloc_new w _) _
  have a1 : ((w.alloc (.cells #[.slice A b.length c, .int .i64 e] 56)).alloc (.cells #[.slice none 0 0, .int .i64 0] 56)).heap[w.heap.size + 1]? = some (.cells #[.slice none 0 0, .int .i64 0] 56 (0, 0)) := by
    have := alloc_new (w.alloc (.cells #[.slice A b.length c, .int .i64 e] 56)) (.cells #[.slice none 0 0, .int .i64 0] 56)
    rwa [World.size_alloc] at this
  obtain ⟨G, hG⟩ : ∃ G, w.heap.size = G := ⟨_, rfl⟩
  have HG := Lib.hid hG
  have HK := Lib.hid hk
  clear hk
  by_cases hbad : 4096 < t.size
  · by_cases h0 : (e == 0) = true
    · have hw : textW (b, e) t = (b, 5) := by unfold textW errF; rw [if_pos hbad, if_pos h0]
      rw [hw]
      clear hw
      have hbig : (t.size : Int) > 4096 := by omega
      go_enter Tryz.func44, Tryz.ntmps44
      go_upto_region 1 with fail
      generalize (w.alloc (.cells #[.slice A b.length c, .int .i64 e] 56)).alloc (.cells #[.slice none 0 0, .int .i64 0] 56) = V at *
      simp only [hG] at a0 a1 ⊢
      clear hG
      have x0 := block_cell a0 (i := 0) rfl
      have x1 := block_cell a0 (i := 1) rfl
      have y0 := block_cell a1 (i := 0) rfl
      have y1 := block_cell a1 (i := 1) rfl
      have z0 : V.frozen? ⟨G, 0, none⟩ = false := block_free a0
      have z1 : V.frozen? ⟨G, 1, none⟩ = false := block_free a0
      have z2 : V.frozen? ⟨G + 1, 0, none⟩ = false := block_free a1
      have z3 : V.frozen? ⟨G + 1, 1, none⟩ = false := block_free a1
      go_wp2_with fail
      have R := res2 (p := .slice A b.length c) (q := .int .i64 5) (block_far (i := 1) (u := .int .i64 5) a1 (show G + 1 ≠ G by omega))
      refine bodyPost_ret (v := .agg #[.slice A b.length c, .int .i64 5]) (by simp [results, Tryz.results44, go_sem, R.1, R.2]) rfl ?_
      have le : w.heap.size ≤ G := by have := HG.out; omega
      have le1 : w.heap.size ≤ G + 1 := by omega
      refine k_fin ?_ HK.out rfl
      exact bl_set (bl_set (bl_set q0 le _) le1 _) le1 _
    · have h0' : (e == 0) = false := by simpa using h0
      have hw : textW (b, e) t = (b, e) := by unfold textW errF; rw [if_pos hbad, if_neg h0]
      rw [hw]
      clear hw h0
      have hbig : (t.size : Int) > 4096 := by omega
      go_enter Tryz.func44, Tryz.ntmps44
      go_upto_region 1 with fail
      generalize (w.alloc (.cells #[.slice A b.length c, .int .i64 e] 56)).alloc (.cells #[.slice none 0 0, .int .i64 0] 56) = V at *
      simp only [hG] at a0 a1 ⊢
      clear hG
      have x0 := block_cell a0 (i := 0) rfl
      have x1 := block_cell a0 (i := 1) rfl
      have y0 := block_cell a1 (i := 0) rfl
      have y1 := block_cell a1 (i := 1) rfl
      have z0 : V.frozen? ⟨G, 0, none⟩ = false := block_free a0
      have z1 : V.frozen? ⟨G, 1, none⟩ = false := block_free a0
      have z2 : V.frozen? ⟨G + 1, 0, none⟩ = false := block_free a1
      have z3 : V.frozen? ⟨G + 1, 1, none⟩ = false := block_free a1
      go_wp2_with fail
      have R := res2 (p := .slice A b.length c) (q := .int .i64 e) a1
      refine bodyPost_ret (v := .agg #[.slice A b.length c, .int .i64 e]) (by simp [results, Tryz.results44, go_sem, R.1, R.2]) rfl ?_
      have le : w.heap.size ≤ G := by have := HG.out; omega
      have le1 : w.heap.size ≤ G + 1 := by omega
      refine k_fin ?_ HK.out rfl
      exact bl_set (bl_set q0 le1 _) le1 _
  · have hbig : ¬ ((t.size : Int) > 4096) := by omega
    by_cases hlen : b.length ≤ 16384
    case neg =>
      have hw : textW (b, e) t = (b, e) := by unfold textW; rw [if_neg hbad, if_neg hlen]
      rw [hw]
      have hlI : ¬ ((b.length : Int) ≤ 16384) := by omega
      clear hw
      go_enter Tryz.func44, Tryz.ntmps44
      go_upto_region 1 with fail
      generalize (w.alloc (.cells #[.slice A b.length c, .int .i64 e] 56)).alloc (.cells #[.slice none 0 0, .int .i64 0] 56) = V at *
      simp only [hG] at a0 a1 ⊢
      clear hG
      have x0 := block_cell a0 (i := 0) rfl
      have x1 := block_cell a0 (i := 1) rfl
      have y0 := block_cell a1 (i := 0) rfl
      have y1 := block_cell a1 (i := 1) rfl
      have z0 : V.frozen? ⟨G, 0, none⟩ = false := block_free a0
      have z1 : V.frozen? ⟨G, 1, none⟩ = false := block_free a0
      have z2 : V.frozen? ⟨G + 1, 0, none⟩ = false := block_free a1
      have z3 : V.frozen? ⟨G + 1, 1, none⟩ = false := block_free a1
      go_wp2_with fail
      have R := res2 (p := .slice A b.length c) (q := .int .i64 e) a1
      refine bodyPost_ret (v := .agg #[.slice A b.length c, .int .i64 e]) (by simp [results, Tryz.results44, go_sem, R.1, R.2]) rfl ?_
      have le : w.heap.size ≤ G := by have := HG.out; omega
      have le1 : w.heap.size ≤ G + 1 := by omega
      refine k_fin ?_ HK.out rfl
      exact bl_set (bl_set q0 le1 _) le1 _
    case pos =>
      have hw : textW (b, e) t = (b ++ putB 2 t.size ++ bl t, e) := by unfold textW; rw [if_neg hbad, if_pos hlen]
      rw [hw]
      have hlI : (b.length : Int) ≤ 16384 := by omega
      have hput := fun W => refput_calls 2 t.size (by omega) (by omega) W
      have HPUT := Lib.hid hput
      have hlb := hlen
      have hll : (b ++ putB 2 t.size).length + t.size ≤ 4194304 := by rw [List.length_append, putB_len]; omega
      have HLL := Lib.hid hll
      clear hw hput hll
      go_enter Tryz.func44, Tryz.ntmps44
      go_upto_region 1 with fail
      generalize (w.alloc (.cells #[.slice A b.length c, .int .i64 e] 56)).alloc (.cells #[.slice none 0 0, .int .i64 0] 56) = V at *
      simp only [hG] at a0 a1 ⊢
      clear hG
      have x0 := block_cell a0 (i := 0) rfl
      have x1 := block_cell a0 (i := 1) rfl
      have y0 := block_cell a1 (i := 0) rfl
      have y1 := block_cell a1 (i := 1) rfl
      have z0 : V.frozen? ⟨G, 0, none⟩ = false := block_free a0
      have z1 : V.frozen? ⟨G, 1, none⟩ = false := block_free a0
      have z2 : V.frozen? ⟨G + 1, 0, none⟩ = false := block_free a1
      have z3 : V.frozen? ⟨G + 1, 1, none⟩ = false := block_free a1
      have qe := bl_alloc (Below.refl V.heap.size V) (.cells #[] 5)
      have rowe : Kd.u8.Row 5 V.heap.size (V.alloc (.cells #[] 5)) A b := Kd.row_below qe (Kd.row_flat Kd.flat_u8 (Kd.row_below q0 row) (Nat.le_refl _))
      have xe := cell_below qe x0
      go_wp2_with (first
        | (go_at_call 72; refine (HPUT.out _).mono ?_; rintro x w2 ⟨⟨v2, rfl, own2⟩, b2⟩; obtain ⟨A2, c2, hv2, l2, m2, _, _⟩ := Kd.own_row own2; rw [putB_len] at hv2; subst hv2; have r2 := own_rows Kd.flat_u8 own2 V.heap.size; have own1' := Kd.own_below own1 b2; have bel2 := bl_trans bel1 b2)
        | (at_builtin; refine wpList_append_row _ rfl (.tmp 17) (.tmp 19) 41 rfl Kd.u8 V.heap.size V.heap.size 5 i0 _ 1 Tryz.underlying41 hi hz0 hz1 hz2 rfl (by decide) (.slice (some ⟨V.heap.size, 0, none⟩) 0 0) [] rfl (Kd.own_empty (Nat.le_refl _)) A c b.length b rfl rfl rowe (by simp only [List.length_nil]; omega) (by decide) qe.size (Nat.le_refl _) (by decide) ?_; intro v1 w1 own1 grw1 at1; have bel1 := Kd.own_step qe (Kd.own_empty (d := Kd.u8) (e := 5) (B := V.heap.size) (Nat.le_refl _)) grw1; rw [List.nil_append] at own1; obtain ⟨A1, n1, c1, rfl⟩ := k_some (k_own own1))
        | (at_builtin; refine wpList_append_row _ rfl (.tmp 20) (.tmp 23) 41 rfl Kd.u8 V.heap.size V.heap.size 5 i0 _ 1 Tryz.underlying41 hi hz0 hz1 hz2 rfl (by decide) _ b rfl own1' A2 c2 _ (putB 2 t.size) rfl (putB_len _ _).symm r2 (by rw [putB_len]; omega) (by decide) bel2.size (Nat.le_refl _) (by decide) ?_; intro v3 w3 own3 grw3 at3; have bel3 := Kd.own_step bel2 own1' grw3; obtain ⟨A3, n3, c3, rfl⟩ := k_some (k_own own3))
        | (at_builtin; refine wpList_append_str rfl (.tmp 24) (.tmp 25) 41 9 rfl V.heap.size V.heap.size 5 i0 Tryz.underlying41 Tryz.underlying9 hi hz0 hz1 hz2 _ (b ++ putB 2 t.size) rfl own3 t rfl HLL.out bel3.size (Nat.le_refl _) ?_; intro v4 w4 own4 grw4; have bel4 := Kd.own_step bel3 own3 grw4; obtain ⟨A4, n4, c4, rfl⟩ := k_some (k_own own4); have e0 := block_below bel4 a0; have e1 := block_below bel4 a1; have f0 := block_cell e0 (i := 0) rfl; have f1 := block_cell e0 (i := 1) rfl; have f2 := block_cell e1 (i := 0) rfl; have f3 := block_cell e1 (i := 1) rfl; have j0 : w4.frozen? ⟨G, 0, none⟩ = false := block_free e0; have j1 : w4.frozen? ⟨G, 1, none⟩ = false := block_free e0; have j2 : w4.frozen? ⟨G + 1, 0, none⟩ = false := block_free e1; have j3 : w4.frozen? ⟨G + 1, 1, none⟩ = false := block_free e1))
      have E0 := block_far (i := 0) (u := .slice A4 n4 c4) e1 (show G + 1 ≠ G by omega)
      have R := res2 (p := .slice A4 n4 c4) (q := .int .i64 e) E0
      refine bodyPost_ret (v := .agg #[.slice A4 n4 c4, .int .i64 e]) (by simp [results, Tryz.results44, go_sem, R.1, R.2]) rfl ?_
      have le : w.heap.size ≤ G := by have := HG.out; omega
      have le1 : w.heap.size ≤ G + 1 := by omega
      have E1 := block_set (i := 0) (u := .slice A4 n4 c4) E0
      obtain ⟨A9, c9, h9, l9, m9, _, _⟩ := Kd.own_row own4
      refine ⟨⟨_, rfl, ?_⟩, bl_set (bl_set (bl_set (bl_trans q0 bel4) le _) le1 _) le1 _⟩
      have r0 := own_rows Kd.flat_u8 own4
      have r1 := row_set Kd.flat_u8 (i := 0) e0 (by decide) (.slice A4 n4 c4) r0
      have r2 := row_set Kd.flat_u8 (i := 0) E0 (by decide) (.slice A4 n4 c4) r1
      have r3 := row_set Kd.flat_u8 (i := 1) E1 (by decide) (.int .i64 e) r2
      injection h9 with g1 g2 g3
      subst g1 g2 g3
      exact ⟨_, _, rfl, l9, m9, r3 B⟩
end Go.Proofs.YtglneailkgminaaGreat
