/- mootref06.Make: the statements of each signer; the least, one by one. No claim of its own; no condition. -/
import Derived.Test.YtglneailkgminaaCertM
import Derived.Test.YtglneailkgminaaAppStep
namespace Go.Proofs.Ytglneailkgminaa
open Go.ChangeShapes Go.WideShapes Go.ChangeAt Go.RowKit Go.Sort
set_option linter.unusedVariables false
set_option linter.unusedSimpArgs false
theorem about_dec (v : Vote) (m : Mark) : decide (v.about = m) = ((v.view == m.view) && ((v.height == m.height) && (v.block.toList == m.block.toList))) := by
  cases m
  simp only [Vote.about, Mark.mk.injEq, Bool.decide_and, bytes_beq]
  rfl
theorem all_step {α : Type} {l : List α} {k : Nat} {x : α} (p : α → Bool) (h : l[k]? = some x) : (l.take (k + 1)).all p = ((l.take k).all p && p x) := by
  rw [List.take_add_one, h, List.all_append]
  simp
theorem all_any (o : List Vote) (s : Int) : o.all (fun y => y.signer != s) = !o.any (fun y => y.signer == s) := by
  induction o with
  | nil => rfl
  | cons y o ih => simp only [List.all_cons, List.any_cons, ih, Bool.not_or]; rfl
theorem vrow_drop {e : TypeId} {B : Nat} {w : World} {ad : Addr} {xs : List Vote} (h : kVote.Row e B w (some ad) xs) (n : Nat) : kVote.Row e B w (some (ad.add (n * 7))) (xs.drop n) := by
  intro hne
  have hx : xs ≠ [] := by rintro rfl; simp at hne
  obtain ⟨ad', hA, hb, hk⟩ := h hx
  injection hA with hA
  subst hA
  refine ⟨_, rfl, by rw [block_of_add]; exact hb, fun i x hi => ?_⟩
  rw [List.getElem?_drop] at hi
  obtain ⟨cs, hK, hc⟩ := hk (n + i) x hi
  refine ⟨cs, hK, fun j u hj => ?_⟩
  have := hc j u hj
  rw [add_of_add]
  have e7 : kVote.sz = 7 := rfl
  rw [e7] at this ⊢
  rw [show n * 7 + (i * 7 + j) = (n + i) * 7 + j by omega]
  exact this
theorem vrow_nil {e : TypeId} {B : Nat} {w : World} {A : Option Addr} : kVote.Row e B w A [] := fun h => absurd rfl h
theorem vrow_grown {B : Nat} {w w1 : World} {ad : Addr} {xs : List Vote} {g : Option Nat} (h : kVote.Row 28 B w (some ad) xs) (hg : w.grownBy w1 g) (hne : g ≠ some ad.block) : kVote.Row 28 B w1 (some ad) xs := by
  intro hx
  obtain ⟨ad', hA, hb, hk⟩ := h hx
  injection hA with hA
  subst hA
  have hbl : w1.heap[ad.block]? = w.heap[ad.block]? := hg.block _ hb.1 (fun e => hne e.symm)
  refine ⟨_, rfl, ⟨Nat.lt_of_lt_of_le hb.1 hg.size, hb.2.imp id fun ⟨c, t, f, h1, h2⟩ => ⟨c, t, f, by rw [hbl]; exact h1, h2⟩⟩, fun i x hi => ?_⟩
  obtain ⟨cs, hK, hc⟩ := hk i x hi
  refine ⟨cs, flat_kVote _ _ _ _ _ _ hK, fun j u hj => ?_⟩
  have := hc j u hj
  exact (World.cell?_of_block (by rw [block_of_add]; exact hbl)).trans this
def lenOf : Value → Nat
  | .slice _ n _ => n
  | _ => 0
/-- What the selection is: its state between two rounds. -/
def SelR (m : Mark) (s : List Vote) (w : World) (b8 j : Nat) (rv : Value) (w' : World) : Prop :=
  ∃ (r : List Vote) (vo : Value) (A : Option Addr) (c : Nat), rv = .slice A r.length c ∧ r.length ≤ c ∧ c ≤ maxLen ∧ r.Perm (s.drop j) ∧ kVote.Row 28 w.heap.size w' A r ∧ (∀ ad, A = some ad → vo.ownBlock ≠ some ad.block) ∧ kVote.Own 28 w.heap.size w' w.heap.size vo (s.take j) ∧
    w'.heap[b8]? = some (.cells #[.int .i64 m.view, .int .i64 m.height, .string m.block, vo] 35) ∧ w'.heap[w.heap.size + 1]? = some (.cells #[.int .i64 0, .int .i64 0, .string ⟨#[]⟩, .slice none 0 0] 35) ∧ Below w.heap.size w w'
set_option maxHeartbeats 6400000 in
set_option maxRecDepth 100000 in
theorem refmake_calls (l : List Vote) (m : Mark) (q : Int) (s : List Vote) (hsp : s.Perm (ownF m l)) (hsr : Rises s) (A : Option Addr) (c : Nat) (w : World) (hl : l.length ≤ 1048576) (hr : kVote.Row 28 w.heap.size w A l) :
    Calls Try.prog 38 #[.slice A l.length c, .agg #[.int .i64 m.view, .int .i64 m.height, .string m.block], .int .i64 q] w fun e w' =>
      ((badQ (ownF m l) q = true ∧ e = .returned (.tuple #[.agg #[.int .i64 0, .int .i64 0, .string ⟨#[]⟩, .slice none 0 0], .bool false])) ∨
       (badQ (ownF m l) q = false ∧ ∃ A' n' c', n' = (s.take q.toNat).length ∧ e = .returned (.tuple #[.agg #[.int .i64 m.view, .int .i64 m.height, .string m.block, .slice A' n' c'], .bool true]) ∧ kVote.Row 28 w.heap.size w' A' (s.take q.toNat))) ∧ Below w.heap.size w w' := by
  obtain ⟨i0, hi, hz0, hz1, hz2⟩ := info_parts info_kVote
  have q0 := bl_alloc (bl_alloc (bl_alloc (Below.refl w.heap.size w) (.cells #[.int .i64 m.view, .int .i64 m.height, .string m.block] 26)) (.cells #[.int .i64 0, .int .i64 0, .string ⟨#[]⟩, .slice none 0 0] 35)) (.cells #[.int .i64 m.view, .int .i64 m.height, .string m.block, .slice none 0 0] 35)
  have a4 := alloc_old (alloc_old (alloc_new w (.cells #[.int .i64 m.view, .int .i64 m.height, .string m.block] 26)) (.cells #[.int .i64 0, .int .i64 0, .string ⟨#[]⟩, .slice none 0 0] 35)) (.cells #[.int .i64 m.view, .int .i64 m.height, .string m.block, .slice none 0 0] 35)
  have a6 := alloc_old (alloc_new (w.alloc (.cells #[.int .i64 m.view, .int .i64 m.height, .string m.block] 26)) (.cells #[.int .i64 0, .int .i64 0, .string ⟨#[]⟩, .slice none 0 0] 35)) (.cells #[.int .i64 m.view, .int .i64 m.height, .string m.block, .slice none 0 0] 35)
  have a8 := alloc_new ((w.alloc (.cells #[.int .i64 m.view, .int .i64 m.height, .string m.block] 26)).alloc (.cells #[.int .i64 0, .int .i64 0, .string ⟨#[]⟩, .slice none 0 0] 35)) (.cells #[.int .i64 m.view, .int .i64 m.height, .string m.block, .slice none 0 0] 35)
  have s1 : (w.alloc (.cells #[.int .i64 m.view, .int .i64 m.height, .string m.block] 26)).heap.size = w.heap.size + 1 := by simp
  have s2 : ((w.alloc (.cells #[.int .i64 m.view, .int .i64 m.height, .string m.block] 26)).alloc (.cells #[.int .i64 0, .int .i64 0, .string ⟨#[]⟩, .slice none 0 0] 35)).heap.size = w.heap.size + 1 + 1 := by simp
  rw [s1] at a6
  rw [s2] at a8
  clear s1 s2
  go_enter Try.func38, Try.ntmps38
  go_upto_region 2 with fail
  generalize ((w.alloc (.cells #[.int .i64 m.view, .int .i64 m.height, .string m.block] 26)).alloc (.cells #[.int .i64 0, .int .i64 0, .string ⟨#[]⟩, .slice none 0 0] 35)).alloc (.cells #[.int .i64 m.view, .int .i64 m.height, .string m.block, .slice none 0 0] 35) = W at *
  have hlt8 := blk_lt a8
  go_wp2_with fail
  go_loopw [9, 10] (fun vv kv w' => ∃ k : Nat, k ≤ l.length ∧ kv = .int .i64 k ∧ kVote.Own 28 w.heap.size w' W.heap.size vv (ownF m (l.take k)) ∧ Below W.heap.size W w') (fun _ kv _ => l.length - (intOf kv).toNat)
  case atStart => exact ⟨0, by omega, rfl, Kd.own_nil _ _ _ _ _, Below.refl _ _⟩
  case round =>
    obtain ⟨k, h1, rfl, own, bel⟩ := hrel
    have hle := own_le m l k
    by_cases h : k < l.length
    · obtain ⟨x, hx⟩ : ∃ x, l[k]? = some x := ⟨_, List.getElem?_eq_getElem h⟩
      obtain ⟨ad, rfl, e0, e1, e2, e3, e4, e5, e6, g0, g1, g2, g3, g4, g5, g6⟩ := kVote_at (Kd.row_below (bl_trans q0 bel) hr) hx
      have hs := own_step (m := m) hx
      generalize ownF m (l.take k) = o at *
      obtain ⟨A9, c9, rfl, hc9, hm9, row9, _⟩ := Kd.own_row own
      have hkI : (k : Int) < (l.length : Int) := by omega
      have bt := bl_alloc (Below.refl wr.heap.size wr) (.cells #[.int .i64 x.kind, .int .i64 x.view, .int .i64 x.height, .string x.block, .int .i64 x.ticks, .int .i64 x.signer, .string x.sig] 28)
      have bb := alloc_new wr (.cells #[.int .i64 x.kind, .int .i64 x.view, .int .i64 x.height, .string x.block, .int .i64 x.ticks, .int .i64 x.signer, .string x.sig] 28)
      have belt := bl_trans bel bt
      have ownt := Kd.own_below own bt
      have rowt := Kd.row_below bt row9
      have h4 := block_below belt a4
      clear hx own row9
      go_upto_region 7 with fail
      generalize wr.alloc (.cells #[.int .i64 x.kind, .int .i64 x.view, .int .i64 x.height, .string x.block, .int .i64 x.ticks, .int .i64 x.signer, .string x.sig] 28) = V at *
      have y0 := block_cell bb (i := 0) rfl
      have y1 := block_cell bb (i := 1) rfl
      have y2 := block_cell bb (i := 2) rfl
      have y3 := block_cell bb (i := 3) rfl
      have k0 := block_cell h4 (i := 0) rfl
      have k1 := block_cell h4 (i := 1) rfl
      have k2 := block_cell h4 (i := 2) rfl
      have HS := Lib.hid hs
      clear hs e0 e1 e2 e3 e4 e5 e6
      go_cut [12] (fun v w' => v = .bool (isF m x) ∧ w' = V)
      case first =>
        have hF : isF m x = ((x.kind == 1) && ((x.view == m.view) && ((x.height == m.height) && (x.block.toList == m.block.toList)))) := by unfold isF; rw [about_dec]
        have HF := Lib.hid hF
        clear hF
        cases d0 : x.kind == 1
        · have HG : Hid (isF m x = false) := Lib.hid (by rw [HF.out, d0]; rfl)
          clear HF
          go_wp2_with fail
          go_meet
          exact ⟨by rw [HG.out], rfl⟩
        · cases d1 : x.view == m.view
          · have HG : Hid (isF m x = false) := Lib.hid (by rw [HF.out, d0, d1]; rfl)
            clear HF
            go_wp2_with fail
            go_meet
            exact ⟨by rw [HG.out], rfl⟩
          · cases d2 : x.height == m.height
            · have HG : Hid (isF m x = false) := Lib.hid (by rw [HF.out, d0, d1, d2]; rfl)
              clear HF
              go_wp2_with fail
              go_meet
              exact ⟨by rw [HG.out], rfl⟩
            · cases d3 : x.block.toList == m.block.toList
              · have HG : Hid (isF m x = false) := Lib.hid (by rw [HF.out, d0, d1, d2, d3]; rfl)
                clear HF
                go_wp2_with fail
                go_meet
                exact ⟨by rw [HG.out], rfl⟩
              · have HG : Hid (isF m x = true) := Lib.hid (by rw [HF.out, d0, d1, d2, d3]; rfl)
                clear HF
                go_wp2_with fail
                go_meet
                exact ⟨by rw [HG.out], rfl⟩
      case rest =>
        obtain ⟨rfl, rfl⟩ := hcut
        clear k0 k1 k2 h4
        generalize hbF : isF m x = bF at *
        have HBF := Lib.hid hbF
        clear hbF
        go_wp2_with fail
        go_loopw [12, 13] (fun bv kv w' => ∃ j : Nat, j ≤ o.length ∧ kv = .int .i64 j ∧ bv = .bool (bF && (o.take j).all (fun y => y.signer != x.signer)) ∧ Below wc.heap.size wc w') (fun _ kv _ => o.length - (intOf kv).toNat)
        case atStart => exact ⟨0, by omega, rfl, by simp, Below.refl _ _⟩
        case round =>
          obtain ⟨j, h2, rfl, rfl, bel2⟩ := hrel
          have v5 := cell_below bel2 (block_cell bb (i := 5) rfl)
          by_cases hj : j < o.length
          · obtain ⟨y, hy⟩ : ∃ y, o[j]? = some y := ⟨_, List.getElem?_eq_getElem hj⟩
            obtain ⟨am, rfl, p0, p1, p2, p3, p4, p5, p6, _⟩ := kVote_at (Kd.row_below bel2 rowt) hy
            have ha := all_step (fun y : Vote => y.signer != x.signer) hy
            have hjI : (j : Int) < (o.length : Int) := by omega
            generalize (o.take j).all (fun y => y.signer != x.signer) = t at *
            clear hy p0 p1 p2 p3 p4 p6 y0 y1 y2 y3
            cases hbt : bF && t with
            | false =>
              have hv : (bF && (o.take (j + 1)).all (fun y => y.signer != x.signer)) = false := by rw [ha, ← Bool.and_assoc, hbt, Bool.false_and]
              have HV := Lib.hid hv
              clear ha hv hbt
              go_upto_region 11 with fail
              go_quiet (fail)
              go_wp2_with fail
              go_roundw
              case rel => exact ⟨j + 1, by omega, by go_num, by rw [HV.out], bl_drewN bel2 _⟩
              case measure => simp [intOf]; omega
            | true =>
              have hv : (bF && (o.take (j + 1)).all (fun y => y.signer != x.signer)) = (y.signer != x.signer) := by rw [ha, ← Bool.and_assoc, hbt, Bool.true_and]
              have HV := Lib.hid hv
              clear ha hv hbt
              go_upto_region 11 with fail
              go_quiet (fail)
              go_wp2_with fail
              go_roundw
              case rel => exact ⟨j + 1, by omega, by go_num, by rw [HV.out], bl_drewN bel2 _⟩
              case measure => simp [intOf]; omega
          · have hjo : j = o.length := by omega
            subst hjo
            have hnI : ¬ ((o.length : Int) < (o.length : Int)) := by omega
            rw [List.take_of_length_le (Nat.le_refl _), all_any]
            have own2 := Kd.own_below ownt bel2
            have bel3 := bl_trans belt bel2
            have v0 := cell_below bel2 y0
            have v1 := cell_below bel2 y1
            have v2 := cell_below bel2 y2
            have v3 := cell_below bel2 y3
            have v4 := cell_below bel2 (block_cell bb (i := 4) rfl)
            have v6 := cell_below bel2 (block_cell bb (i := 6) rfl)
            clear y0 y1 y2 y3
            cases hbt : bF && !o.any (fun y => y.signer == x.signer) with
            | false =>
              have hv : ownStep m o x = o := by unfold ownStep; rw [HBF.out, hbt]; rfl
              have HV := Lib.hid hv
              clear hv hbt
              go_wp2_with fail
              go_roundw
              case rel => exact ⟨k + 1, by omega, by go_num, by rw [HS.out, HV.out]; exact own2, bel3⟩
              case measure => simp [intOf]; omega
            | true =>
              have hv : ownStep m o x = o ++ [x] := by unfold ownStep; rw [HBF.out, hbt]; rfl
              have HV := Lib.hid hv
              have bel4 := bl_alloc bel3 (.cells #[.int .i64 x.kind, .int .i64 x.view, .int .i64 x.height, .string x.block, .int .i64 x.ticks, .int .i64 x.signer, .string x.sig] 28)
              have own4 := Kd.own_below own2 (bl_alloc (Below.refl wr.heap.size wr) (.cells #[.int .i64 x.kind, .int .i64 x.view, .int .i64 x.height, .string x.block, .int .i64 x.ticks, .int .i64 x.signer, .string x.sig] 28))
              clear hv hbt
              go_wp2_with (at_builtin; refine wpList_append_row _ rfl (.tmp 76) (.tmp 78) 22 rfl kVote w.heap.size W.heap.size 28 i0 _ 72 Try.underlying22 hi hz0 hz1 hz2 rfl (by decide) _ _ rfl own4 _ _ _ [x] rfl rfl (Kd.row_fresh1 (kVote_mk x g0 g1 g2 g3 g4 g5 g6)) (by simp only [List.length_singleton]; omega) (by decide) bel4.size q0.size (by decide) ?_; intro v' w' own' grw at')
              go_roundw
              case rel => exact ⟨k + 1, by omega, by go_num, by rw [HS.out, HV.out]; exact own', Kd.own_step bel4 own4 grw⟩
              case measure => simp [intOf]; omega
    · have hkl : k = l.length := by omega
      subst hkl
      rw [List.take_of_length_le (Nat.le_refl _)] at own hle
      obtain ⟨o, ho⟩ : ∃ o, ownF m l = o := ⟨_, rfl⟩
      rw [ho] at own hle hsp
      have HOF := Lib.hid ho
      clear ho
      have hnI : ¬ ((l.length : Int) < (l.length : Int)) := by omega
      have n6 := block_below bel a6
      have qe := bl_trans q0 bel
      obtain ⟨A9, c9, rfl, hc9, hm9, row9, hA9⟩ := Kd.own_row own
      have le6 : w.heap.size ≤ w.heap.size + 1 := by omega
      have z0 := block_cell n6 (i := 0) rfl
      have z1 := block_cell n6 (i := 1) rfl
      have z2 := block_cell n6 (i := 2) rfl
      have z3 := block_cell n6 (i := 3) rfl
      have f0 := frozen_of_row _ _ 0 _ 35 n6
      have f1 := frozen_of_row _ _ 1 _ 35 n6
      have f2 := frozen_of_row _ _ 2 _ 35 n6
      have f3 := frozen_of_row _ _ 3 _ 35 n6
      by_cases hq1 : q < 1
      · have hb : badQ o q = true := by simp [badQ, hq1]
        have HB := Lib.hid hb
        clear hb own
        go_wp2_with fail
        refine bodyPost_ret (v := .tuple #[.agg #[.int .i64 0, .int .i64 0, .string ⟨#[]⟩, .slice none 0 0], .bool false]) (by simp [results, Try.results38, go_sem, z0, z1, z2, z3]) rfl ⟨.inl ⟨by rw [HOF.out]; exact HB.out, rfl⟩, ?_⟩
        exact bl_set (bl_set (bl_set (bl_set qe le6 _) le6 _) le6 _) le6 _
      · by_cases hq2 : (o.length : Int) < q
        · have hb : badQ o q = true := by simp [badQ, hq2]
          have HB := Lib.hid hb
          clear hb own
          go_wp2_with fail
          refine bodyPost_ret (v := .tuple #[.agg #[.int .i64 0, .int .i64 0, .string ⟨#[]⟩, .slice none 0 0], .bool false]) (by simp [results, Try.results38, go_sem, z0, z1, z2, z3]) rfl ⟨.inl ⟨by rw [HOF.out]; exact HB.out, rfl⟩, ?_⟩
          exact bl_set (bl_set (bl_set (bl_set qe le6 _) le6 _) le6 _) le6 _
        · have hb : badQ o q = false := by simp [badQ]; omega
          have HB := Lib.hid hb
          clear hb z0 z1 z2 z3 f0 f1 f2 f3
          obtain ⟨n, rfl⟩ : ∃ n : Nat, q = n := ⟨q.toNat, by omega⟩
          have hn1 : n ≤ o.length := by omega
          have hlen := hsp.length_eq
          have n8 := block_below bel a8
          clear a4 a6 a8
          have row9' := row9
          clear own row9
          go_wp2_with fail
          go_loopw [9] (fun rv w' => ∃ j : Nat, j ≤ n ∧ SelR m s w (w.heap.size + 1 + 1) j rv w') (fun rv _ => lenOf rv)
          case atStart =>
            exact ⟨0, by omega, o, .slice none 0 0, A9, c9, rfl, hc9, hm9, hsp.symm, row9', by intro ad _; simp [Value.ownBlock], Kd.own_nil _ _ _ _ _, n8, n6, qe⟩
          case round =>
            clear n8 n6 qe row9' hA9 hc9 hm9
            obtain ⟨j, hj, r, vo, Ar, cr, rfl, hrc, hrm, hrp, row, hne, ownv, n8, n6, bel2⟩ := hrel
            have hlr : r.length = s.length - j := by rw [hrp.length_eq, List.length_drop]
            have hlj : (s.take j).length = j := by rw [List.length_take]; omega
            obtain ⟨Av, cv, hvo, hv1, hv2, rowv, hv3⟩ := Kd.own_row ownv
            rw [hlj] at hvo hv1
            by_cases hjn : j < n
            · have hjs : j < s.length := by omega
              have hdr : s.drop j = s[j] :: s.drop (j + 1) := List.drop_eq_getElem_cons hjs
              have c3 : wr.cell? ⟨w.heap.size + 1 + 1, 3, none⟩ = some (.slice Av j cv) := by rw [← hvo]; exact block_cell n8 (i := 3) rfl
              have hjI : (j : Int) < (n : Int) := by omega
              have hr1 : 1 ≤ r.length := by omega
              obtain ⟨wo, hwo⟩ : ∃ wo : World, wo = wr := ⟨_, rfl⟩
              subst hwo
              go_wp2_with fail
              go_loopw [14, 15] (fun bv iv w' => ∃ b i : Nat, bv = .int .i64 b ∧ iv = .int .i64 i ∧ b < r.length ∧ 1 ≤ i ∧ i ≤ r.length ∧ Hid (∀ y ∈ r.take i, ∀ z, r[b]? = some z → z.signer ≤ y.signer) ∧ Below wo.heap.size wo w') (fun _ iv _ => r.length - (intOf iv).toNat)
              case atStart =>
                refine ⟨0, 1, rfl, rfl, by omega, by omega, by omega, Lib.hid ?_, Below.refl _ _⟩
                intro y hy z hz
                match r, hr1 with
                | a :: t, _ =>
                  obtain rfl : y = a := by simpa using hy
                  obtain rfl : y = z := by simpa using hz
                  exact Int.le_refl _
              case round =>
                obtain ⟨b, i, rfl, rfl, hbr, hi1, hir, hmin, bel3⟩ := hrel
                obtain ⟨z, hz⟩ : ∃ z, r[b]? = some z := ⟨_, List.getElem?_eq_getElem hbr⟩
                obtain ⟨ar, rfl, u0, u1, u2, u3, u4, u5, u6, g0, g1, g2, g3, g4, g5, g6⟩ := kVote_at (Kd.row_below bel3 row) hz
                have hbI : (b : Int) < (r.length : Int) := by omega
                by_cases hir2 : i < r.length
                · obtain ⟨y, hy⟩ : ∃ y, r[i]? = some y := ⟨_, List.getElem?_eq_getElem hir2⟩
                  obtain ⟨ar', har, v0, v1, v2, v3, v4, v5, v6, _⟩ := kVote_at (Kd.row_below bel3 row) hy
                  injection har with har
                  subst har
                  have hiI : (i : Int) < (r.length : Int) := by omega
                  clear u0 u1 u2 u3 u4 u6 g0 g1 g2 g3 g4 g5 g6 v0 v1 v2 v3 v4 v6
                  by_cases hlt : y.signer < z.signer
                  · have hm2 : ∀ t ∈ r.take (i + 1), ∀ q, r[i]? = some q → q.signer ≤ t.signer := by
                      intro t ht q hq
                      rw [hy] at hq
                      injection hq with hq
                      subst hq
                      rw [List.take_add_one, hy] at ht
                      rcases List.mem_append.1 ht with ht | ht
                      · have := hmin.out t ht z hz
                        omega
                      · obtain rfl : t = y := by simpa using ht
                        exact Int.le_refl _
                    have HM := Lib.hid hm2
                    clear hm2 hmin hy hz
                    go_upto_region 21 with fail
                    go_quiet (fail)
                    go_wp2_with fail
                    go_roundw
                    case rel => exact ⟨i, i + 1, rfl, by go_num, hir2, by omega, by omega, HM, bl_drewN bel3 _⟩
                    case measure => simp [intOf]; omega
                  · have hm2 : ∀ t ∈ r.take (i + 1), ∀ q, r[b]? = some q → q.signer ≤ t.signer := by
                      intro t ht q hq
                      rw [List.take_add_one, hy] at ht
                      rcases List.mem_append.1 ht with ht | ht
                      · exact hmin.out t ht q hq
                      · obtain rfl : t = y := by simpa using ht
                        rw [hz] at hq
                        injection hq with hq
                        subst hq
                        omega
                    have HM := Lib.hid hm2
                    have hge : decide (y.signer < z.signer) = false := decide_eq_false hlt
                    clear hm2 hmin hy hz hlt
                    go_upto_region 21 with fail
                    go_quiet (fail)
                    go_wp2_with fail
                    go_roundw
                    case rel => exact ⟨b, i + 1, rfl, by go_num, hbr, by omega, by omega, HM, bl_drewN bel3 _⟩
                    case measure => simp [intOf]; omega
                · have hie : i = r.length := by omega
                  subst hie
                  have hm2 := hmin.out
                  rw [List.take_of_length_le (Nat.le_refl _)] at hm2
                  rw [hdr] at hrp
                  have hss : Rises (s[j] :: s.drop (j + 1)) := by rw [← hdr]; exact List.Pairwise.sublist (List.drop_sublist _ _) hsr
                  obtain ⟨hzs, hperm⟩ := sel_step hrp hss hz (fun y hy => hm2 y hy z hz)
                  have htk : s.take (j + 1) = s.take j ++ [z] := by rw [List.take_add_one, List.getElem?_eq_getElem hjs, hzs]; rfl
                  have hnI2 : ¬ ((r.length : Int) < (r.length : Int)) := by omega
                  have HZ := Lib.hid hz
                  have HPM := Lib.hid hperm
                  have HTK := Lib.hid htk
                  have w8 := block_below bel3 n8
                  have w6 := block_below bel3 n6
                  have wc3 := cell_below bel3 c3
                  have wown := Kd.own_below ownv bel3
                  have wrow := Kd.row_below bel3 row
                  have wbel := bl_trans bel2 bel3
                  have hlj2 : (s.take j).length ≤ 1048576 := by omega
                  have hlr2 : r.length ≤ 1048576 := by omega
                  have HLR := Lib.hid hlr
                  have HLN := Lib.hid hlen
                  have HLJ := Lib.hid hlj
                  clear n8 n6 c3 ownv row rowv hz hm2 hmin hrp hss hzs hperm htk hlr hlen hlj hdr hjs hr1
                  subst hvo
                  have bd := bl_drew (Below.refl wr.heap.size wr)
                  have ba := bl_alloc bd (.cells #[.int .i64 z.kind, .int .i64 z.view, .int .i64 z.height, .string z.block, .int .i64 z.ticks, .int .i64 z.signer, .string z.sig] 28)
                  have hmk : ∀ B' w', kVote.K B' w' z [.int .i64 z.kind, .int .i64 z.view, .int .i64 z.height, .string z.block, .int .i64 z.ticks, .int .i64 z.signer, .string z.sig] := fun B' w' => kVote_mk z g0 g1 g2 g3 g4 g5 g6
                  have own4 := Kd.own_below wown ba
                  have bel4 := bl_trans wbel ba
                  have R1 := Kd.row_below bd wrow
                  have R2 := Kd.row_below ba wrow
                  have x3b := cell_below ba wc3
                  have x3e := cell_below (bl_alloc (Below.refl wr.heap.size wr) (.cells #[.int .i64 z.kind, .int .i64 z.view, .int .i64 z.height, .string z.block, .int .i64 z.ticks, .int .i64 z.signer, .string z.sig] 28)) wc3
                  have n8a := block_below ba w8
                  have n6a := block_below ba w6
                  have le8 : w.heap.size ≤ w.heap.size + 1 + 1 := by omega
                  have hyz : ∀ w', kVote.Row 28 w.heap.size w' (some ar) r → _ := fun w' h => kVote_at h HZ.out
                  have t0 : ∀ w', kVote.Row 28 w.heap.size w' (some ar) r → w'.cell? (ar.add (b * 7)) = some (.int .i64 z.kind) := fun w' h => by obtain ⟨a', ha, q, _⟩ := hyz w' h; injection ha with ha; subst ha; exact q
                  have t1 : ∀ w', kVote.Row 28 w.heap.size w' (some ar) r → w'.cell? ⟨(ar.add (b * 7)).block, (ar.add (b * 7)).off + 1, none⟩ = some (.int .i64 z.view) := fun w' h => by obtain ⟨a', ha, _, q, _⟩ := hyz w' h; injection ha with ha; subst ha; exact q
                  have t2 : ∀ w', kVote.Row 28 w.heap.size w' (some ar) r → w'.cell? ⟨(ar.add (b * 7)).block, (ar.add (b * 7)).off + 2, none⟩ = some (.int .i64 z.height) := fun w' h => by obtain ⟨a', ha, _, _, q, _⟩ := hyz w' h; injection ha with ha; subst ha; exact q
                  have t3 : ∀ w', kVote.Row 28 w.heap.size w' (some ar) r → w'.cell? ⟨(ar.add (b * 7)).block, (ar.add (b * 7)).off + 3, none⟩ = some (.string z.block) := fun w' h => by obtain ⟨a', ha, _, _, _, q, _⟩ := hyz w' h; injection ha with ha; subst ha; exact q
                  have t4 : ∀ w', kVote.Row 28 w.heap.size w' (some ar) r → w'.cell? ⟨(ar.add (b * 7)).block, (ar.add (b * 7)).off + 4, none⟩ = some (.int .i64 z.ticks) := fun w' h => by obtain ⟨a', ha, _, _, _, _, q, _⟩ := hyz w' h; injection ha with ha; subst ha; exact q
                  have t5 : ∀ w', kVote.Row 28 w.heap.size w' (some ar) r → w'.cell? ⟨(ar.add (b * 7)).block, (ar.add (b * 7)).off + 5, none⟩ = some (.int .i64 z.signer) := fun w' h => by obtain ⟨a', ha, _, _, _, _, _, q, _⟩ := hyz w' h; injection ha with ha; subst ha; exact q
                  have t6 : ∀ w', kVote.Row 28 w.heap.size w' (some ar) r → w'.cell? ⟨(ar.add (b * 7)).block, (ar.add (b * 7)).off + 6, none⟩ = some (.string z.sig) := fun w' h => by obtain ⟨a', ha, _, _, _, _, _, _, q, _⟩ := hyz w' h; injection ha with ha; subst ha; exact q
                  clear hyz u0 u1 u2 u3 u4 u5 u6 g0 g1 g2 g3 g4 g5 g6 w8 w6 wown bd
                  go_upto_region 23 with fail
                  refine wp_region_held_drew (S := (fun w' => kVote.Row 28 w.heap.size w' (some ar) r)) (by kernel_rfl) ?_ (fun hHeld => ?_)
                  · (try dsimp only); first | exact wrow | exact R1 | exact R2 | exact R3 | exact R4 _ | assumption
                  refine wpAnyH_take (i := 0) (oi := { dst := some 112, op := Op.fieldAddr 35 (Operand.tmp 8) 3, type := 0, pos := "ref.go:259", after := #[], guard := none }) (v := ?_) rfl (by kernel_rfl) (by kernel_rfl) (by kernel_rfl) (fun _ _ _ h => h) (Or.inl ⟨by rfl, ?_⟩) hHeld ?_
                  rotate_left
                  · intro w0 hSw; (try dsimp only at hSw); go_simp; try with_reducible rfl
                  try simp only [Act.put, List.setIfInBounds_toArray, List.set_cons_zero, List.set_cons_succ]
                  refine wpAnyH_take (i := 2) (oi := { dst := some 114, op := Op.move (Operand.tmp 9), type := 22, pos := "ref.go:259", after := #[], guard := none }) (v := ?_) rfl (by kernel_rfl) (by kernel_rfl) (by kernel_rfl) (fun _ _ _ h => h) (Or.inl ⟨by rfl, ?_⟩) hHeld ?_
                  rotate_left
                  · intro w0 hSw; (try dsimp only at hSw); go_simp; try with_reducible rfl
                  try simp only [Act.put, List.setIfInBounds_toArray, List.set_cons_zero, List.set_cons_succ]
                  refine wpAnyH_take (i := 3) (oi := { dst := some 115, op := Op.move (Operand.tmp 14), type := 3, pos := "ref.go:259", after := #[], guard := none }) (v := ?_) rfl (by kernel_rfl) (by kernel_rfl) (by kernel_rfl) (fun _ _ _ h => h) (Or.inl ⟨by rfl, ?_⟩) hHeld ?_
                  rotate_left
                  · intro w0 hSw; (try dsimp only at hSw); go_simp; try with_reducible rfl
                  try simp only [Act.put, List.setIfInBounds_toArray, List.set_cons_zero, List.set_cons_succ]
                  refine wpAnyH_take (i := 4) (oi := { dst := some 116, op := Op.indexAddr 22 (Operand.tmp 114) (Operand.tmp 115), type := 0, pos := "ref.go:259", after := #[{ on := 2, ground := Ground.data }, { on := 3, ground := Ground.data }], guard := none }) (v := ?_) rfl (by kernel_rfl) (by kernel_rfl) (by kernel_rfl) (fun _ _ _ h => h) (Or.inl ⟨by rfl, ?_⟩) hHeld ?_
                  rotate_left
                  · intro w0 hSw; (try dsimp only at hSw); go_simp; try with_reducible rfl
                  try simp only [Act.put, List.setIfInBounds_toArray, List.set_cons_zero, List.set_cons_succ]
                  refine wpAnyH_take (i := 5) (oi := { dst := some 117, op := Op.load 28 (Operand.tmp 116), type := 28, pos := "ref.go:259", after := #[{ on := 4, ground := Ground.data }], guard := none }) (v := ?_) rfl (by kernel_rfl) (by kernel_rfl) (by kernel_rfl) (fun _ _ _ h => h) (Or.inl ⟨by rfl, ?_⟩) hHeld ?_
                  rotate_left
                  · intro w0 hSw; (try dsimp only at hSw); go_simp; try with_reducible rfl
                  try simp only [Act.put, List.setIfInBounds_toArray, List.set_cons_zero, List.set_cons_succ]
                  refine wpAnyH_ready (rs := [1, 6]) (by kernel_rfl) (by simp) ?_
                  refine AllReadyH.cons (o := { dst := some 113, op := Op.load 22 (Operand.tmp 112), type := 22, pos := "ref.go:259", after := #[{ on := 0, ground := Ground.data }], guard := none }) rfl (fun K hK => ?_) (AllReadyH.cons (o := { dst := some 118, op := Op.buildSlice 22 1 #[(0, Operand.tmp 117)], type := 22, pos := "ref.go:259", after := #[{ on := 5, ground := Ground.data }], guard := none }) rfl (fun K hK => ?_) AllReadyH.nil)
                  · go_simp
                    refine hK.out _ _ ?_ (fun hHeld => ?_)
                    · (try dsimp only); first | exact wrow | exact R1 | exact R2 | exact R3 | exact R4 _ | assumption
                    clear hK K
                    try simp only [Act.put, List.setIfInBounds_toArray, List.set_cons_zero, List.set_cons_succ]
                    refine wpAnyH_ready (rs := [6]) (by kernel_rfl) (by simp) ?_
                    refine AllReadyH.cons (o := { dst := some 118, op := Op.buildSlice 22 1 #[(0, Operand.tmp 117)], type := 22, pos := "ref.go:259", after := #[{ on := 5, ground := Ground.data }], guard := none }) rfl (fun K hK => ?_) AllReadyH.nil
                    go_simp
                    refine hK.out _ _ ?_ (fun hHeld => ?_)
                    · (try dsimp only); first | exact wrow | exact R1 | exact R2 | exact R3 | exact R4 _ | assumption
                    clear hK K
                    try simp only [Act.put, List.setIfInBounds_toArray, List.set_cons_zero, List.set_cons_succ]
                    refine wpAnyH_ready (rs := [7]) (by kernel_rfl) (by simp) ?_
                    refine AllReadyH.cons (o := { dst := some 119, op := Op.call { callee := Callee.builtin Builtin.append, args := #[Operand.tmp 113, Operand.tmp 118], argTypes := #[22, 22] }, type := 22, pos := "ref.go:259", after := #[{ on := 1, ground := Ground.data }, { on := 6, ground := Ground.data }], guard := none }) rfl (fun K hK => ?_) AllReadyH.nil
                    (refine step_append_row _ (by rfl) (.tmp 113) (.tmp 118) 22 (by rfl) kVote w.heap.size w.heap.size 28 i0 _ 72 Try.underlying22 hi hz0 hz1 hz2 rfl (by decide) _ (s.take j) (by rfl) own4 _ _ _ [z] (by rfl) rfl (Kd.row_fresh1 (w := wr.drew) (hmk _ _)) (by simp only [List.length_singleton]; omega) (by decide) bel4.size (Nat.le_refl _) (by decide) ?_; intro v' w' own' grw at'; obtain ⟨Av', cv', rfl, hcv1, hcv2, rowv', hav'⟩ := Kd.own_row own'; have R3 := vrow_grown R2 grw (hne ar rfl); have kp := Kd.own_keeps (E := [35]) own4 grw (Nat.le_refl _) (by decide); have n8b := (kp.2 _ (held_type n8a (by decide))).trans n8a; have n6b := (kp.2 _ (held_type n6a (by decide))).trans n6a; have x3c := block_cell n8b (i := 3) rfl; have f3c := frozen_of_row w' _ 3 _ 35 n8b; have R4 := fun u => Kd.row_keep (Keeps.set (E := 28 :: kVote.E) (p := ⟨w.heap.size + 1 + 1, 3, none⟩) n8b le8 (by decide) u) R3)
                    refine hK.out _ _ ?_ (fun hHeld => ?_)
                    · (try dsimp only); first | exact wrow | exact R1 | exact R2 | exact R3 | exact R4 _ | assumption
                    clear hK K
                    try simp only [Act.put, List.setIfInBounds_toArray, List.set_cons_zero, List.set_cons_succ]
                    refine wpAnyH_take (i := 8) (oi := { dst := some 120, op := Op.fieldAddr 35 (Operand.tmp 8) 3, type := 0, pos := "ref.go:259", after := #[{ on := 0, ground := Ground.phase }, { on := 1, ground := Ground.phase }, { on := 2, ground := Ground.phase }, { on := 3, ground := Ground.phase }, { on := 4, ground := Ground.phase }, { on := 5, ground := Ground.phase }, { on := 6, ground := Ground.phase }, { on := 7, ground := Ground.phase }], guard := none }) (v := ?_) rfl (by kernel_rfl) (by kernel_rfl) (by kernel_rfl) (fun _ _ _ h => h) (Or.inl ⟨by rfl, ?_⟩) hHeld ?_
                    rotate_left
                    · intro w0 hSw; (try dsimp only at hSw); go_simp; try with_reducible rfl
                    try simp only [Act.put, List.setIfInBounds_toArray, List.set_cons_zero, List.set_cons_succ]
                    refine wpAnyH_ready (rs := [9]) (by kernel_rfl) (by simp) ?_
                    refine AllReadyH.cons (o := { dst := none, op := Op.store 22 (Operand.tmp 120) (Operand.tmp 119), type := 0, pos := "ref.go:259", after := #[{ on := 8, ground := Ground.data }, { on := 7, ground := Ground.data }, { on := 7, ground := Ground.chain }, { on := 0, ground := Ground.phase }, { on := 1, ground := Ground.phase }, { on := 2, ground := Ground.phase }, { on := 3, ground := Ground.phase }, { on := 4, ground := Ground.phase }, { on := 5, ground := Ground.phase }, { on := 6, ground := Ground.phase }, { on := 7, ground := Ground.phase }], guard := none }) rfl (fun K hK => ?_) AllReadyH.nil
                    go_simp
                    refine hK.out _ _ ?_ (fun hHeld => ?_)
                    · (try dsimp only); first | exact wrow | exact R1 | exact R2 | exact R3 | exact R4 _ | assumption
                    clear hK K
                    try simp only [Act.put, List.setIfInBounds_toArray, List.set_cons_zero, List.set_cons_succ]
                    refine wpAnyH_done (by kernel_rfl) ?_ _
                    have hL : (s.take j ++ [z]).length = min j s.length + 1 := by simp
                    rw [hL] at own'
                    rw [← HTK.out] at own'
                    have belw' := Kd.own_step bel4 own4 grw
                    obtain ⟨vv, hvv⟩ : ∃ vv : Value, vv = .slice Av' (min j s.length + 1) cv' := ⟨_, rfl⟩
                    rw [← hvv] at own' ⊢
                    have kx := Keeps.set (E := 28 :: kVote.E) (p := ⟨w.heap.size + 1 + 1, 3, none⟩) n8b le8 (by decide) vv
                    have ownX := Kd.own_keep own' kx
                    have n8X : (w'.setCell ⟨w.heap.size + 1 + 1, 3, none⟩ vv).heap[w.heap.size + 1 + 1]? = some (.cells #[.int .i64 m.view, .int .i64 m.height, .string m.block, vv] 35) := heap_setCell_same w' (w.heap.size + 1 + 1) 3 _ 35 vv n8b
                    have n6X : (w'.setCell ⟨w.heap.size + 1 + 1, 3, none⟩ vv).heap[w.heap.size + 1]? = some (.cells #[.int .i64 0, .int .i64 0, .string ⟨#[]⟩, .slice none 0 0] 35) := (Below.heap_setCell w' ⟨w.heap.size + 1 + 1, 3, none⟩ vv _ (by show w.heap.size + 1 ≠ w.heap.size + 1 + 1; omega)).trans n6b
                    have belX := bl_set belw' (p := ⟨w.heap.size + 1 + 1, 3, none⟩) le8 vv
                    have rowX := R4 vv
                    have hgX : ∀ g, vv.ownBlock = some g → g < (w'.setCell ⟨w.heap.size + 1 + 1, 3, none⟩ vv).heap.size := fun g hg => by obtain ⟨_, c, hc⟩ := Kd.own_block ownX g hg; exact blk_lt hc
                    clear own' R1 R2 R3 R4 kp kx n8b n6b x3b x3e own4 bel4 belw' n8a n6a ba t0 t1 t2 t3 t4 t5 t6 hmk x3c f3c wrow wc3 rowv' hav' hne hcv1 hcv2 grw at' hL hHeld
                    generalize w'.setCell ⟨w.heap.size + 1 + 1, 3, none⟩ vv = X at *
                    have hsz : ∀ w', Below X.heap.size X w' → X.heap.size ≤ w'.heap.size := fun w' h => h.size
                    have hrl : ∀ w', Below X.heap.size X w' → kVote.Row 28 w.heap.size w' (some ar) (r.take b) := fun w' h => Kd.row_below h (vrow_take rowX b)
                    have hrd : ∀ w', Below X.heap.size X w' → kVote.Row 28 w.heap.size w' (some (ar.add ((b + 1) * 7))) (r.drop (b + 1)) := fun w' h => Kd.row_below h (vrow_drop rowX (b + 1))
                    have hl1 : b = (r.take b).length := by rw [List.length_take]; omega
                    have hl2 : r.length - (b + 1) = (r.drop (b + 1)).length := by rw [List.length_drop]
                    have HL1 := Lib.hid hl1
                    have HL2 := Lib.hid hl2
                    have hbs : IntKind.i64.wrap ((b : Int) + 1) = (b : Int) + 1 := IntWalk.i64_in _ (by omega)
                    have hb1 : (b : Int) + 1 ≤ (r.length : Int) := by omega
                    have hb2 : (b : Int) ≤ (cr : Int) := by omega
                    have hb3 : (0 : Int) ≤ (b : Int) + 1 := by omega
                    have hlm1 : (r.take b).length ≤ 1048576 := by rw [List.length_take]; omega
                    have hlm2 : (r.take b).length + (r.drop (b + 1)).length ≤ 1048576 := by rw [List.length_take, List.length_drop]; omega
                    clear rowX hl1 hl2
                    by_cases hcb : cr = b + 1
                    · have hd0 : r.drop (b + 1) = [] := List.drop_of_length_le (by omega)
                      have hpm3 : (r.take b ++ ([] : List Vote)).Perm (s.drop (j + 1)) := by have := HPM.out; rw [hd0] at this; exact this
                      have hl3 : r.length - (b + 1) = ([] : List Vote).length := by simp; omega
                      have HL3 := Lib.hid hl3
                      have HPM3 := Lib.hid hpm3
                      clear hl3 hpm3 hd0 hrd
                      subst hcb
                      have hrd : True := trivial
                      have hb4 : (b : Int) ≤ (b : Int) + 1 := by omega
                      have hb5 : b ≤ b + 1 := by omega
                      have hb6 : ¬ (b + 1 = b) := by omega
                      go_upto_region 25 with fail
                      go_region_held3 (fun w' => Below X.heap.size X w') (repeat (first | exact Below.refl _ _ | assumption | exact bl_grown (by assumption) g2 (fun k h => by cases h) | exact Kd.own_step (by assumption) own3 g4 | apply bl_drew | apply bl_alloc)) ((first
                        | (refine step_append_row _ (by rfl) (.tmp 121) (.tmp 124) 22 (by rfl) kVote w.heap.size X.heap.size 28 i0 _ 72 Try.underlying22 hi hz0 hz1 hz2 rfl (by decide) (.slice none 0 0) [] (by rfl) (Kd.own_nil kVote 28 w.heap.size _ X.heap.size) _ _ _ (r.take b) (by rfl) HL1.out (hrl _ (by assumption)) (by simp only [List.length_nil]; omega) (by decide) (hsz _ (by assumption)) belX.size (by decide) ?_; intro v2 w2 own2 g2 at2)
                        | (have own3 := own2; rw [List.nil_append] at own3; refine step_append_row _ (by rfl) (.tmp 125) (.tmp 129) 22 (by rfl) kVote w.heap.size X.heap.size 28 i0 _ 72 Try.underlying22 hi hz0 hz1 hz2 rfl (by decide) _ (r.take b) (by rfl) own3 _ _ _ ([] : List Vote) (by rfl) rfl vrow_nil (by simp only [List.length_nil]; omega) (by decide) (hsz _ (by assumption)) belX.size (by decide) ?_; intro v4 w4 own4 g4 at4)))
                      all_goals
                        have bw : Below X.heap.size X w4 := by assumption
                        obtain ⟨A4, c4, rfl, hc41, hc42, row4, hA4⟩ := Kd.own_row own4
                        have ownY := Kd.own_below ownX bw
                        have n8Y := block_below bw n8X
                        have n6Y := block_below bw n6X
                        have belY := bl_trans belX bw
                        clear hrl hrd hsz own4 ownX n8X n6X belX
                        go_wp2_with fail
                        go_roundw
                        case rel =>
                          refine ⟨j + 1, by omega, r.take b ++ ([] : List Vote), vv, A4, c4, by first | rfl | (congr 1; simp), hc41, hc42, HPM3.out, row4, ?_, ownY, n8Y, n6Y, belY⟩
                          intro ad had hv
                          have h1 := hA4 ad had
                          have h2 := hgX ad.block hv
                          omega
                        case measure =>
                          simp [lenOf]
                          omega
                    · go_upto_region 25 with fail
                      go_region_held3 (fun w' => Below X.heap.size X w') (repeat (first | exact Below.refl _ _ | assumption | exact bl_grown (by assumption) g2 (fun k h => by cases h) | exact Kd.own_step (by assumption) own3 g4 | apply bl_drew | apply bl_alloc)) ((first
                        | (refine step_append_row _ (by rfl) (.tmp 121) (.tmp 124) 22 (by rfl) kVote w.heap.size X.heap.size 28 i0 _ 72 Try.underlying22 hi hz0 hz1 hz2 rfl (by decide) (.slice none 0 0) [] (by rfl) (Kd.own_nil kVote 28 w.heap.size _ X.heap.size) _ _ _ (r.take b) (by rfl) HL1.out (hrl _ (by assumption)) (by simp only [List.length_nil]; omega) (by decide) (hsz _ (by assumption)) belX.size (by decide) ?_; intro v2 w2 own2 g2 at2)
                        | (have own3 := own2; rw [List.nil_append] at own3; refine step_append_row _ (by rfl) (.tmp 125) (.tmp 129) 22 (by rfl) kVote w.heap.size X.heap.size 28 i0 _ 72 Try.underlying22 hi hz0 hz1 hz2 rfl (by decide) _ (r.take b) (by rfl) own3 _ _ _ (r.drop (b + 1)) (by rfl) HL2.out (hrd _ (by assumption)) (by omega) (by decide) (hsz _ (by assumption)) belX.size (by decide) ?_; intro v4 w4 own4 g4 at4)))
                      all_goals
                        have bw : Below X.heap.size X w4 := by assumption
                        obtain ⟨A4, c4, rfl, hc41, hc42, row4, hA4⟩ := Kd.own_row own4
                        have ownY := Kd.own_below ownX bw
                        have n8Y := block_below bw n8X
                        have n6Y := block_below bw n6X
                        have belY := bl_trans belX bw
                        clear hrl hrd hsz own4 ownX n8X n6X belX
                        go_wp2_with fail
                        go_roundw
                        case rel =>
                          refine ⟨j + 1, by omega, r.take b ++ r.drop (b + 1), vv, A4, c4, by first | rfl | (congr 1; simp), hc41, hc42, HPM.out, row4, ?_, ownY, n8Y, n6Y, belY⟩
                          intro ad had hv
                          have h1 := hA4 ad had
                          have h2 := hgX ad.block hv
                          omega
                        case measure =>
                          simp [lenOf]
                          omega
                  · go_simp
                    refine hK.out _ _ ?_ (fun hHeld => ?_)
                    · (try dsimp only); first | exact wrow | exact R1 | exact R2 | exact R3 | exact R4 _ | assumption
                    clear hK K
                    try simp only [Act.put, List.setIfInBounds_toArray, List.set_cons_zero, List.set_cons_succ]
                    refine wpAnyH_ready (rs := [1]) (by kernel_rfl) (by simp) ?_
                    refine AllReadyH.cons (o := { dst := some 113, op := Op.load 22 (Operand.tmp 112), type := 22, pos := "ref.go:259", after := #[{ on := 0, ground := Ground.data }], guard := none }) rfl (fun K hK => ?_) AllReadyH.nil
                    go_simp
                    refine hK.out _ _ ?_ (fun hHeld => ?_)
                    · (try dsimp only); first | exact wrow | exact R1 | exact R2 | exact R3 | exact R4 _ | assumption
                    clear hK K
                    try simp only [Act.put, List.setIfInBounds_toArray, List.set_cons_zero, List.set_cons_succ]
                    refine wpAnyH_ready (rs := [7]) (by kernel_rfl) (by simp) ?_
                    refine AllReadyH.cons (o := { dst := some 119, op := Op.call { callee := Callee.builtin Builtin.append, args := #[Operand.tmp 113, Operand.tmp 118], argTypes := #[22, 22] }, type := 22, pos := "ref.go:259", after := #[{ on := 1, ground := Ground.data }, { on := 6, ground := Ground.data }], guard := none }) rfl (fun K hK => ?_) AllReadyH.nil
                    (refine step_append_row _ (by rfl) (.tmp 113) (.tmp 118) 22 (by rfl) kVote w.heap.size w.heap.size 28 i0 _ 72 Try.underlying22 hi hz0 hz1 hz2 rfl (by decide) _ (s.take j) (by rfl) own4 _ _ _ [z] (by rfl) rfl (Kd.row_fresh1 (w := wr.drew) (hmk _ _)) (by simp only [List.length_singleton]; omega) (by decide) bel4.size (Nat.le_refl _) (by decide) ?_; intro v' w' own' grw at'; obtain ⟨Av', cv', rfl, hcv1, hcv2, rowv', hav'⟩ := Kd.own_row own'; have R3 := vrow_grown R2 grw (hne ar rfl); have kp := Kd.own_keeps (E := [35]) own4 grw (Nat.le_refl _) (by decide); have n8b := (kp.2 _ (held_type n8a (by decide))).trans n8a; have n6b := (kp.2 _ (held_type n6a (by decide))).trans n6a; have x3c := block_cell n8b (i := 3) rfl; have f3c := frozen_of_row w' _ 3 _ 35 n8b; have R4 := fun u => Kd.row_keep (Keeps.set (E := 28 :: kVote.E) (p := ⟨w.heap.size + 1 + 1, 3, none⟩) n8b le8 (by decide) u) R3)
                    refine hK.out _ _ ?_ (fun hHeld => ?_)
                    · (try dsimp only); first | exact wrow | exact R1 | exact R2 | exact R3 | exact R4 _ | assumption
                    clear hK K
                    try simp only [Act.put, List.setIfInBounds_toArray, List.set_cons_zero, List.set_cons_succ]
                    refine wpAnyH_take (i := 8) (oi := { dst := some 120, op := Op.fieldAddr 35 (Operand.tmp 8) 3, type := 0, pos := "ref.go:259", after := #[{ on := 0, ground := Ground.phase }, { on := 1, ground := Ground.phase }, { on := 2, ground := Ground.phase }, { on := 3, ground := Ground.phase }, { on := 4, ground := Ground.phase }, { on := 5, ground := Ground.phase }, { on := 6, ground := Ground.phase }, { on := 7, ground := Ground.phase }], guard := none }) (v := ?_) rfl (by kernel_rfl) (by kernel_rfl) (by kernel_rfl) (fun _ _ _ h => h) (Or.inl ⟨by rfl, ?_⟩) hHeld ?_
                    rotate_left
                    · intro w0 hSw; (try dsimp only at hSw); go_simp; try with_reducible rfl
                    try simp only [Act.put, List.setIfInBounds_toArray, List.set_cons_zero, List.set_cons_succ]
                    refine wpAnyH_ready (rs := [9]) (by kernel_rfl) (by simp) ?_
                    refine AllReadyH.cons (o := { dst := none, op := Op.store 22 (Operand.tmp 120) (Operand.tmp 119), type := 0, pos := "ref.go:259", after := #[{ on := 8, ground := Ground.data }, { on := 7, ground := Ground.data }, { on := 7, ground := Ground.chain }, { on := 0, ground := Ground.phase }, { on := 1, ground := Ground.phase }, { on := 2, ground := Ground.phase }, { on := 3, ground := Ground.phase }, { on := 4, ground := Ground.phase }, { on := 5, ground := Ground.phase }, { on := 6, ground := Ground.phase }, { on := 7, ground := Ground.phase }], guard := none }) rfl (fun K hK => ?_) AllReadyH.nil
                    go_simp
                    refine hK.out _ _ ?_ (fun hHeld => ?_)
                    · (try dsimp only); first | exact wrow | exact R1 | exact R2 | exact R3 | exact R4 _ | assumption
                    clear hK K
                    try simp only [Act.put, List.setIfInBounds_toArray, List.set_cons_zero, List.set_cons_succ]
                    refine wpAnyH_done (by kernel_rfl) ?_ _
                    have hL : (s.take j ++ [z]).length = min j s.length + 1 := by simp
                    rw [hL] at own'
                    rw [← HTK.out] at own'
                    have belw' := Kd.own_step bel4 own4 grw
                    obtain ⟨vv, hvv⟩ : ∃ vv : Value, vv = .slice Av' (min j s.length + 1) cv' := ⟨_, rfl⟩
                    rw [← hvv] at own' ⊢
                    have kx := Keeps.set (E := 28 :: kVote.E) (p := ⟨w.heap.size + 1 + 1, 3, none⟩) n8b le8 (by decide) vv
                    have ownX := Kd.own_keep own' kx
                    have n8X : (w'.setCell ⟨w.heap.size + 1 + 1, 3, none⟩ vv).heap[w.heap.size + 1 + 1]? = some (.cells #[.int .i64 m.view, .int .i64 m.height, .string m.block, vv] 35) := heap_setCell_same w' (w.heap.size + 1 + 1) 3 _ 35 vv n8b
                    have n6X : (w'.setCell ⟨w.heap.size + 1 + 1, 3, none⟩ vv).heap[w.heap.size + 1]? = some (.cells #[.int .i64 0, .int .i64 0, .string ⟨#[]⟩, .slice none 0 0] 35) := (Below.heap_setCell w' ⟨w.heap.size + 1 + 1, 3, none⟩ vv _ (by show w.heap.size + 1 ≠ w.heap.size + 1 + 1; omega)).trans n6b
                    have belX := bl_set belw' (p := ⟨w.heap.size + 1 + 1, 3, none⟩) le8 vv
                    have rowX := R4 vv
                    have hgX : ∀ g, vv.ownBlock = some g → g < (w'.setCell ⟨w.heap.size + 1 + 1, 3, none⟩ vv).heap.size := fun g hg => by obtain ⟨_, c, hc⟩ := Kd.own_block ownX g hg; exact blk_lt hc
                    clear own' R1 R2 R3 R4 kp kx n8b n6b x3b x3e own4 bel4 belw' n8a n6a ba t0 t1 t2 t3 t4 t5 t6 hmk x3c f3c wrow wc3 rowv' hav' hne hcv1 hcv2 grw at' hL hHeld
                    generalize w'.setCell ⟨w.heap.size + 1 + 1, 3, none⟩ vv = X at *
                    have hsz : ∀ w', Below X.heap.size X w' → X.heap.size ≤ w'.heap.size := fun w' h => h.size
                    have hrl : ∀ w', Below X.heap.size X w' → kVote.Row 28 w.heap.size w' (some ar) (r.take b) := fun w' h => Kd.row_below h (vrow_take rowX b)
                    have hrd : ∀ w', Below X.heap.size X w' → kVote.Row 28 w.heap.size w' (some (ar.add ((b + 1) * 7))) (r.drop (b + 1)) := fun w' h => Kd.row_below h (vrow_drop rowX (b + 1))
                    have hl1 : b = (r.take b).length := by rw [List.length_take]; omega
                    have hl2 : r.length - (b + 1) = (r.drop (b + 1)).length := by rw [List.length_drop]
                    have HL1 := Lib.hid hl1
                    have HL2 := Lib.hid hl2
                    have hbs : IntKind.i64.wrap ((b : Int) + 1) = (b : Int) + 1 := IntWalk.i64_in _ (by omega)
                    have hb1 : (b : Int) + 1 ≤ (r.length : Int) := by omega
                    have hb2 : (b : Int) ≤ (cr : Int) := by omega
                    have hb3 : (0 : Int) ≤ (b : Int) + 1 := by omega
                    have hlm1 : (r.take b).length ≤ 1048576 := by rw [List.length_take]; omega
                    have hlm2 : (r.take b).length + (r.drop (b + 1)).length ≤ 1048576 := by rw [List.length_take, List.length_drop]; omega
                    clear rowX hl1 hl2
                    by_cases hcb : cr = b + 1
                    · have hd0 : r.drop (b + 1) = [] := List.drop_of_length_le (by omega)
                      have hpm3 : (r.take b ++ ([] : List Vote)).Perm (s.drop (j + 1)) := by have := HPM.out; rw [hd0] at this; exact this
                      have hl3 : r.length - (b + 1) = ([] : List Vote).length := by simp; omega
                      have HL3 := Lib.hid hl3
                      have HPM3 := Lib.hid hpm3
                      clear hl3 hpm3 hd0 hrd
                      subst hcb
                      have hrd : True := trivial
                      have hb4 : (b : Int) ≤ (b : Int) + 1 := by omega
                      have hb5 : b ≤ b + 1 := by omega
                      have hb6 : ¬ (b + 1 = b) := by omega
                      go_upto_region 25 with fail
                      go_region_held3 (fun w' => Below X.heap.size X w') (repeat (first | exact Below.refl _ _ | assumption | exact bl_grown (by assumption) g2 (fun k h => by cases h) | exact Kd.own_step (by assumption) own3 g4 | apply bl_drew | apply bl_alloc)) ((first
                        | (refine step_append_row _ (by rfl) (.tmp 121) (.tmp 124) 22 (by rfl) kVote w.heap.size X.heap.size 28 i0 _ 72 Try.underlying22 hi hz0 hz1 hz2 rfl (by decide) (.slice none 0 0) [] (by rfl) (Kd.own_nil kVote 28 w.heap.size _ X.heap.size) _ _ _ (r.take b) (by rfl) HL1.out (hrl _ (by assumption)) (by simp only [List.length_nil]; omega) (by decide) (hsz _ (by assumption)) belX.size (by decide) ?_; intro v2 w2 own2 g2 at2)
                        | (have own3 := own2; rw [List.nil_append] at own3; refine step_append_row _ (by rfl) (.tmp 125) (.tmp 129) 22 (by rfl) kVote w.heap.size X.heap.size 28 i0 _ 72 Try.underlying22 hi hz0 hz1 hz2 rfl (by decide) _ (r.take b) (by rfl) own3 _ _ _ ([] : List Vote) (by rfl) rfl vrow_nil (by simp only [List.length_nil]; omega) (by decide) (hsz _ (by assumption)) belX.size (by decide) ?_; intro v4 w4 own4 g4 at4)))
                      all_goals
                        have bw : Below X.heap.size X w4 := by assumption
                        obtain ⟨A4, c4, rfl, hc41, hc42, row4, hA4⟩ := Kd.own_row own4
                        have ownY := Kd.own_below ownX bw
                        have n8Y := block_below bw n8X
                        have n6Y := block_below bw n6X
                        have belY := bl_trans belX bw
                        clear hrl hrd hsz own4 ownX n8X n6X belX
                        go_wp2_with fail
                        go_roundw
                        case rel =>
                          refine ⟨j + 1, by omega, r.take b ++ ([] : List Vote), vv, A4, c4, by first | rfl | (congr 1; simp), hc41, hc42, HPM3.out, row4, ?_, ownY, n8Y, n6Y, belY⟩
                          intro ad had hv
                          have h1 := hA4 ad had
                          have h2 := hgX ad.block hv
                          omega
                        case measure =>
                          simp [lenOf]
                          omega
                    · go_upto_region 25 with fail
                      go_region_held3 (fun w' => Below X.heap.size X w') (repeat (first | exact Below.refl _ _ | assumption | exact bl_grown (by assumption) g2 (fun k h => by cases h) | exact Kd.own_step (by assumption) own3 g4 | apply bl_drew | apply bl_alloc)) ((first
                        | (refine step_append_row _ (by rfl) (.tmp 121) (.tmp 124) 22 (by rfl) kVote w.heap.size X.heap.size 28 i0 _ 72 Try.underlying22 hi hz0 hz1 hz2 rfl (by decide) (.slice none 0 0) [] (by rfl) (Kd.own_nil kVote 28 w.heap.size _ X.heap.size) _ _ _ (r.take b) (by rfl) HL1.out (hrl _ (by assumption)) (by simp only [List.length_nil]; omega) (by decide) (hsz _ (by assumption)) belX.size (by decide) ?_; intro v2 w2 own2 g2 at2)
                        | (have own3 := own2; rw [List.nil_append] at own3; refine step_append_row _ (by rfl) (.tmp 125) (.tmp 129) 22 (by rfl) kVote w.heap.size X.heap.size 28 i0 _ 72 Try.underlying22 hi hz0 hz1 hz2 rfl (by decide) _ (r.take b) (by rfl) own3 _ _ _ (r.drop (b + 1)) (by rfl) HL2.out (hrd _ (by assumption)) (by omega) (by decide) (hsz _ (by assumption)) belX.size (by decide) ?_; intro v4 w4 own4 g4 at4)))
                      all_goals
                        have bw : Below X.heap.size X w4 := by assumption
                        obtain ⟨A4, c4, rfl, hc41, hc42, row4, hA4⟩ := Kd.own_row own4
                        have ownY := Kd.own_below ownX bw
                        have n8Y := block_below bw n8X
                        have n6Y := block_below bw n6X
                        have belY := bl_trans belX bw
                        clear hrl hrd hsz own4 ownX n8X n6X belX
                        go_wp2_with fail
                        go_roundw
                        case rel =>
                          refine ⟨j + 1, by omega, r.take b ++ r.drop (b + 1), vv, A4, c4, by first | rfl | (congr 1; simp), hc41, hc42, HPM.out, row4, ?_, ownY, n8Y, n6Y, belY⟩
                          intro ad had hv
                          have h1 := hA4 ad had
                          have h2 := hgX ad.block hv
                          omega
                        case measure =>
                          simp [lenOf]
                          omega
            · obtain rfl : j = n := by omega
              subst hvo
              have c0 := block_cell n8 (i := 0) rfl
              have c1 := block_cell n8 (i := 1) rfl
              have c2 := block_cell n8 (i := 2) rfl
              have c3 := block_cell n8 (i := 3) rfl
              have z0 := block_cell n6 (i := 0) rfl
              have z1 := block_cell n6 (i := 1) rfl
              have z2 := block_cell n6 (i := 2) rfl
              have z3 := block_cell n6 (i := 3) rfl
              have f0 := frozen_of_row _ _ 0 _ 35 n6
              have f1 := frozen_of_row _ _ 1 _ 35 n6
              have f2 := frozen_of_row _ _ 2 _ 35 n6
              have f3 := frozen_of_row _ _ 3 _ 35 n6
              have hnI2 : ¬ ((j : Int) < (j : Int)) := by omega
              have HLJ := Lib.hid hlj
              have HN6 := Lib.hid n6
              have HRV := Lib.hid rowv
              clear hlj hlr hlen n6 n8 rowv row ownv hrp
              go_wp2_with fail
              refine bodyPost_ret (v := .tuple #[.agg #[.int .i64 m.view, .int .i64 m.height, .string m.block, .slice Av j cv], .bool true]) (by simp [results, Try.results38, go_sem, c0, c1, c2, c3, z0, z1, z2, z3]) rfl ⟨.inr ⟨by rw [HOF.out]; exact HB.out, ?_⟩, ?_⟩
              · have hmn : min j s.length = j := by have := HLJ.out; rw [List.length_take] at this; exact this
                have hrow := Kd.row_keep (cert_put HN6.out le6 (.int .i64 m.view) (.int .i64 m.height) (.string m.block) (.slice Av j cv)) HRV.out
                first
                  | exact ⟨Av, ⟨cv, by rw [hmn]⟩, hrow⟩
                  | exact ⟨Av, j, cv, by rw [Int.toNat_natCast]; exact HLJ.out.symm, rfl, by rw [Int.toNat_natCast]; exact hrow⟩
              · exact bl_set (bl_set (bl_set (bl_set bel2 le6 _) le6 _) le6 _) le6 _
end Go.Proofs.Ytglneailkgminaa
