/- Package learner: New. No claim of its own; no condition. -/
import Derived.Test.YtcbfpdenjdgnlaaGreatQt38
import Derived.Test.YtcbfpdenjdgnlaaGreatQt21
import Derived.Test.YtcbfpdenjdgnlaaGreatQt39
import Derived.Test.YtcbfpdenjdgnlaaGreatQt10
import Derived.Test.YtcbfpdenjdgnlaaGreatQt06
import Derived.Test.YtcbfpdenjdgnlaaGreatQt07
import Derived.Test.YtcbfpdenjdgnlaaGreatQt26
namespace Go.Proofs.YtcbfpdenjdgnlaaGreat
open Go.ChangeShapes Go.WideShapes Go.ChangeAt Go.RowKit
set_option linter.unusedVariables false
set_option linter.unusedSimpArgs false
def chkF (p : Int × Int) (replicas quorum : Int) : Int :=
  if replicas ≤ 7 ∧ 1 ≤ quorum ∧ quorum ≤ replicas ∧ ((p.1 = 1 ∧ quorum ≤ p.2 ∧ p.2 ≤ replicas) ∨ (p.1 = 2 ∧ 1 ≤ p.2 ∧ p.2 ≤ 32)) then 0 else 81
theorem chk_calls (p : Int × Int) (n q : Int) (w : World) :
    Calls Tryz.prog 44 #[.agg #[.int .i64 p.1, .int .i64 p.2], .int .i64 n, .int .i64 q] w fun e w' => e = .returned (.int .i64 (chkF p n q)) ∧ Below w.heap.size w w' := by
  have hk : p.1 = 1 ∧ (p.1 == 1) = true ∨ p.1 = 2 ∧ (p.1 == 1) = false ∧ (p.1 == 2) = true ∨ (p.1 ≠ 1 ∧ p.1 ≠ 2) ∧ (p.1 == 1) = false ∧ (p.1 == 2) = false := by
    by_cases h1 : p.1 = 1
    · exact .inl ⟨h1, by simp [h1]⟩
    · by_cases h2 : p.1 = 2
      · exact .inr (.inl ⟨h2, by simp [h2], by simp [h2]⟩)
      · exact .inr (.inr ⟨⟨h1, h2⟩, by simp [h1], by simp [h2]⟩)
  rcases hk with ⟨h1, h2⟩ | ⟨h1, h2, h3⟩ | ⟨h1, h2, h3⟩
  all_goals
    have H1 := Lib.hid h1
    clear h1
    go_enter Tryz.func44, Tryz.ntmps44
    go_wp2
    all_goals go_ret
    all_goals refine ⟨?_, bl_alloc (Below.refl _ _) _⟩
    all_goals
      have H2 := H1.out
      first
        | (have e : chkF p n q = 0 := if_pos (by omega)
           rw [e]; rfl)
        | (have e : chkF p n q = 81 := if_neg (by omega)
           rw [e]; rfl)
theorem own_open {α : Type} {d : Kd α} {e : TypeId} {B base : Nat} {w : World} {v : Value} {xs : List α} (h : d.Own e B w base v xs) : ∃ A c, v = .slice A xs.length c ∧ d.Own e B w base (.slice A xs.length c) xs := by
  obtain ⟨A, c, rfl, _⟩ := Kd.own_row h
  exact ⟨A, c, rfl, h⟩
/-- A learner that heard nothing, at N; all that is its own lies from B on. -/
def LrnNew (B : Nat) (w : World) (N : Nat) (roots clients : List ByteArray) (q base cap rk rn : Int) : Prop :=
  ∃ T M m A1 c1 A2 c2, w.heap[N]? = some (.cells #[.pointer (some ⟨T, 0, none⟩), .slice A1 roots.length c1, .slice A2 clients.length c2, .int .i64 q, .int .i64 base, .int .i64 cap, .int .i64 rk, .int .i64 rn, .map (some m)] 108 (0, 0)) ∧ B ≤ N ∧ w.heap[T]? = some (.cells #[.map (some M)] 169 (0, 0)) ∧ w.heap[M]? = some (.map #[] 0) ∧ B ≤ T ∧ B ≤ M ∧ w.heap[m]? = some (.map #[] 0) ∧ B ≤ m ∧ M ≠ m ∧
    Kd.str.Own 9 B w B (.slice A1 roots.length c1) roots ∧ Kd.str.Own 9 B w B (.slice A2 clients.length c2) clients
def lnA (G : Nat) (Ar Ac : Option Addr) (roots clients : List ByteArray) (cr cc V : Nat) : Nat → Value → World → Prop
  | 0, y, _ => y = .pointer (some ⟨G, 0, none⟩)
  | 1, y, _ => y = .slice Ar roots.length cr
  | 2, y, w => ∃ A c, y = .slice A roots.length c ∧ Kd.str.Own 9 V w V (.slice A roots.length c) roots
  | 3, y, _ => y = .pointer (some ⟨G, 1, none⟩)
  | 4, y, _ => y = .slice Ac clients.length cc
  | 5, y, w => ∃ A c, y = .slice A clients.length c ∧ Kd.str.Own 9 V w V (.slice A clients.length c) clients
  | 6, y, _ => y = .pointer (some ⟨G, 0, none⟩)
  | _, _, _ => True
def lnB (G G2 : Nat) (A1 A2 : Option Addr) (roots clients : List ByteArray) (c1 c2 : Nat) (q base cap rk rn : Int) (V : Nat) : Nat → Nat × Nat → Value → World → Prop
  | 0, s, y, w => ∃ T M, y = .pointer (some ⟨T, 0, none⟩) ∧ w.heap[T]? = some (.cells #[.map (some M)] 169 (0, 0)) ∧ w.heap[M]? = some (.map #[] 0) ∧ V ≤ T ∧ V ≤ M ∧ s.1 ≤ M ∧ M < s.2
  | 1, _, y, _ => y = .agg #[.slice A1 roots.length c1, .slice A2 clients.length c2, .int .i64 q, .int .i64 base, .int .i64 cap]
  | 2, _, y, _ => y = .agg #[.int .i64 rk, .int .i64 rn]
  | 3, s, y, w => ∃ m, y = .map (some m) ∧ w.heap[m]? = some (.map #[] 0) ∧ V ≤ m ∧ s.1 ≤ m ∧ m < s.2
  | 4, _, y, w => ∃ T M m, y = .agg #[.pointer (some ⟨T, 0, none⟩), .slice A1 roots.length c1, .slice A2 clients.length c2, .int .i64 q, .int .i64 base, .int .i64 cap, .int .i64 rk, .int .i64 rn, .map (some m)] ∧ w.heap[T]? = some (.cells #[.map (some M)] 169 (0, 0)) ∧ w.heap[M]? = some (.map #[] 0) ∧ V ≤ T ∧ V ≤ M ∧ w.heap[m]? = some (.map #[] 0) ∧ V ≤ m ∧ M ≠ m
  | 5, _, y, w => ∃ N T M m, y = .pointer (some ⟨N, 0, none⟩) ∧ w.heap[N]? = some (.cells #[.pointer (some ⟨T, 0, none⟩), .slice A1 roots.length c1, .slice A2 clients.length c2, .int .i64 q, .int .i64 base, .int .i64 cap, .int .i64 rk, .int .i64 rn, .map (some m)] 108 (0, 0)) ∧ V ≤ N ∧ w.heap[T]? = some (.cells #[.map (some M)] 169 (0, 0)) ∧ w.heap[M]? = some (.map #[] 0) ∧ V ≤ T ∧ V ≤ M ∧ w.heap[m]? = some (.map #[] 0) ∧ V ≤ m ∧ M ≠ m
  | 6, _, y, w => ∃ N T M m, y = .pointer (some ⟨N, 0, none⟩) ∧ w.heap[N]? = some (.cells #[.pointer (some ⟨T, 0, none⟩), .slice A1 roots.length c1, .slice A2 clients.length c2, .int .i64 q, .int .i64 base, .int .i64 cap, .int .i64 rk, .int .i64 rn, .map (some m)] 108 (0, 0)) ∧ V ≤ N ∧ w.heap[T]? = some (.cells #[.map (some M)] 169 (0, 0)) ∧ w.heap[M]? = some (.map #[] 0) ∧ V ≤ T ∧ V ≤ M ∧ w.heap[m]? = some (.map #[] 0) ∧ V ≤ m ∧ M ≠ m
  | 7, _, y, _ => y = .int .i64 0
  | _, _, _, _ => True
set_option maxHeartbeats 16000000 in
set_option maxRecDepth 100000 in
theorem lnew_ok (roots clients : List ByteArray) (Ar Ac : Option Addr) (cr cc : Nat) (q base cap rk rn : Int) (w : World) (B : Nat) (hrr : Kd.str.Row 9 B w Ar roots) (hrc : Kd.str.Row 9 B w Ac clients)
    (h1 : 1 ≤ roots.length) (h7 : roots.length ≤ 7) (hq1 : 1 ≤ q) (hq2 : q ≤ (roots.length : Int)) (hcl : clients.length ≤ 2097152) (hck : chkF (rk, rn) roots.length q = 0) :
    Calls Tryz.prog 23 #[.agg #[.slice Ar roots.length cr, .slice Ac clients.length cc, .int .i64 q, .int .i64 base, .int .i64 cap], .agg #[.int .i64 rk, .int .i64 rn]] w fun x w' => (∃ N, x = .returned (.tuple #[.pointer (some ⟨N, 0, none⟩), .int .i64 0]) ∧ LrnNew w.heap.size w' N roots clients q base cap rk rn) ∧ Below w.heap.size w w' := by
  have q0 := bl_alloc (bl_alloc (Below.refl w.heap.size w) (.cells #[.slice Ar roots.length cr, .slice Ac clients.length cc, .int .i64 q, .int .i64 base, .int .i64 cap] 24)) (.cells #[.int .i64 rk, .int .i64 rn] 26)
  have a0 := alloc_old (alloc_new w (.cells #[.slice Ar roots.length cr, .slice Ac clients.length cc, .int .i64 q, .int .i64 base, .int .i64 cap] 24)) (.cells #[.int .i64 rk, .int .i64 rn] 26)
  have a1 : ((w.alloc (.cells #[.slice Ar roots.length cr, .slice Ac clients.length cc, .int .i64 q, .int .i64 base, .int .i64 cap] 24)).alloc (.cells #[.int .i64 rk, .int .i64 rn] 26)).heap[w.heap.size + 1]? = some (.cells #[.int .i64 rk, .int .i64 rn] 26 (0, 0)) := by
    have := alloc_new (w.alloc (.cells #[.slice Ar roots.length cr, .slice Ac clients.length cc, .int .i64 q, .int .i64 base, .int .i64 cap] 24)) (.cells #[.int .i64 rk, .int .i64 rn] 26)
    rwa [World.size_alloc] at this
  have hrr0 := Kd.row_below q0 hrr
  have hrc0 := Kd.row_below q0 hrc
  have HRL := Lib.hid (show roots.length ≤ 2097152 by omega)
  have HCLN := Lib.hid hcl
  have HCK := Lib.hid hck
  have g1 : ¬ ((roots.length : Int) < 1) := by omega
  have g2 : ¬ ((roots.length : Int) > 7) := by omega
  have g3 : ¬ (q < 1) := by omega
  have g4 : ¬ (q > (roots.length : Int)) := by omega
  clear hrr hrc hcl hck h1 h7 hq1 hq2
  go_enter Tryz.func23, Tryz.ntmps23
  go_upto_region 1 with fail
  change Code.wp _ _ _ _ ((w.alloc (.cells #[.slice Ar roots.length cr, .slice Ac clients.length cc, .int .i64 q, .int .i64 base, .int .i64 cap] 24)).alloc (.cells #[.int .i64 rk, .int .i64 rn] 26))
  obtain ⟨G, hG⟩ : ∃ G, w.heap.size = G := ⟨_, rfl⟩
  obtain ⟨G2, hG2⟩ : ∃ G2, w.heap.size + 1 = G2 := ⟨_, rfl⟩
  have leG : w.heap.size ≤ G := by omega
  have neG : G2 ≠ G := by omega
  generalize (w.alloc (.cells #[.slice Ar roots.length cr, .slice Ac clients.length cc, .int .i64 q, .int .i64 base, .int .i64 cap] 24)).alloc (.cells #[.int .i64 rk, .int .i64 rn] 26) = V0 at *
  simp only [hG2] at a1 ⊢
  simp only [hG] at a0 ⊢
  clear hG hG2
  have c0 := block_cell a0 (i := 0) rfl
  have c1 := block_cell a0 (i := 1) rfl
  have c2 := block_cell a0 (i := 2) rfl
  have e0 := block_cell a1 (i := 0) rfl
  have e1 := block_cell a1 (i := 1) rfl
  have A0 := Lib.hid a0
  have AA1 := Lib.hid a1
  have HRR0 := Lib.hid hrr0
  have HRC0 := Lib.hid hrc0
  have Q0 := Lib.hid q0
  clear a0 a1 hrr0 hrc0 q0
  go_upto_region 7 with (go_at_call 44; refine (chk_calls (rk, rn) _ q _).mono ?_; rintro x V1 ⟨rfl, b1⟩; rw [HCK.out])
  have HG := Lib.hid (block_below b1 A0.out)
  have HG2 := Lib.hid (block_below b1 AA1.out)
  have HRR := Lib.hid (Kd.row_below b1 HRR0.out)
  have HRC := Lib.hid (Kd.row_below b1 HRC0.out)
  have Q1 := Lib.hid (bl_trans Q0.out b1)
  clear c0 c1 c2 e0 e1 A0 AA1 HRR0 HRC0 Q0 b1
  refine wp_region_any (by kernel_rfl) ?_
  refine wpAny_invtA [true, true, true, true, true, true, true, false, false, false] [7, 8, 9] (by kernel_rfl) (by kernel_rfl) Rb (lnA G Ar Ac roots clients cr cc V1.heap.size) rb_refl rb_trans ⟨?_, ?_, ?_, ?_, ?_, ?_, ?_, trivial⟩ ?_
  · intro Fr u hN hO w1 hR hdep K hK
    rw [if_pos (by rfl)]
    have y2 : Fr.tmps[2]? = some (.pointer (some ⟨G, 0, none⟩)) := hO 2 _ rfl rfl
    clear hN hO hdep
    go_simp
    refine hK _ _ (rb_refl _) fun w3 h3 => ?_
    exact rfl
  · intro Fr u hN hO w1 hR hdep K hK
    rw [if_pos (by rfl)]
    have x0 : Fr.tmps[36]? = some (u 0) := hN 0 _ 36 rfl rfl rfl
    rw [show u 0 = .pointer (some ⟨G, 0, none⟩) from hdep 0 (by kernel_rfl) w1 (rb_refl _)] at x0
    clear hN hO hdep
    have gg := block_below hR HG.out
    have z0 := block_cell gg (i := 0) rfl
    have z1 := block_cell gg (i := 1) rfl
    have z2 := block_cell gg (i := 2) rfl
    have z3 := block_cell gg (i := 3) rfl
    have z4 := block_cell gg (i := 4) rfl
    go_simp
    refine hK _ _ (rb_refl _) fun w3 h3 => ?_
    exact rfl
  · intro Fr u hN hO w1 hR hdep K hK
    rw [if_pos (by rfl)]
    have x1 : Fr.tmps[37]? = some (u 1) := hN 1 _ 37 rfl rfl rfl
    rw [show u 1 = .slice Ar roots.length cr from hdep 1 (by kernel_rfl) w1 (rb_refl _)] at x1
    clear hN hO hdep
    go_simp
    refine (clones_calls roots Ar roots.length cr w1 B rfl HRL.out (Kd.row_below hR HRR.out)).mono ?_
    rintro x w2 ⟨⟨v, rfl, own, _⟩, b2⟩
    refine hK _ _ b2 fun w3 h3 => ?_
    exact own_open (Kd.own_flat Kd.flat_str (Kd.own_below own h3) hR.size)
  · intro Fr u hN hO w1 hR hdep K hK
    rw [if_pos (by rfl)]
    have y2 : Fr.tmps[2]? = some (.pointer (some ⟨G, 0, none⟩)) := hO 2 _ rfl rfl
    clear hN hO hdep
    go_simp
    refine hK _ _ (rb_refl _) fun w3 h3 => ?_
    exact rfl
  · intro Fr u hN hO w1 hR hdep K hK
    rw [if_pos (by rfl)]
    have x3 : Fr.tmps[39]? = some (u 3) := hN 3 _ 39 rfl rfl rfl
    rw [show u 3 = .pointer (some ⟨G, 1, none⟩) from hdep 3 (by kernel_rfl) w1 (rb_refl _)] at x3
    clear hN hO hdep
    have gg := block_below hR HG.out
    have z0 := block_cell gg (i := 0) rfl
    have z1 := block_cell gg (i := 1) rfl
    have z2 := block_cell gg (i := 2) rfl
    have z3 := block_cell gg (i := 3) rfl
    have z4 := block_cell gg (i := 4) rfl
    go_simp
    refine hK _ _ (rb_refl _) fun w3 h3 => ?_
    exact rfl
  · intro Fr u hN hO w1 hR hdep K hK
    rw [if_pos (by rfl)]
    have x4 : Fr.tmps[40]? = some (u 4) := hN 4 _ 40 rfl rfl rfl
    rw [show u 4 = .slice Ac clients.length cc from hdep 4 (by kernel_rfl) w1 (rb_refl _)] at x4
    clear hN hO hdep
    go_simp
    refine (clones_calls clients Ac clients.length cc w1 B rfl HCLN.out (Kd.row_below hR HRC.out)).mono ?_
    rintro x w2 ⟨⟨v, rfl, own, _⟩, b2⟩
    refine hK _ _ b2 fun w3 h3 => ?_
    exact own_open (Kd.own_flat Kd.flat_str (Kd.own_below own h3) hR.size)
  · intro Fr u hN hO w1 hR hdep K hK
    rw [if_pos (by rfl)]
    have y2 : Fr.tmps[2]? = some (.pointer (some ⟨G, 0, none⟩)) := hO 2 _ rfl rfl
    clear hN hO hdep
    go_simp
    refine hK _ _ (rb_refl _) fun w3 h3 => ?_
    exact rfl
  · intro u w1 hR hall
    obtain ⟨A1, c1, e2, o2⟩ := hall 2 rfl
    obtain ⟨A2, c2, e5, o5⟩ := hall 5 rfl
    have e6 : u 6 = .pointer (some ⟨G, 0, none⟩) := hall 6 rfl
    have bw : Below V1.heap.size V1 w1 := bl_trans (bl_drew (Below.refl _ _)) hR
    have gg := block_below bw HG.out
    have gr := block_below bw HG2.out
    have Y0 := block_cell gg (i := 0) rfl
    have Y1 := block_cell gg (i := 1) rfl
    have Z0 : w1.frozen? ⟨G, 0, none⟩ = false := block_free gg
    have Z1 : w1.frozen? ⟨G, 1, none⟩ = false := block_free gg
    change wpList _ _ _ ([_, _, _]) _ _
    simp only [frameM, frameM_nil, Act.put, List.setIfInBounds_toArray, List.set_cons_zero, List.set_cons_succ, Nat.reduceAdd, e2, e5, e6]
    clear hall e2 e5 e6
    go_upto_region 8 with fail
    have s1 := block_set (i := 0) (u := .slice A1 roots.length c1) gg
    have s2 := block_set (i := 1) (u := .slice A2 clients.length c2) s1
    have r0 : ((w1.setCell ⟨G, 0, none⟩ (.slice A1 roots.length c1)).setCell ⟨G, 1, none⟩ (.slice A2 clients.length c2)).heap[G]? = some (.cells #[.slice A1 roots.length c1, .slice A2 clients.length c2, .int .i64 q, .int .i64 base, .int .i64 cap] 24 (0, 0)) := by simpa using s2
    have r1 : ((w1.setCell ⟨G, 0, none⟩ (.slice A1 roots.length c1)).setCell ⟨G, 1, none⟩ (.slice A2 clients.length c2)).heap[G2]? = some (.cells #[.int .i64 rk, .int .i64 rn] 26 (0, 0)) := block_far (block_far gr neG) neG
    have kk : ∀ E, 24 ∉ E → Keeps G E w1 ((w1.setCell ⟨G, 0, none⟩ (.slice A1 roots.length c1)).setCell ⟨G, 1, none⟩ (.slice A2 clients.length c2)) := fun E hE => (Keeps.set (p := ⟨G, 0, none⟩) gg (Nat.le_refl _) hE _).trans (Keeps.set (p := ⟨G, 1, none⟩) s1 (Nat.le_refl _) hE _)
    have bz : Below w.heap.size w ((w1.setCell ⟨G, 0, none⟩ (.slice A1 roots.length c1)).setCell ⟨G, 1, none⟩ (.slice A2 clients.length c2)) := ((bl_trans Q1.out bw).setCell (p := ⟨G, 0, none⟩) leG _).setCell (p := ⟨G, 1, none⟩) leG _
    have p2 := Kd.own_keep (Kd.own_flat (B' := G) Kd.flat_str o2 (show w.heap.size ≤ _ from Q1.out.size)) (kk _ (by simp [Kd.str]))
    have p5 := Kd.own_keep (Kd.own_flat (B' := G) Kd.flat_str o5 (show w.heap.size ≤ _ from Q1.out.size)) (kk _ (by simp [Kd.str]))
    clear kk s1 s2 gg gr Y0 Y1 Z0 Z1 o2 o5 hR bw HG HG2 HRR HRC Q1
    generalize (w1.setCell ⟨G, 0, none⟩ (.slice A1 roots.length c1)).setCell ⟨G, 1, none⟩ (.slice A2 clients.length c2) = V8 at *
    have HG := Lib.hid r0
    have HG2 := Lib.hid r1
    have HP2 := Lib.hid p2
    have HP5 := Lib.hid p5
    have HBZ := Lib.hid bz
    clear r0 r1 p2 p5 bz
    refine wp_region_invP (by kernel_rfl) (by kernel_rfl) Rb (lnB G G2 A1 A2 roots clients c1 c2 q base cap rk rn V8.heap.size) rb_refl rb_trans (fun _ _ h => h.size) ⟨?_, ?_, ?_, ?_, ?_, ?_, ?_, ?_, trivial⟩ ?_
    · intro Fr u s hN hO w1 hR hdep hdis K hK
      rw [if_pos (by rfl)]
      clear hN hO hdep hdis
      go_simp
      refine (tree_new w1).mono ?_
      rintro x w2 ⟨⟨T, rfl, M, t0, t1, t2, t3⟩, b2⟩
      refine hK _ _ b2 fun w3 h3 => ?_
      exact ⟨T, M, rfl, block_below h3 t0, block_below h3 t1, Nat.le_trans hR.size t2, Nat.le_trans hR.size t3, t3, blk_lt t1⟩
    · intro Fr u s hN hO w1 hR hdep hdis K hK
      rw [if_pos (by rfl)]
      have y2 : Fr.tmps[2]? = some (.pointer (some ⟨G, 0, none⟩)) := hO 2 _ rfl rfl
      clear hN hO hdep hdis
      have gg := block_below hR HG.out
      have z0 := block_cell gg (i := 0) rfl
      have z1 := block_cell gg (i := 1) rfl
      have z2 := block_cell gg (i := 2) rfl
      have z3 := block_cell gg (i := 3) rfl
      have z4 := block_cell gg (i := 4) rfl
      go_simp
      refine hK _ _ (rb_refl _) fun w3 h3 => ?_
      exact rfl
    · intro Fr u s hN hO w1 hR hdep hdis K hK
      rw [if_pos (by rfl)]
      have y3 : Fr.tmps[3]? = some (.pointer (some ⟨G2, 0, none⟩)) := hO 3 _ rfl rfl
      clear hN hO hdep hdis
      have gg := block_below hR HG2.out
      have z0 := block_cell gg (i := 0) rfl
      have z1 := block_cell gg (i := 1) rfl
      go_simp
      refine hK _ _ (rb_refl _) fun w3 h3 => ?_
      exact rfl
    · intro Fr u s hN hO w1 hR hdep hdis K hK
      rw [if_pos (by rfl)]
      clear hN hO hdep hdis
      have hmm := @run_makeMap Tryz.prog
      go_simp
      refine hK _ _ (bl_alloc (Below.refl _ _) _) fun w3 h3 => ?_
      exact ⟨w1.heap.size, rfl, block_below h3 (alloc_new w1 _), hR.size, Nat.le_refl _, blk_lt (alloc_new w1 _)⟩
    · intro Fr u s hN hO w1 hR hdep hdis K hK
      rw [if_pos (by rfl)]
      have x0 : Fr.tmps[44]? = some (u 0) := hN 0 _ 44 rfl rfl rfl
      obtain ⟨T, M, hu0, t0, t1, t2, t3, i0, i1⟩ := hdep 0 (by kernel_rfl) w1 (rb_refl _)
      rw [hu0] at x0
      have x1 : Fr.tmps[45]? = some (u 1) := hN 1 _ 45 rfl rfl rfl
      rw [show u 1 = .agg #[.slice A1 roots.length c1, .slice A2 clients.length c2, .int .i64 q, .int .i64 base, .int .i64 cap] from hdep 1 (by kernel_rfl) w1 (rb_refl _)] at x1
      have x2 : Fr.tmps[46]? = some (u 2) := hN 2 _ 46 rfl rfl rfl
      rw [show u 2 = .agg #[.int .i64 rk, .int .i64 rn] from hdep 2 (by kernel_rfl) w1 (rb_refl _)] at x2
      have x3 : Fr.tmps[47]? = some (u 3) := hN 3 _ 47 rfl rfl rfl
      obtain ⟨m, hu3, m1, m2, i2, i3⟩ := hdep 3 (by kernel_rfl) w1 (rb_refl _)
      have mne : M ≠ m := by
        have := hdis 0 3 (by kernel_rfl) (by kernel_rfl) (by decide)
        omega
      rw [hu3] at x3
      clear hN hO hdep hdis
      go_simp
      refine hK _ _ (rb_refl _) fun w3 h3 => ?_
      exact ⟨T, M, m, rfl, block_below h3 t0, block_below h3 t1, t2, t3, block_below h3 m1, m2, mne⟩
    · intro Fr u s hN hO w1 hR hdep hdis K hK
      rw [if_pos (by rfl)]
      have x4 : Fr.tmps[48]? = some (u 4) := hN 4 _ 48 rfl rfl rfl
      obtain ⟨T, M, m, hu4, t0, t1, t2, t3, m1, m2, mne⟩ := hdep 4 (by kernel_rfl) w1 (rb_refl _)
      rw [hu4] at x4
      clear hN hO hdep hdis
      go_simp
      refine hK _ _ (bl_alloc (Below.refl _ _) _) fun w3 h3 => ?_
      exact ⟨w1.heap.size, T, M, m, rfl, block_below h3 (alloc_new w1 _), hR.size, block_below h3 (alloc_old t0 _), block_below h3 (alloc_old t1 _), t2, t3, block_below h3 (alloc_old m1 _), m2, mne⟩
    · intro Fr u s hN hO w1 hR hdep hdis K hK
      rw [if_pos (by rfl)]
      have x5 : Fr.tmps[49]? = some (u 5) := hN 5 _ 49 rfl rfl rfl
      obtain ⟨N, T, M, m, hu5, n1, n2, t0, t1, t2, t3, m1, m2, mne⟩ := hdep 5 (by kernel_rfl) w1 (rb_refl _)
      rw [hu5] at x5
      clear hN hO hdep hdis
      go_simp
      refine hK _ _ (rb_refl _) fun w3 h3 => ?_
      exact ⟨N, T, M, m, rfl, block_below h3 n1, n2, block_below h3 t0, block_below h3 t1, t2, t3, block_below h3 m1, m2, mne⟩
    · intro Fr u s hN hO w1 hR hdep hdis K hK
      rw [if_pos (by rfl)]
      clear hN hO hdep hdis
      go_simp
      refine hK _ _ (rb_refl _) fun w3 h3 => ?_
      exact rfl
    · intro u s w' hR hall _
      obtain ⟨N, T, M, m, e6, n1, n2, t0, t1, t2, t3, m1, m2, mne⟩ := hall 6 (by decide)
      have e7 : u 7 = .int .i64 0 := hall 7 (by decide)
      have bw : Below V8.heap.size V8 w' := bl_trans (bl_drew (Below.refl _ _)) hR
      clear hall
      simp only [frameF, Act.put, List.setIfInBounds_toArray, List.set_cons_zero, List.set_cons_succ, Nat.reduceAdd, e6, e7]
      clear e6 e7
      go_wp2_with fail
      go_ret2
      have z := (HBZ.out).size
      exact ⟨⟨N, rfl, T, M, m, A1, c1, A2, c2, n1, Nat.le_trans z n2, t0, t1, Nat.le_trans z t2, Nat.le_trans z t3, m1, Nat.le_trans z m2, mne, Kd.own_flat Kd.flat_str (Kd.own_below HP2.out bw) (Nat.le_refl _), Kd.own_flat Kd.flat_str (Kd.own_below HP5.out bw) (Nat.le_refl _)⟩, bl_trans HBZ.out bw⟩
end Go.Proofs.YtcbfpdenjdgnlaaGreat
/- Package tree: copied. No claim of its own; no condition. Printed by a program of this session. -/
namespace Go.Proofs.YtcbfpdenjdgnlaaGreat
open Go.ChangeShapes Go.WideShapes Go.ChangeAt Go.RowKit
set_option linter.unusedVariables false
set_option linter.unusedSimpArgs false
def cpA (G : Nat) (b : Block) (v1 v2 : Value) (V : Nat) : Nat → Value → World → Prop
  | 0, y, _ => y = .pointer (some ⟨G, 7, none⟩)
  | 1, y, _ => y = v2
  | 2, y, w => ∃ A c, y = .slice A b.txs.length c ∧ kTx.Own 77 V w V (.slice A b.txs.length c) b.txs
  | 3, y, _ => y = .pointer (some ⟨G, 3, none⟩)
  | 4, y, _ => y = .pointer (some ⟨G, 6, none⟩)
  | 5, y, _ => y = v1
  | 6, y, w => ∃ A c, y = .slice A b.justify.votes.length c ∧ kVote.Own 52 V w V (.slice A b.justify.votes.length c) b.justify.votes
  | 7, y, _ => y = .pointer (some ⟨G, 7, none⟩)
  | _, _, _ => True
set_option maxHeartbeats 3200000 in
set_option maxRecDepth 100000 in
theorem copied_calls (b : Block) (A1 A : Option Addr) (n1 c1 n c B : Nat) (w : World) (hn1 : n1 = b.justify.votes.length) (hn : n = b.txs.length) (hl1 : b.justify.votes.length ≤ 1048576) (hl : b.txs.length ≤ 1048576)
    (hr1 : kVote.Row 52 B w A1 b.justify.votes) (hr : kTx.Row 77 B w A b.txs) :
    Calls Tryz.prog 123 #[.agg (bcs b (.slice A1 n1 c1) (.slice A n c))] w fun x w' => (∃ A1' c1' A' c', x = .returned (.agg (bcs b (.slice A1' b.justify.votes.length c1') (.slice A' b.txs.length c'))) ∧ kVote.Own 52 w.heap.size w' w.heap.size (.slice A1' b.justify.votes.length c1') b.justify.votes ∧ kTx.Own 77 w.heap.size w' w.heap.size (.slice A' b.txs.length c') b.txs) ∧ Below w.heap.size w w' := by
  subst hn1 hn
  have qa := bl_alloc (Below.refl w.heap.size w) (.cells (bcs b (.slice A1 b.justify.votes.length c1) (.slice A b.txs.length c)) 40)
  have q0 := bl_alloc qa (.cells bzC 40)
  have a0 := alloc_old (alloc_new w (.cells (bcs b (.slice A1 b.justify.votes.length c1) (.slice A b.txs.length c)) 40)) (.cells bzC 40)
  have d0 := alloc_new (w.alloc (.cells (bcs b (.slice A1 b.justify.votes.length c1) (.slice A b.txs.length c)) 40)) (.cells bzC 40)
  rw [World.size_alloc] at d0
  have RT := Lib.hid (Kd.row_below q0 hr)
  have RV := Lib.hid (Kd.row_below q0 hr1)
  have FTX := Lib.hid (fun W (hW : kTx.Row 77 B W A b.txs) => clone_kTx b.txs A b.txs.length c W B rfl (by omega) hW)
  have FVO := Lib.hid (fun W (hW : kVote.Row 52 B W A1 b.justify.votes) => clone_kVote b.justify.votes A1 b.justify.votes.length c1 W B rfl (by omega) hW)
  obtain ⟨v1, hv1⟩ : ∃ v, Value.slice A1 b.justify.votes.length c1 = v := ⟨_, rfl⟩
  obtain ⟨v2, hv2⟩ : ∃ v, Value.slice A b.txs.length c = v := ⟨_, rfl⟩
  rw [hv1, hv2] at q0 a0 d0 RT RV ⊢
  rw [hv1] at FVO
  rw [hv2] at FTX
  obtain ⟨G, hG⟩ : ∃ G, w.heap.size = G := ⟨_, rfl⟩
  have leG : w.heap.size ≤ G := by omega
  have leG2 : w.heap.size ≤ G + 1 := by omega
  rw [hG] at a0 d0
  have HQ := Lib.hid q0
  have HGG := Lib.hid hG
  clear qa hv1 hv2 hr hr1 hl hl1 q0
  go_enter Tryz.func123, Tryz.ntmps123
  go_upto_region 1 with fail
  change Code.wp _ _ _ _ ((w.alloc (.cells (bcs b v1 v2) 40)).alloc (.cells bzC 40))
  generalize (w.alloc (.cells (bcs b v1 v2) 40)).alloc (.cells bzC 40) = W at *
  have HG := Lib.hid a0
  have HD := Lib.hid d0
  clear a0 d0 hG
  refine wp_region_any (by kernel_rfl) ?_
  refine wpAny_invtA [true, true, true, true, true, true, true, true, false, false, false, false] [8, 9, 10, 11] (by kernel_rfl) (by kernel_rfl) Rb (cpA G b v1 v2 W.heap.size) rb_refl rb_trans ⟨?_, ?_, ?_, ?_, ?_, ?_, ?_, ?_, trivial⟩ ?_
  · intro Fr u hN hO w1 hR hdep K hK
    rw [if_pos (by rfl)]
    have y1 : Fr.tmps[1]? = some (.pointer (some ⟨G, 0, none⟩)) := hO 1 _ rfl rfl
    clear hN hO hdep
    go_simp
    refine hK _ _ (rb_refl _) fun w3 h3 => ?_
    exact rfl
  · intro Fr u hN hO w1 hR hdep K hK
    rw [if_pos (by rfl)]
    have x0 : Fr.tmps[3]? = some (u 0) := hN 0 _ 3 rfl rfl rfl
    rw [show u 0 = .pointer (some ⟨G, 7, none⟩) from hdep 0 (by kernel_rfl) w1 (rb_refl _)] at x0
    clear hN hO hdep
    obtain ⟨z0, z1, z2, z3, z4, z5, z6, z7, z8⟩ := bcells (block_below hR HG.out)
    go_simp
    refine hK _ _ (rb_refl _) fun w3 h3 => ?_
    exact rfl
  · intro Fr u hN hO w1 hR hdep K hK
    rw [if_pos (by rfl)]
    have x1 : Fr.tmps[4]? = some (u 1) := hN 1 _ 4 rfl rfl rfl
    rw [show u 1 = v2 from hdep 1 (by kernel_rfl) w1 (rb_refl _)] at x1
    clear hN hO hdep
    go_simp
    refine (FTX.out w1 (Kd.row_below hR RT.out)).mono ?_
    rintro x w2 ⟨⟨v, rfl, own, _⟩, b2⟩
    refine hK _ _ b2 fun w3 h3 => ?_
    exact own_open (Kd.own_flat flatTx (Kd.own_below own h3) hR.size)
  · intro Fr u hN hO w1 hR hdep K hK
    rw [if_pos (by rfl)]
    have y1 : Fr.tmps[1]? = some (.pointer (some ⟨G, 0, none⟩)) := hO 1 _ rfl rfl
    clear hN hO hdep
    go_simp
    refine hK _ _ (rb_refl _) fun w3 h3 => ?_
    exact rfl
  · intro Fr u hN hO w1 hR hdep K hK
    rw [if_pos (by rfl)]
    have x3 : Fr.tmps[6]? = some (u 3) := hN 3 _ 6 rfl rfl rfl
    rw [show u 3 = .pointer (some ⟨G, 3, none⟩) from hdep 3 (by kernel_rfl) w1 (rb_refl _)] at x3
    clear hN hO hdep
    go_simp
    refine hK _ _ (rb_refl _) fun w3 h3 => ?_
    exact rfl
  · intro Fr u hN hO w1 hR hdep K hK
    rw [if_pos (by rfl)]
    have x4 : Fr.tmps[7]? = some (u 4) := hN 4 _ 7 rfl rfl rfl
    rw [show u 4 = .pointer (some ⟨G, 6, none⟩) from hdep 4 (by kernel_rfl) w1 (rb_refl _)] at x4
    clear hN hO hdep
    obtain ⟨z0, z1, z2, z3, z4, z5, z6, z7, z8⟩ := bcells (block_below hR HG.out)
    go_simp
    refine hK _ _ (rb_refl _) fun w3 h3 => ?_
    exact rfl
  · intro Fr u hN hO w1 hR hdep K hK
    rw [if_pos (by rfl)]
    have x5 : Fr.tmps[8]? = some (u 5) := hN 5 _ 8 rfl rfl rfl
    rw [show u 5 = v1 from hdep 5 (by kernel_rfl) w1 (rb_refl _)] at x5
    clear hN hO hdep
    go_simp
    refine (FVO.out w1 (Kd.row_below hR RV.out)).mono ?_
    rintro x w2 ⟨⟨v, rfl, own, _⟩, b2⟩
    refine hK _ _ b2 fun w3 h3 => ?_
    exact own_open (Kd.own_flat flatVote (Kd.own_below own h3) hR.size)
  · intro Fr u hN hO w1 hR hdep K hK
    rw [if_pos (by rfl)]
    have y1 : Fr.tmps[1]? = some (.pointer (some ⟨G, 0, none⟩)) := hO 1 _ rfl rfl
    clear hN hO hdep
    go_simp
    refine hK _ _ (rb_refl _) fun w3 h3 => ?_
    exact rfl
  · intro u w1 hR hall
    obtain ⟨A2, c2, e2, o2⟩ := hall 2 rfl
    obtain ⟨A6, c6, e6, o6⟩ := hall 6 rfl
    have e7 : u 7 = .pointer (some ⟨G, 7, none⟩) := hall 7 rfl
    have bw : Below W.heap.size W w1 := bl_trans (bl_drew (Below.refl _ _)) hR
    have gg := block_below bw HG.out
    have gr := block_below bw HD.out
    obtain ⟨z0, z1, z2, z3, z4, z5, z6, z7, z8⟩ := bcells gg
    have F6 : w1.frozen? ⟨G, 6, none⟩ = false := block_free gg
    have F7 : w1.frozen? ⟨G, 7, none⟩ = false := block_free gg
    change wpList _ _ _ ([_, _, _, _]) _ _
    simp only [frameM, frameM_nil, Act.put, List.setIfInBounds_toArray, List.set_cons_zero, List.set_cons_succ, Nat.reduceAdd, e2, e6, e7]
    clear hall e2 e6 e7 z0 z1 z2 z3 z4 z5 z8
    go_upto_region 2 with fail
    have s1 := block_set (i := 7) (u := .slice A2 b.txs.length c2) gg
    have s2 := block_set (i := 6) (u := .slice A6 b.justify.votes.length c6) s1
    have ne : G + 1 ≠ G := by omega
    have kk : ∀ E, 40 ∉ E → Keeps G E w1 ((w1.setCell ⟨G, 7, none⟩ (.slice A2 b.txs.length c2)).setCell ⟨G, 6, none⟩ (.slice A6 b.justify.votes.length c6)) := fun E hE => (Keeps.set (p := ⟨G, 7, none⟩) gg (Nat.le_refl _) hE _).trans (Keeps.set (p := ⟨G, 6, none⟩) s1 (Nat.le_refl _) hE _)
    have bz : Below w.heap.size w ((w1.setCell ⟨G, 7, none⟩ (.slice A2 b.txs.length c2)).setCell ⟨G, 6, none⟩ (.slice A6 b.justify.votes.length c6)) := ((bl_trans HQ.out bw).setCell (p := ⟨G, 7, none⟩) leG _).setCell (p := ⟨G, 6, none⟩) leG _
    have r1 : ((w1.setCell ⟨G, 7, none⟩ (.slice A2 b.txs.length c2)).setCell ⟨G, 6, none⟩ (.slice A6 b.justify.votes.length c6)).heap[G + 1]? = some (.cells bzC 40 (0, 0)) := block_far (block_far gr ne) ne
    have leW : w.heap.size ≤ W.heap.size := HQ.out.size
    have p2 := Kd.own_flat (B' := w.heap.size) flatTx (Kd.own_keep (Kd.own_flat (B' := G) flatTx o2 leW) (kk _ (by decide))) (Nat.le_refl _)
    have p6 := Kd.own_flat (B' := w.heap.size) flatVote (Kd.own_keep (Kd.own_flat (B' := G) flatVote o6 leW) (kk _ (by decide))) (Nat.le_refl _)
    have r0 : ((w1.setCell ⟨G, 7, none⟩ (.slice A2 b.txs.length c2)).setCell ⟨G, 6, none⟩ (.slice A6 b.justify.votes.length c6)).heap[G]? = some (.cells (bcs b (.slice A6 b.justify.votes.length c6) (.slice A2 b.txs.length c2)) 40 (0, 0)) := s2
    clear kk s1 s2 gg gr z6 z7 F6 F7 o2 o6 hR bw HG HD RT RV FTX FVO
    generalize (w1.setCell ⟨G, 7, none⟩ (.slice A2 b.txs.length c2)).setCell ⟨G, 6, none⟩ (.slice A6 b.justify.votes.length c6) = V8 at *
    go_wp2_with first
      | (refine wpList_load_row rfl 40 (.tmp 1) rfl G rfl 40 _ (0, 0) _ r0 Tryz.underlying40 rfl size40 ?_)
      | (refine wpList_store_rowOf rfl 40 (.tmp 2) (.tmp 13) rfl (G + 1) rfl rfl 40 _ r1 size40 rfl (by kernel_rfl) ?_)
    refine bodyPost_ret (results_cell_row rfl _ _ (G + 1) 40 _ (0, 0) _ rfl (setRow_same r1) Tryz.underlying40 rfl size40) rfl ?_
    refine ⟨⟨A6, c6, A2, c2, rfl, ?_, ?_⟩, bl_setRow bz leG2⟩
    · exact Kd.own_flat flatVote (Kd.own_keep p6 (keeps_setRow r1 leG2 (by decide))) (Nat.le_refl _)
    · exact Kd.own_flat flatTx (Kd.own_keep p2 (keeps_setRow r1 leG2 (by decide))) (Nat.le_refl _)
end Go.Proofs.YtcbfpdenjdgnlaaGreat
