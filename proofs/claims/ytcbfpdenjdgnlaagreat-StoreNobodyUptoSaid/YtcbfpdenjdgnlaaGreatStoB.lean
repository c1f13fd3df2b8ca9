/- Package store: New. No claim of its own; no condition. -/
import Derived.Test.YtcbfpdenjdgnlaaGreatLrnB
import Derived.Test.YtcbfpdenjdgnlaaGreatDskA
namespace Go.Proofs.YtcbfpdenjdgnlaaGreat
open Go.ChangeShapes Go.WideShapes Go.ChangeAt Go.RowKit
set_option linter.unusedVariables false
set_option linter.unusedSimpArgs false
theorem lrn_below {B N : Nat} {w w' : World} {roots clients : List ByteArray} {q base cap rk rn : Int} (h : LrnNew B w N roots clients q base cap rk rn) (k : Below w.heap.size w w') : LrnNew B w' N roots clients q base cap rk rn := by
  obtain ⟨T, M, m, A1, c1, A2, c2, h1, h2, h3, h4, h5, h6, h7, h8, h9, h10⟩ := h
  exact ⟨T, M, m, A1, c1, A2, c2, block_below k h1, h2, block_below k h3, block_below k h4, h5, h6, block_below k h7, h8, Kd.own_below h9 k, Kd.own_below h10 k⟩
theorem lrn_set {B N G i : Nat} {w : World} {roots clients : List ByteArray} {q base cap rk rn : Int} {cs : Array Value} {t : TypeId} {u : Value} (h : LrnNew B w N roots clients q base cap rk rn) (hg : w.heap[G]? = some (.cells cs t (0, 0))) (hB : G < B) (ht : t ∉ [9]) :
    LrnNew B (w.setCell ⟨G, i, none⟩ u) N roots clients q base cap rk rn := by
  obtain ⟨T, M, m, A1, c1, A2, c2, h1, h2, h3, h4, h5, h6, h7, h8, h9, h10⟩ := h
  have kk : Keeps 0 [9] w (w.setCell ⟨G, i, none⟩ u) := Keeps.set (p := ⟨G, i, none⟩) hg (Nat.zero_le _) ht _
  exact ⟨T, M, m, A1, c1, A2, c2, block_far h1 (by omega), h2, block_far h3 (by omega), block_far h4 (by omega), h5, h6, block_far h7 (by omega), h8,
    Kd.own_flat Kd.flat_str (Kd.own_keep (Kd.own_flat (B' := 0) Kd.flat_str h9 (Nat.le_refl _)) (by simpa [Kd.str] using kk)) (Nat.le_refl _), Kd.own_flat Kd.flat_str (Kd.own_keep (Kd.own_flat (B' := 0) Kd.flat_str h10 (Nat.le_refl _)) (by simpa [Kd.str] using kk)) (Nat.le_refl _)⟩
theorem lrn_mono {B B' N : Nat} {w : World} {roots clients : List ByteArray} {q base cap rk rn : Int} (h : LrnNew B w N roots clients q base cap rk rn) (hB : B' ≤ B) : LrnNew B' w N roots clients q base cap rk rn := by
  obtain ⟨T, M, m, A1, c1, A2, c2, h1, h2, h3, h4, h5, h6, h7, h8, h9, h10⟩ := h
  exact ⟨T, M, m, A1, c1, A2, c2, h1, by omega, h3, h4, by omega, by omega, h7, by omega, Kd.own_flat Kd.flat_str h9 hB, Kd.own_flat Kd.flat_str h10 hB⟩
/-- A store that is new, at S. -/
def StoNew (B : Nat) (w : World) (S : Nat) (roots clients : List ByteArray) (q base cap rk rn room : Int) : Prop :=
  ∃ L D A1 c1 A2 c2, w.heap[S]? = some (.cells #[.slice A1 roots.length c1, .slice A2 clients.length c2, .int .i64 q, .int .i64 base, .int .i64 cap, .int .i64 rk, .int .i64 rn, .pointer (some ⟨L, 0, none⟩), .pointer (some ⟨D, 0, none⟩), .bool false] 88 (0, 0)) ∧ B ≤ S ∧ LrnNew B w L roots clients q base cap rk rn ∧ w.heap[D]? = some (.cells #[.slice none 0 0, .int .i64 0, .int .i64 room, .bool true] 220 (0, 0)) ∧ B ≤ D ∧
    Kd.str.Own 9 B w B (.slice A1 roots.length c1) roots ∧ Kd.str.Own 9 B w B (.slice A2 clients.length c2) clients
def snA (G : Nat) (Ar Ac : Option Addr) (roots clients : List ByteArray) (cr cc V : Nat) : Nat → Value → World → Prop
  | 0, y, _ => y = .pointer (some ⟨G, 0, none⟩)
  | 1, y, _ => y = .slice Ar roots.length cr
  | 2, y, w => ∃ A c, y = .slice A roots.length c ∧ Kd.str.Own 9 V w V (.slice A roots.length c) roots
  | 3, y, _ => y = .pointer (some ⟨G, 1, none⟩)
  | 4, y, _ => y = .slice Ac clients.length cc
  | 5, y, w => ∃ A c, y = .slice A clients.length c ∧ Kd.str.Own 9 V w V (.slice A clients.length c) clients
  | 6, y, _ => y = .pointer (some ⟨G, 0, none⟩)
  | _, _, _ => True
def snB (G G2 L : Nat) (A1 A2 : Option Addr) (roots clients : List ByteArray) (c1 c2 : Nat) (q base cap rk rn room : Int) (V : Nat) : Nat → Value → World → Prop
  | 0, y, _ => y = .agg #[.slice A1 roots.length c1, .slice A2 clients.length c2, .int .i64 q, .int .i64 base, .int .i64 cap]
  | 1, y, _ => y = .agg #[.int .i64 rk, .int .i64 rn]
  | 2, y, _ => y = .pointer (some ⟨L, 0, none⟩)
  | 3, y, _ => y = .int .i64 room
  | 4, y, w => ∃ D, y = .pointer (some ⟨D, 0, none⟩) ∧ w.heap[D]? = some (.cells #[.slice none 0 0, .int .i64 0, .int .i64 room, .bool true] 220 (0, 0)) ∧ V ≤ D
  | 5, y, w => ∃ D, y = .agg #[.slice A1 roots.length c1, .slice A2 clients.length c2, .int .i64 q, .int .i64 base, .int .i64 cap, .int .i64 rk, .int .i64 rn, .pointer (some ⟨L, 0, none⟩), .pointer (some ⟨D, 0, none⟩), .bool false] ∧ w.heap[D]? = some (.cells #[.slice none 0 0, .int .i64 0, .int .i64 room, .bool true] 220 (0, 0)) ∧ V ≤ D
  | 6, y, w => ∃ S D, y = .pointer (some ⟨S, 0, none⟩) ∧ w.heap[S]? = some (.cells #[.slice A1 roots.length c1, .slice A2 clients.length c2, .int .i64 q, .int .i64 base, .int .i64 cap, .int .i64 rk, .int .i64 rn, .pointer (some ⟨L, 0, none⟩), .pointer (some ⟨D, 0, none⟩), .bool false] 88 (0, 0)) ∧ V ≤ S ∧ w.heap[D]? = some (.cells #[.slice none 0 0, .int .i64 0, .int .i64 room, .bool true] 220 (0, 0)) ∧ V ≤ D
  | 7, y, w => ∃ S D, y = .pointer (some ⟨S, 0, none⟩) ∧ w.heap[S]? = some (.cells #[.slice A1 roots.length c1, .slice A2 clients.length c2, .int .i64 q, .int .i64 base, .int .i64 cap, .int .i64 rk, .int .i64 rn, .pointer (some ⟨L, 0, none⟩), .pointer (some ⟨D, 0, none⟩), .bool false] 88 (0, 0)) ∧ V ≤ S ∧ w.heap[D]? = some (.cells #[.slice none 0 0, .int .i64 0, .int .i64 room, .bool true] 220 (0, 0)) ∧ V ≤ D
  | 8, y, _ => y = .int .i64 0
  | _, _, _ => True
set_option maxHeartbeats 16000000 in
set_option maxRecDepth 100000 in
theorem snew_ok (roots clients : List ByteArray) (Ar Ac : Option Addr) (cr cc : Nat) (q base cap rk rn room : Int) (w : World) (B : Nat) (hrr : Kd.str.Row 9 B w Ar roots) (hrc : Kd.str.Row 9 B w Ac clients)
    (h1 : 1 ≤ roots.length) (h7 : roots.length ≤ 7) (hq1 : 1 ≤ q) (hq2 : q ≤ (roots.length : Int)) (hcl : clients.length ≤ 2097152) (hck : chkF (rk, rn) roots.length q = 0) (hroom : 0 ≤ room ∧ room ≤ 262144) :
    Calls Tryz.prog 36 #[.agg #[.slice Ar roots.length cr, .slice Ac clients.length cc, .int .i64 q, .int .i64 base, .int .i64 cap], .agg #[.int .i64 rk, .int .i64 rn], .int .i64 room] w fun x w' => (∃ S, x = .returned (.tuple #[.pointer (some ⟨S, 0, none⟩), .int .i64 0]) ∧ StoNew w.heap.size w' S roots clients q base cap rk rn room) ∧ Below w.heap.size w w' := by
  have q0 := bl_alloc (bl_alloc (Below.refl w.heap.size w) (.cells #[.slice Ar roots.length cr, .slice Ac clients.length cc, .int .i64 q, .int .i64 base, .int .i64 cap] 24)) (.cells #[.int .i64 rk, .int .i64 rn] 26)
  have a0 := alloc_old (alloc_new w (.cells #[.slice Ar roots.length cr, .slice Ac clients.length cc, .int .i64 q, .int .i64 base, .int .i64 cap] 24)) (.cells #[.int .i64 rk, .int .i64 rn] 26)
  have a1 : ((w.alloc (.cells #[.slice Ar roots.length cr, .slice Ac clients.length cc, .int .i64 q, .int .i64 base, .int .i64 cap] 24)).alloc (.cells #[.int .i64 rk, .int .i64 rn] 26)).heap[w.heap.size + 1]? = some (.cells #[.int .i64 rk, .int .i64 rn] 26 (0, 0)) := by
    have := alloc_new (w.alloc (.cells #[.slice Ar roots.length cr, .slice Ac clients.length cc, .int .i64 q, .int .i64 base, .int .i64 cap] 24)) (.cells #[.int .i64 rk, .int .i64 rn] 26)
    rwa [World.size_alloc] at this
  have hrr0 := Kd.row_below q0 hrr
  have hrc0 := Kd.row_below q0 hrc
  have hln := lnew_ok roots clients Ar Ac cr cc q base cap rk rn ((w.alloc (.cells #[.slice Ar roots.length cr, .slice Ac clients.length cc, .int .i64 q, .int .i64 base, .int .i64 cap] 24)).alloc (.cells #[.int .i64 rk, .int .i64 rn] 26)) B hrr0 hrc0 h1 h7 hq1 hq2 hcl hck
  have HLN := Lib.hid hln
  have HRL := Lib.hid (show roots.length ≤ 2097152 by omega)
  have HCLN := Lib.hid hcl
  have HROOM := Lib.hid hroom
  clear hrr hrc hcl hck h1 h7 hq1 hq2 hln hroom
  go_enter Tryz.func36, Tryz.ntmps36
  go_upto_region 1 with fail
  change Code.wp _ _ _ _ ((w.alloc (.cells #[.slice Ar roots.length cr, .slice Ac clients.length cc, .int .i64 q, .int .i64 base, .int .i64 cap] 24)).alloc (.cells #[.int .i64 rk, .int .i64 rn] 26))
  obtain ⟨G, hG⟩ : ∃ G, w.heap.size = G := ⟨_, rfl⟩
  obtain ⟨G2, hG2⟩ : ∃ G2, w.heap.size + 1 = G2 := ⟨_, rfl⟩
  have leG : w.heap.size ≤ G := by omega
  have neG : G2 ≠ G := by omega
  generalize (w.alloc (.cells #[.slice Ar roots.length cr, .slice Ac clients.length cc, .int .i64 q, .int .i64 base, .int .i64 cap] 24)).alloc (.cells #[.int .i64 rk, .int .i64 rn] 26) = V0 at *
  simp only [hG2] at a1 ⊢
  simp only [hG] at a0 ⊢
  have hGV := blk_lt a0
  clear hG hG2
  have c0 := block_cell a0 (i := 0) rfl
  have c1 := block_cell a0 (i := 1) rfl
  have c2 := block_cell a0 (i := 2) rfl
  have c3 := block_cell a0 (i := 3) rfl
  have c4 := block_cell a0 (i := 4) rfl
  have e0 := block_cell a1 (i := 0) rfl
  have e1 := block_cell a1 (i := 1) rfl
  have A0 := Lib.hid a0
  have AA1 := Lib.hid a1
  have HRR0 := Lib.hid hrr0
  have HRC0 := Lib.hid hrc0
  have Q0 := Lib.hid q0
  clear a0 a1 hrr0 hrc0 q0
  go_upto_region 4 with (go_at_call 23; refine Calls.mono (HLN.out) ?_; rintro x V1 ⟨⟨L, rfl, ln1⟩, b1⟩)
  have HG := Lib.hid (block_below b1 A0.out)
  have HG2 := Lib.hid (block_below b1 AA1.out)
  have HRR := Lib.hid (Kd.row_below b1 HRR0.out)
  have HRC := Lib.hid (Kd.row_below b1 HRC0.out)
  have Q1 := Lib.hid (bl_trans Q0.out b1)
  have LN1 := Lib.hid ln1
  have leV := (Q0.out).size
  clear c0 c1 c2 c3 c4 e0 e1 A0 AA1 HRR0 HRC0 Q0 b1 ln1
  refine wp_region_any (by kernel_rfl) ?_
  refine wpAny_invtA [true, true, true, true, true, true, true, false, false, false] [7, 8, 9] (by kernel_rfl) (by kernel_rfl) Rb (snA G Ar Ac roots clients cr cc V1.heap.size) rb_refl rb_trans ⟨?_, ?_, ?_, ?_, ?_, ?_, ?_, trivial⟩ ?_
  · intro Fr u hN hO w1 hR hdep K hK
    rw [if_pos (by rfl)]
    have y3 : Fr.tmps[3]? = some (.pointer (some ⟨G, 0, none⟩)) := hO 3 _ rfl rfl
    clear hN hO hdep
    go_simp
    refine hK _ _ (rb_refl _) fun w3 h3 => ?_
    exact rfl
  · intro Fr u hN hO w1 hR hdep K hK
    rw [if_pos (by rfl)]
    have x0 : Fr.tmps[19]? = some (u 0) := hN 0 _ 19 rfl rfl rfl
    rw [show u 0 = .pointer (some ⟨G, 0, none⟩) from hdep 0 (by kernel_rfl) w1 (rb_refl _)] at x0
    clear hN hO hdep
    have gg := block_below hR HG.out
    have z0 := block_cell gg (i := 0) rfl
    have z1 := block_cell gg (i := 1) rfl
    have z2 := block_cell gg (i := 2) rfl
    have z3 := block_cell gg (i := 3) rfl
    have z4 := block_cell gg (i := 4) rfl
    go_simp
    refine hK _ _ (rb_refl _) fun w3 h3 => ?_
    exact rfl
  · intro Fr u hN hO w1 hR hdep K hK
    rw [if_pos (by rfl)]
    have x1 : Fr.tmps[20]? = some (u 1) := hN 1 _ 20 rfl rfl rfl
    rw [show u 1 = .slice Ar roots.length cr from hdep 1 (by kernel_rfl) w1 (rb_refl _)] at x1
    clear hN hO hdep
    go_simp
    refine (clones_calls roots Ar roots.length cr w1 B rfl HRL.out (Kd.row_below hR HRR.out)).mono ?_
    rintro x w2 ⟨⟨v, rfl, own, _⟩, b2⟩
    refine hK _ _ b2 fun w3 h3 => ?_
    exact own_open (Kd.own_flat Kd.flat_str (Kd.own_below own h3) hR.size)
  · intro Fr u hN hO w1 hR hdep K hK
    rw [if_pos (by rfl)]
    have y3 : Fr.tmps[3]? = some (.pointer (some ⟨G, 0, none⟩)) := hO 3 _ rfl rfl
    clear hN hO hdep
    go_simp
    refine hK _ _ (rb_refl _) fun w3 h3 => ?_
    exact rfl
  · intro Fr u hN hO w1 hR hdep K hK
    rw [if_pos (by rfl)]
    have x3 : Fr.tmps[22]? = some (u 3) := hN 3 _ 22 rfl rfl rfl
    rw [show u 3 = .pointer (some ⟨G, 1, none⟩) from hdep 3 (by kernel_rfl) w1 (rb_refl _)] at x3
    clear hN hO hdep
    have gg := block_below hR HG.out
    have z0 := block_cell gg (i := 0) rfl
    have z1 := block_cell gg (i := 1) rfl
    have z2 := block_cell gg (i := 2) rfl
    have z3 := block_cell gg (i := 3) rfl
    have z4 := block_cell gg (i := 4) rfl
    go_simp
    refine hK _ _ (rb_refl _) fun w3 h3 => ?_
    exact rfl
  · intro Fr u hN hO w1 hR hdep K hK
    rw [if_pos (by rfl)]
    have x4 : Fr.tmps[23]? = some (u 4) := hN 4 _ 23 rfl rfl rfl
    rw [show u 4 = .slice Ac clients.length cc from hdep 4 (by kernel_rfl) w1 (rb_refl _)] at x4
    clear hN hO hdep
    go_simp
    refine (clones_calls clients Ac clients.length cc w1 B rfl HCLN.out (Kd.row_below hR HRC.out)).mono ?_
    rintro x w2 ⟨⟨v, rfl, own, _⟩, b2⟩
    refine hK _ _ b2 fun w3 h3 => ?_
    exact own_open (Kd.own_flat Kd.flat_str (Kd.own_below own h3) hR.size)
  · intro Fr u hN hO w1 hR hdep K hK
    rw [if_pos (by rfl)]
    have y3 : Fr.tmps[3]? = some (.pointer (some ⟨G, 0, none⟩)) := hO 3 _ rfl rfl
    clear hN hO hdep
    go_simp
    refine hK _ _ (rb_refl _) fun w3 h3 => ?_
    exact rfl
  · intro u w1 hR hall
    obtain ⟨A1, c1, e2, o2⟩ := hall 2 rfl
    obtain ⟨A2, c2, e5, o5⟩ := hall 5 rfl
    have e6 : u 6 = .pointer (some ⟨G, 0, none⟩) := hall 6 rfl
    have bw : Below V1.heap.size V1 w1 := bl_trans (bl_drew (Below.refl _ _)) hR
    have gg := block_below bw HG.out
    have gr := block_below bw HG2.out
    have Y0 := block_cell gg (i := 0) rfl
    have Y1 := block_cell gg (i := 1) rfl
    have Z0 : w1.frozen? ⟨G, 0, none⟩ = false := block_free gg
    have Z1 : w1.frozen? ⟨G, 1, none⟩ = false := block_free gg
    change wpList _ _ _ ([_, _, _]) _ _
    simp only [frameM, frameM_nil, Act.put, List.setIfInBounds_toArray, List.set_cons_zero, List.set_cons_succ, Nat.reduceAdd, e2, e5, e6]
    clear hall e2 e5 e6
    go_upto_region 5 with fail
    have s1 := block_set (i := 0) (u := .slice A1 roots.length c1) gg
    have s2 := block_set (i := 1) (u := .slice A2 clients.length c2) s1
    have r0 : ((w1.setCell ⟨G, 0, none⟩ (.slice A1 roots.length c1)).setCell ⟨G, 1, none⟩ (.slice A2 clients.length c2)).heap[G]? = some (.cells #[.slice A1 roots.length c1, .slice A2 clients.length c2, .int .i64 q, .int .i64 base, .int .i64 cap] 24 (0, 0)) := by simpa using s2
    have r1 : ((w1.setCell ⟨G, 0, none⟩ (.slice A1 roots.length c1)).setCell ⟨G, 1, none⟩ (.slice A2 clients.length c2)).heap[G2]? = some (.cells #[.int .i64 rk, .int .i64 rn] 26 (0, 0)) := block_far (block_far gr neG) neG
    have kk : ∀ E, 24 ∉ E → Keeps G E w1 ((w1.setCell ⟨G, 0, none⟩ (.slice A1 roots.length c1)).setCell ⟨G, 1, none⟩ (.slice A2 clients.length c2)) := fun E hE => (Keeps.set (p := ⟨G, 0, none⟩) gg (Nat.le_refl _) hE _).trans (Keeps.set (p := ⟨G, 1, none⟩) s1 (Nat.le_refl _) hE _)
    have bz : Below w.heap.size w ((w1.setCell ⟨G, 0, none⟩ (.slice A1 roots.length c1)).setCell ⟨G, 1, none⟩ (.slice A2 clients.length c2)) := ((bl_trans Q1.out bw).setCell (p := ⟨G, 0, none⟩) leG _).setCell (p := ⟨G, 1, none⟩) leG _
    have p2 := Kd.own_keep (Kd.own_flat (B' := G) Kd.flat_str o2 (show w.heap.size ≤ _ from Q1.out.size)) (kk _ (by simp [Kd.str]))
    have p5 := Kd.own_keep (Kd.own_flat (B' := G) Kd.flat_str o5 (show w.heap.size ≤ _ from Q1.out.size)) (kk _ (by simp [Kd.str]))
    have ln2 := lrn_set (i := 1) (u := .slice A2 clients.length c2) (lrn_set (i := 0) (u := .slice A1 roots.length c1) (lrn_below LN1.out bw) gg hGV (by decide)) s1 hGV (by decide)
    clear kk s1 s2 gg gr Y0 Y1 Z0 Z1 o2 o5 hR bw HG HG2 HRR HRC Q1 LN1
    generalize (w1.setCell ⟨G, 0, none⟩ (.slice A1 roots.length c1)).setCell ⟨G, 1, none⟩ (.slice A2 clients.length c2) = V8 at *
    have HG := Lib.hid r0
    have HG2 := Lib.hid r1
    have HP2 := Lib.hid p2
    have HP5 := Lib.hid p5
    have HBZ := Lib.hid bz
    have LN2 := Lib.hid ln2
    clear r0 r1 p2 p5 bz ln2
    refine wp_region_invA (by kernel_rfl) (by kernel_rfl) Rb (snB G G2 L A1 A2 roots clients c1 c2 q base cap rk rn room V8.heap.size) rb_refl rb_trans ⟨?_, ?_, ?_, ?_, ?_, ?_, ?_, ?_, ?_, trivial⟩ ?_
    · intro Fr u hN hO w1 hR hdep K hK
      rw [if_pos (by rfl)]
      have y3 : Fr.tmps[3]? = some (.pointer (some ⟨G, 0, none⟩)) := hO 3 _ rfl rfl
      clear hN hO hdep
      have gg := block_below hR HG.out
      have z0 := block_cell gg (i := 0) rfl
      have z1 := block_cell gg (i := 1) rfl
      have z2 := block_cell gg (i := 2) rfl
      have z3 := block_cell gg (i := 3) rfl
      have z4 := block_cell gg (i := 4) rfl
      go_simp
      refine hK _ _ (rb_refl _) fun w3 h3 => ?_
      exact rfl
    · intro Fr u hN hO w1 hR hdep K hK
      rw [if_pos (by rfl)]
      have y4 : Fr.tmps[4]? = some (.pointer (some ⟨G2, 0, none⟩)) := hO 4 _ rfl rfl
      clear hN hO hdep
      have gg := block_below hR HG2.out
      have z0 := block_cell gg (i := 0) rfl
      have z1 := block_cell gg (i := 1) rfl
      go_simp
      refine hK _ _ (rb_refl _) fun w3 h3 => ?_
      exact rfl
    · intro Fr u hN hO w1 hR hdep K hK
      rw [if_pos (by rfl)]
      have y8 : Fr.tmps[8]? = some (.pointer (some ⟨L, 0, none⟩)) := hO 8 _ rfl rfl
      clear hN hO hdep
      go_simp
      refine hK _ _ (rb_refl _) fun w3 h3 => ?_
      exact rfl
    · intro Fr u hN hO w1 hR hdep K hK
      rw [if_pos (by rfl)]
      have y2 : Fr.tmps[2]? = some (.int .i64 room) := hO 2 _ rfl rfl
      clear hN hO hdep
      go_simp
      refine hK _ _ (rb_refl _) fun w3 h3 => ?_
      exact rfl
    · intro Fr u hN hO w1 hR hdep K hK
      rw [if_pos (by rfl)]
      have x3 : Fr.tmps[30]? = some (u 3) := hN 3 _ 30 rfl rfl rfl
      rw [show u 3 = .int .i64 room from hdep 3 (by kernel_rfl) w1 (rb_refl _)] at x3
      clear hN hO hdep
      go_simp
      refine (disk_new room HROOM.out w1).mono ?_
      rintro x w2 ⟨⟨D, rfl, d1, d2⟩, b2⟩
      refine hK _ _ b2 fun w3 h3 => ?_
      exact ⟨D, rfl, block_below h3 d1, Nat.le_trans hR.size d2⟩
    · intro Fr u hN hO w1 hR hdep K hK
      rw [if_pos (by rfl)]
      have x0 : Fr.tmps[27]? = some (u 0) := hN 0 _ 27 rfl rfl rfl
      rw [show u 0 = .agg #[.slice A1 roots.length c1, .slice A2 clients.length c2, .int .i64 q, .int .i64 base, .int .i64 cap] from hdep 0 (by kernel_rfl) w1 (rb_refl _)] at x0
      have x1 : Fr.tmps[28]? = some (u 1) := hN 1 _ 28 rfl rfl rfl
      rw [show u 1 = .agg #[.int .i64 rk, .int .i64 rn] from hdep 1 (by kernel_rfl) w1 (rb_refl _)] at x1
      have x2 : Fr.tmps[29]? = some (u 2) := hN 2 _ 29 rfl rfl rfl
      rw [show u 2 = .pointer (some ⟨L, 0, none⟩) from hdep 2 (by kernel_rfl) w1 (rb_refl _)] at x2
      have x4 : Fr.tmps[31]? = some (u 4) := hN 4 _ 31 rfl rfl rfl
      obtain ⟨D, hu4, d1, d2⟩ := hdep 4 (by kernel_rfl) w1 (rb_refl _)
      rw [hu4] at x4
      clear hN hO hdep
      go_simp
      refine hK _ _ (rb_refl _) fun w3 h3 => ?_
      exact ⟨D, rfl, block_below h3 d1, d2⟩
    · intro Fr u hN hO w1 hR hdep K hK
      rw [if_pos (by rfl)]
      have x5 : Fr.tmps[32]? = some (u 5) := hN 5 _ 32 rfl rfl rfl
      obtain ⟨D, hu5, d1, d2⟩ := hdep 5 (by kernel_rfl) w1 (rb_refl _)
      rw [hu5] at x5
      clear hN hO hdep
      go_simp
      refine hK _ _ (bl_alloc (Below.refl _ _) _) fun w3 h3 => ?_
      exact ⟨w1.heap.size, D, rfl, block_below h3 (alloc_new w1 _), hR.size, block_below h3 (alloc_old d1 _), d2⟩
    · intro Fr u hN hO w1 hR hdep K hK
      rw [if_pos (by rfl)]
      have x6 : Fr.tmps[33]? = some (u 6) := hN 6 _ 33 rfl rfl rfl
      obtain ⟨S, D, hu6, s1, s2, d1, d2⟩ := hdep 6 (by kernel_rfl) w1 (rb_refl _)
      rw [hu6] at x6
      clear hN hO hdep
      go_simp
      refine hK _ _ (rb_refl _) fun w3 h3 => ?_
      exact ⟨S, D, rfl, block_below h3 s1, s2, block_below h3 d1, d2⟩
    · intro Fr u hN hO w1 hR hdep K hK
      rw [if_pos (by rfl)]
      clear hN hO hdep
      go_simp
      refine hK _ _ (rb_refl _) fun w3 h3 => ?_
      exact rfl
    · intro u w' hR hall
      obtain ⟨S, D, e7, s1, s2, d1, d2⟩ := hall 7 (by decide)
      have e8 : u 8 = .int .i64 0 := hall 8 (by decide)
      have bw : Below V8.heap.size V8 w' := bl_trans (bl_drew (Below.refl _ _)) hR
      clear hall
      simp only [frameF, Act.put, List.setIfInBounds_toArray, List.set_cons_zero, List.set_cons_succ, Nat.reduceAdd, e7, e8]
      clear e7 e8
      go_wp2_with fail
      go_ret2
      have z := (HBZ.out).size
      exact ⟨⟨S, rfl, L, D, A1, c1, A2, c2, s1, Nat.le_trans z s2, lrn_mono (lrn_below LN2.out bw) leV, d1, Nat.le_trans z d2, Kd.own_flat Kd.flat_str (Kd.own_below HP2.out bw) (Nat.le_refl _), Kd.own_flat Kd.flat_str (Kd.own_below HP5.out bw) (Nat.le_refl _)⟩, bl_trans HBZ.out bw⟩
end Go.Proofs.YtcbfpdenjdgnlaaGreat
