/- Package sha: a state behind a block. No claim of its own; no condition. -/
import Derived.Test.YtcbfpdenjdgnlaaGreatQt05
import Derived.Test.YtcbfpdenjdgnlaaGreatQt04
import Derived.Deep.RegionHeld3
import Derived.OwnWalk
namespace Go.Proofs.YtcbfpdenjdgnlaaGreat
open Go.ChangeShapes Go.WideShapes Go.ChangeAt Go.RowKit
set_option linter.unusedVariables false
set_option linter.unusedSimpArgs false
section
variable {P : Program}
theorem wpList_store_new {ops : Array Oper} {rest : List Oper} {o : Oper} {a : Act} {w : World} {Q : Exit → Act → World → Prop} (c : Array Value) (t : TypeId) (N : Nat) (hN : w.heap.size = N) (hgd : o.guard = none) (ty : TypeId) (x y : Operand) (ho : o.op = .store ty x y)
    (hx : a.eval x = .pointer (some ⟨N, 0, none⟩)) (cs' : Array Value) (hy : a.eval y = .agg cs')
    (hi : (P.info? ty).map (·.size) = some cs'.size) (hs : c.size = cs'.size) (h1 : cs'.all (·.oneCell') = true)
    (h : wpList P ops Q rest (a.put o.dst undef) (w.alloc (.cells cs' t))) : wpList P ops Q (o :: rest) a (w.alloc (.cells c t)) :=
  wpList_store_row hgd ty x y ho N hx cs' hy t c (by rw [← hN]; exact alloc_new w _) hi hs h1 (by rw [← hN, World.setRow_alloc_new]; exact h)
end
theorem setRow_far {w : World} {g k : Nat} {cs' : Array Value} (h : k ≠ g) : (w.setRow g cs').heap[k]? = w.heap[k]? := by
  show (w.heap.modify g _)[k]? = _
  rw [Array.getElem?_modify, if_neg (fun e => h e.symm)]
theorem WB.row_same {W : World} {N : Nat} {T : TypeId} {l : List UInt32} (h : WB W N T l) (l' : List UInt32) : WB (W.setRow N (wcs l')) N T l' := setRow_same h
theorem WB.row_far {W : World} {N k : Nat} {T : TypeId} {l : List UInt32} {cs : Array Value} (h : WB W k T l) (hne : k ≠ N) : WB (W.setRow N cs) k T l := (setRow_far hne).trans h
theorem bm_drewN {M : Nat} {a w : World} (h : Below M a w) (n : Nat) : Below M a (w.drewN n) := ⟨h.os, h.tape, h.output, h.size, h.block⟩
def S1 (e : UInt32) : UInt32 := rotr e 6 ^^^ rotr e 11 ^^^ rotr e 25
def S0 (a : UInt32) : UInt32 := rotr a 2 ^^^ rotr a 13 ^^^ rotr a 22
def T1 (e f g h k w : UInt32) : UInt32 := h + S1 e + ((e &&& f) ^^^ (~~~e &&& g)) + k + w
def T2 (a b c : UInt32) : UInt32 := S0 a + ((a &&& b) ^^^ (a &&& c) ^^^ (b &&& c))
/-- A round. -/
def rnd (v : List UInt32) (k w : UInt32) : List UInt32 := match v with
  | [a, b, c, d, e, f, g, h] => [T1 e f g h k w + T2 a b c, a, b, c, d + T1 e f g h k w, e, f, g]
  | v => v
def rnds (s ks ws : List UInt32) : Nat → List UInt32
  | 0 => s
  | t + 1 => rnd (rnds s ks ws t) (ks.getD t 0) (ws.getD t 0)
theorem eight {v : List UInt32} (h : v.length = 8) : ∃ a b c d e f g i, v = [a, b, c, d, e, f, g, i] := by
  match v, h with
  | [a, b, c, d, e, f, g, i], _ => exact ⟨a, b, c, d, e, f, g, i, rfl⟩
theorem rnd_len {v : List UInt32} (h : v.length = 8) (k w : UInt32) : (rnd v k w).length = 8 := by
  obtain ⟨a, b, c, d, e, f, g, i, rfl⟩ := eight h
  rfl
theorem rnds_len {s : List UInt32} (ks ws : List UInt32) (h : s.length = 8) (t : Nat) : (rnds s ks ws t).length = 8 := by
  induction t with
  | zero => exact h
  | succ t ih => exact rnd_len ih _ _
/-- The sums at the end, so many. -/
def sums (v s : List UInt32) : Nat → List UInt32
  | 0 => v
  | i + 1 => (sums v s i).set i ((sums v s i).getD i 0 + s.getD i 0)
theorem sums_len (v s : List UInt32) (i : Nat) : (sums v s i).length = v.length := by
  induction i with
  | zero => rfl
  | succ i ih => simp [sums, ih]
def blkF (s ks : List UInt32) (b : List UInt8) : List UInt32 := sums (rnds s ks (schB b 48) 64) s 8
theorem info_213 : (Tryz.prog.info? 277).map (·.size) = some 8 := by kernel_rfl
theorem zero8 : wcs (List.replicate 8 0) = #[Value.int .u32 0, Value.int .u32 0, Value.int .u32 0, Value.int .u32 0, Value.int .u32 0, Value.int .u32 0, Value.int .u32 0, Value.int .u32 0] := rfl
theorem b_notM (x : UInt32) : bits .xor .u32 (if IntKind.u32.signed = true then -1 else IntKind.u32.max) (tn x) = tn (~~~x) := b_not x
attribute [local go_sem] b_xor b_and b_or b_add' b_not b_notM d8 d1024
set_option maxHeartbeats 3200000 in
set_option maxRecDepth 100000 in
theorem block_calls (s ks : List UInt32) (b : List UInt8) (A : Option Addr) (n c Nk : Nat) (w : World) (B : Nat) (hs : s.length = 8) (hk : ks.length = 64) (hn : n = b.length) (hb : b.length = 64) (hr : Kd.u8.Row 5 B w A b) (hK : WB w Nk 215 ks) :
    Calls Tryz.prog 242 #[.agg (wcs s), .slice A n c, .pointer (some ⟨Nk, 0, none⟩)] w fun e w' => e = .returned (.agg (wcs (blkF s ks b))) ∧ Below w.heap.size w w' := by
  subst hn
  obtain ⟨ws, hws⟩ : ∃ ws, schB b 48 = ws := ⟨_, rfl⟩
  have hwl : ws.length = 64 := by rw [← hws]; exact schB_len b 48
  have hsc := fun (w' : World) (h : Below w.heap.size w w') => sched_calls b A b.length c w' B rfl hb (Kd.row_below h hr)
  have hfin : blkF s ks b = sums (rnds s ks ws 64) s 8 := by unfold blkF; rw [hws]
  rw [hws] at hsc
  have HSC := Lib.hid hsc
  have HF := Lib.hid hfin
  have HS := Lib.hid hs
  have HKL := Lib.hid hk
  have HWL := Lib.hid hwl
  have i213 := Lib.hid info_213
  have i215 := Lib.hid info_215
  have Z := Lib.hid zero8
  have Z6 := Lib.hid zero64
  clear hws hsc hfin hs hk hb hwl hr
  go_enter Tryz.func242, Tryz.ntmps242
  go_upto_region 1 with fail
  rw [← Z.out]
  have g0 : WB ((w.alloc (.cells (wcs s) 277)).alloc (.cells (wcs (List.replicate 8 0)) 277)) w.heap.size 277 s := alloc_old (alloc_new w _) _
  have g1 : WB ((w.alloc (.cells (wcs s) 277)).alloc (.cells (wcs (List.replicate 8 0)) 277)) (w.heap.size + 1) 277 (List.replicate 8 0) := by
    have := alloc_new (w.alloc (.cells (wcs s) 277)) (.cells (wcs (List.replicate 8 0)) 277)
    rwa [World.size_alloc] at this
  have bel0 : Below w.heap.size w ((w.alloc (.cells (wcs s) 277)).alloc (.cells (wcs (List.replicate 8 0)) 277)) := bl_alloc (bl_alloc (Below.refl _ _) _) _
  generalize (w.alloc (.cells (wcs s) 277)).alloc (.cells (wcs (List.replicate 8 0)) 277) = W0 at *
  have hsc := HSC.out W0 bel0
  have HSC2 := Lib.hid hsc
  clear hsc HSC
  go_wp2_with (first
    | (go_at_call 266; refine (HSC2.out).mono ?_; rintro e w1 ⟨rfl, b1⟩)
    | (rw [← Z6.out]; refine wpList_store_new (wcs (List.replicate 64 0)) 215 _ rfl rfl 215 (.tmp 7) (.tmp 18) rfl rfl (wcs ws) rfl (by rw [i215.out, wcs_size, HWL.out]) (by rw [wcs_size, wcs_size, HWL.out, List.length_replicate]) (wcs_one _) ?_)
    | (refine wpList_load_row rfl 277 (.tmp 3) rfl w.heap.size rfl 277 (wcs s) (0, 0) _ (block_below (bl_alloc b1 _) g0) Tryz.underlying277 rfl (by rw [i213.out, wcs_size, HS.out]) ?_)
    | (rw [← Z.out]; refine wpList_store_new (wcs (List.replicate 8 0)) 277 _ (by simp) rfl 277 (.tmp 8) (.tmp 19) rfl rfl (wcs s) rfl (by rw [i213.out, wcs_size, HS.out]) (by rw [wcs_size, wcs_size, HS.out, List.length_replicate]) (wcs_one _) ?_))
  have b2 := bl_trans bel0 b1
  have kN : Nk < w.heap.size := blk_lt hK
  have sz0 : w.heap.size + 1 < W0.heap.size := by have := blk_lt g1; omega
  have sz1 : W0.heap.size ≤ w1.heap.size := b1.size
  have q0 : WB ((w1.alloc (.cells (wcs ws) 215)).alloc (.cells (wcs s) 277)) w.heap.size 277 s := alloc_old (alloc_old (block_below b1 g0) _) _
  have q1 : WB ((w1.alloc (.cells (wcs ws) 215)).alloc (.cells (wcs s) 277)) (w.heap.size + 1) 277 (List.replicate 8 0) := alloc_old (alloc_old (block_below b1 g1) _) _
  have q2 : WB ((w1.alloc (.cells (wcs ws) 215)).alloc (.cells (wcs s) 277)) w1.heap.size 215 ws := alloc_old (alloc_new w1 _) _
  have q3 : WB ((w1.alloc (.cells (wcs ws) 215)).alloc (.cells (wcs s) 277)) (w1.heap.size + 1) 277 s := by
    have := alloc_new (w1.alloc (.cells (wcs ws) 215)) (.cells (wcs s) 277)
    rwa [World.size_alloc] at this
  have q4 : Below w.heap.size w ((w1.alloc (.cells (wcs ws) 215)).alloc (.cells (wcs s) 277)) := bl_alloc (bl_alloc b2 _) _
  have q5 : WB ((w1.alloc (.cells (wcs ws) 215)).alloc (.cells (wcs s) 277)) Nk 215 ks := block_below q4 hK
  generalize (w1.alloc (.cells (wcs ws) 215)).alloc (.cells (wcs s) 277) = W2 at *
  obtain ⟨N, hN⟩ : ∃ N, w1.heap.size = N := ⟨_, rfl⟩
  obtain ⟨M, hM⟩ : ∃ M, w.heap.size = M := ⟨_, rfl⟩
  simp only [hN, hM] at q0 q1 q2 q3 q4 q5 sz0 sz1 kN ⊢
  have HM := Lib.hid hM
  clear hM
  clear g0 g1 bel0 b1 b2 HSC2 hN Z Z6
  go_loopw [20] (fun kv w' => ∃ t : Nat, t ≤ 64 ∧ kv = .int .i64 t ∧ WB w' (N + 1) 277 (rnds s ks ws t) ∧ WB w' N 215 ws ∧ WB w' M 277 s ∧ WB w' (M + 1) 277 (List.replicate 8 0) ∧ WB w' Nk 215 ks ∧ Below M w w') (fun kv _ => 64 - (intOf kv).toNat)
  case atStart => exact ⟨0, by omega, rfl, q3, q2, q0, q1, q5, q4⟩
  case round =>
    clear q0 q1 q2 q3 q4 q5
    obtain ⟨t, h1, rfl, q3, q2, q0, q1, q5, q4⟩ := hrel
    obtain ⟨va, vb, vc, vd, ve, vf, vg, vh, hv⟩ := eight (rnds_len ks ws HS.out t)
    by_cases h : t < 64
    · have hkI : (t : Int) < 64 := by omega
      have hk0 : (0 : Int) ≤ (t : Int) := by omega
      obtain ⟨kt, hkt⟩ : ∃ x, ks[t]? = some x := ⟨_, List.getElem?_eq_getElem (by rw [HKL.out]; exact h)⟩
      obtain ⟨wt, hwt⟩ : ∃ x, ws[t]? = some x := ⟨_, List.getElem?_eq_getElem (by rw [HWL.out]; exact h)⟩
      have hr1 : rnds s ks ws (t + 1) = [T1 ve vf vg vh kt wt + T2 va vb vc, va, vb, vc, vd + T1 ve vf vg vh kt wt, ve, vf, vg] := by
        show rnd (rnds s ks ws t) _ _ = _
        rw [hv, List.getD_eq_getElem?_getD, List.getD_eq_getElem?_getD, hkt, hwt]
        rfl
      rw [hv] at q3
      have ck := WB.cell q5 hkt
      have cw := WB.cell q2 hwt
      have c0 := WB.cell q3 (i := 0) rfl
      have c1 := WB.cell q3 (i := 1) rfl
      have c2 := WB.cell q3 (i := 2) rfl
      have c3 := WB.cell q3 (i := 3) rfl
      have c4 := WB.cell q3 (i := 4) rfl
      have c5 := WB.cell q3 (i := 5) rfl
      have c6 := WB.cell q3 (i := 6) rfl
      have c7 := WB.cell q3 (i := 7) rfl
      obtain ⟨x1, hx1⟩ : ∃ x, T1 ve vf vg vh kt wt = x := ⟨_, rfl⟩
      obtain ⟨x2, hx2⟩ : ∃ x, T2 va vb vc = x := ⟨_, rfl⟩
      rw [hx1, hx2] at hr1
      have HX1 : Hid (vh + (rotr ve 6 ^^^ rotr ve 11 ^^^ rotr ve 25) + (ve &&& vf ^^^ ~~~ve &&& vg) + kt + wt = x1) := Lib.hid hx1
      have HX2 : Hid ((rotr va 2 ^^^ rotr va 13 ^^^ rotr va 22) + (va &&& vb ^^^ va &&& vc ^^^ vb &&& vc) = x2) := Lib.hid hx2
      have HR1 := Lib.hid hr1
      clear hx1 hx2
      clear hr1 hkt hwt hv
      go_upto_region 6 with fail
      go_quiet (fail)
      go_upto_region 8 with ((go_at_call 267; refine (right_any _ _ (by omega) _).mono ?_; rintro e w' ⟨rfl, rfl⟩))
      go_quiet (fail)
      go_upto_region 11 with ((go_at_call 267; refine (right_any _ _ (by omega) _).mono ?_; rintro e w' ⟨rfl, rfl⟩))
      simp only [b_add', HX1.out, HX2.out]
      clear HX1 HX2
      go_wp2_with (simp only [b_add']; refine wpList_store_row rfl 277 (.tmp 8) (.tmp 104) rfl (N + 1) rfl (wcs [x1 + x2, va, vb, vc, vd + x1, ve, vf, vg]) rfl 277 _ q3 (by rw [i213.out]; rfl) rfl (wcs_one _) ?_)
      go_roundw
      case rel => exact ⟨t + 1, by omega, by go_num, by rw [HR1.out]; exact WB.row_same (W := wr.drewN _) q3 _, WB.row_far (W := wr.drewN _) q2 (by omega), WB.row_far (W := wr.drewN _) q0 (by omega), WB.row_far (W := wr.drewN _) q1 (by omega), WB.row_far (W := wr.drewN _) q5 (by omega), below_setRow (bm_drewN q4 _) (by omega) _⟩
      case measure => simp [intOf]; omega
    · have ht : t = 64 := by omega
      subst ht
      have hkI : ¬ (((64 : Nat) : Int) < 64) := by omega
      obtain ⟨v, hvv⟩ : ∃ v, rnds s ks ws 64 = v := ⟨_, rfl⟩
      rw [hvv] at q3 hv
      have hvl : v.length = 8 := by rw [hv]; rfl
      have HV := Lib.hid hvv
      have HVL := Lib.hid hvl
      clear hvv hvl hv h1 h
      go_wp2_with fail
      clear hkI
      go_loopw [106] (fun kv w' => ∃ i : Nat, i ≤ 8 ∧ kv = .int .i64 i ∧ WB w' (N + 1) 277 (sums v s i) ∧ WB w' M 277 s ∧ WB w' (M + 1) 277 (List.replicate 8 0) ∧ Below M w w') (fun kv _ => 8 - (intOf kv).toNat)
      case atStart => exact ⟨0, by omega, rfl, q3, q0, q1, q4⟩
      case round =>
        clear q0 q1 q2 q3 q4 q5
        obtain ⟨i, h1, rfl, q3, q0, q1, q4⟩ := hrel
        by_cases h : i < 8
        · have hkI : (i : Int) < 8 := by omega
          have hk0 : (0 : Int) ≤ (i : Int) := by omega
          obtain ⟨x, hx⟩ : ∃ x, (sums v s i)[i]? = some x := ⟨_, List.getElem?_eq_getElem (by rw [sums_len, HVL.out]; exact h)⟩
          obtain ⟨y, hy⟩ : ∃ x, s[i]? = some x := ⟨_, List.getElem?_eq_getElem (by rw [HS.out]; exact h)⟩
          have hsm : sums v s (i + 1) = (sums v s i).set i (x + y) := by
            show (sums v s i).set i (_ + _) = _
            rw [List.getD_eq_getElem?_getD, List.getD_eq_getElem?_getD, hx, hy]
            rfl
          have HSM := Lib.hid hsm
          have HX := Lib.hid hx
          have HY := Lib.hid hy
          clear hsm hx hy
          go_upto_region 16 with fail
          refine wp_region_still_tail 8 (by kernel_rfl) (by kernel_rfl) ?_
          change wpStill _ _ wr.drew (fun a' => wpList _ _ _ _ a' wr.drew) _ _
          have g3 : WB wr.drew (N + 1) 277 (sums v s i) := q3
          have g0 : WB wr.drew M 277 s := q0
          have g1 : WB wr.drew (M + 1) 277 (List.replicate 8 0) := q1
          have g4 : Below M w wr.drew := q4.drew
          clear q0 q1 q3 q4
          generalize wr.drew = w5 at *
          have cp := WB.cell g3 HX.out
          have cq := WB.cell g0 HY.out
          have zr := WB.free g3 i
          simp only [List.take_succ_cons, List.take_zero, List.drop_succ_cons, List.drop_zero]
          repeat still_step
          try refine wpStill_nil ?_
          go_wp2_with fail
          go_roundw
          case rel => exact ⟨i + 1, by omega, by go_num, by rw [HSM.out]; exact WB.set g3 i _, block_far g0 (by omega), block_far g1 (by omega), g4.setCell (show M ≤ N + 1 by omega) _⟩
          case measure => simp [intOf]; omega
        · have hi8 : i = 8 := by omega
          subst hi8
          have hkI : ¬ (((8 : Nat) : Int) < 8) := by omega
          have hsl : (sums v s 8).length = 8 := by rw [sums_len, HVL.out]
          obtain ⟨R, hR⟩ : ∃ R, sums v s 8 = R := ⟨_, rfl⟩
          rw [hR] at q3 hsl
          have HRL := Lib.hid hsl
          have HRR := Lib.hid hR
          clear hR hsl h1 h
          go_wp2_with (first | (refine wpList_load_row rfl 277 (.tmp 8) rfl (N + 1) rfl 277 (wcs R) (0, 0) _ q3 Tryz.underlying277 rfl (by rw [i213.out, wcs_size, HRL.out]) ?_) | (refine wpList_store_row rfl 277 (.tmp 6) (.tmp 118) rfl (M + 1) rfl (wcs R) rfl 277 _ q1 (by rw [i213.out, wcs_size, HRL.out]) (by rw [wcs_size, wcs_size, HRL.out, List.length_replicate]) (wcs_one _) ?_))
          refine bodyPost_ret (results_cell_row rfl _ _ (M + 1) 277 (wcs R) (0, 0) _ rfl (setRow_same q1) Tryz.underlying277 rfl (by rw [i213.out, wcs_size, HRL.out])) rfl ?_
          exact ⟨by rw [HF.out, HV.out, HRR.out], by rw [HM.out]; exact below_setRow q4 (show M ≤ M + 1 by omega) _⟩
end Go.Proofs.YtcbfpdenjdgnlaaGreat
/- Package sha: the words of the beginning. No claim of its own; no condition. -/
namespace Go.Proofs.YtcbfpdenjdgnlaaGreat
open Go.ChangeShapes Go.WideShapes Go.ChangeAt Go.RowKit
set_option linter.unusedVariables false
set_option linter.unusedSimpArgs false
section
variable {P : Program}
theorem wpList_build {ops : Array Oper} {rest : List Oper} {o : Oper} {a : Act} {w : World} {Q : Exit → Act → World → Prop} (hgd : o.guard = none) (ty : TypeId) (parts : Array (Nat × Operand)) (ho : o.op = .build ty parts)
    (v : Value) (hrun : (Instr.build ty (parts.map fun x => (x.1, a.eval x.2))).run P w = .ok v w) (h : wpList P ops Q rest (a.put o.dst v) w) : wpList P ops Q (o :: rest) a w :=
  wpList_plain hgd fun _ hK => by
    unfold Oper.wp execOp
    simp only [ho, Sem.run_bind, hrun, Result.andThen_ok, Sem.run_pure]
    exact hK _ _ h
end
def h0L : List UInt32 := [0x6a09e667, 0xbb67ae85, 0x3c6ef372, 0xa54ff53a, 0x510e527f, 0x9b05688c, 0x1f83d9ab, 0x5be0cd19]
def kL : List UInt32 := [0x428a2f98, 0x71374491, 0xb5c0fbcf, 0xe9b5dba5, 0x3956c25b, 0x59f111f1, 0x923f82a4, 0xab1c5ed5, 0xd807aa98, 0x12835b01, 0x243185be, 0x550c7dc3, 0x72be5d74, 0x80deb1fe, 0x9bdc06a7, 0xc19bf174, 0xe49b69c1, 0xefbe4786, 0x0fc19dc6, 0x240ca1cc, 0x2de92c6f, 0x4a7484aa, 0x5cb0a9dc, 0x76f988da, 0x983e5152, 0xa831c66d, 0xb00327c8, 0xbf597fc7, 0xc6e00bf3, 0xd5a79147, 0x06ca6351, 0x14292967, 0x27b70a85, 0x2e1b2138, 0x4d2c6dfc, 0x53380d13, 0x650a7354, 0x766a0abb, 0x81c2c92e, 0x92722c85, 0xa2bfe8a1, 0xa81a664b, 0xc24b8b70, 0xc76c51a3, 0xd192e819, 0xd6990624, 0xf40e3585, 0x106aa070, 0x19a4c116, 0x1e376c08, 0x2748774c, 0x34b0bcb5, 0x391c0cb3, 0x4ed8aa4a, 0x5b9cca4f, 0x682e6ff3, 0x748f82ee, 0x78a5636f, 0x84c87814, 0x8cc70208, 0x90befffa, 0xa4506ceb, 0xbef9a3f7, 0xc67178f2]
theorem h0_cells : wcs h0L = #[Value.int .u32 1779033703, Value.int .u32 3144134277, Value.int .u32 1013904242, Value.int .u32 2773480762, Value.int .u32 1359893119, Value.int .u32 2600822924, Value.int .u32 528734635, Value.int .u32 1541459225] := by kernel_rfl
theorem k_cells : wcs kL = #[Value.int .u32 1116352408, Value.int .u32 1899447441, Value.int .u32 3049323471, Value.int .u32 3921009573, Value.int .u32 961987163, Value.int .u32 1508970993, Value.int .u32 2453635748, Value.int .u32 2870763221, Value.int .u32 3624381080, Value.int .u32 310598401, Value.int .u32 607225278, Value.int .u32 1426881987, Value.int .u32 1925078388, Value.int .u32 2162078206, Value.int .u32 2614888103, Value.int .u32 3248222580, Value.int .u32 3835390401, Value.int .u32 4022224774, Value.int .u32 264347078, Value.int .u32 604807628, Value.int .u32 770255983, Value.int .u32 1249150122, Value.int .u32 1555081692, Value.int .u32 1996064986, Value.int .u32 2554220882, Value.int .u32 2821834349, Value.int .u32 2952996808, Value.int .u32 3210313671, Value.int .u32 3336571891, Value.int .u32 3584528711, Value.int .u32 113926993, Value.int .u32 338241895, Value.int .u32 666307205, Value.int .u32 773529912, Value.int .u32 1294757372, Value.int .u32 1396182291, Value.int .u32 1695183700, Value.int .u32 1986661051, Value.int .u32 2177026350, Value.int .u32 2456956037, Value.int .u32 2730485921, Value.int .u32 2820302411, Value.int .u32 3259730800, Value.int .u32 3345764771, Value.int .u32 3516065817, Value.int .u32 3600352804, Value.int .u32 4094571909, Value.int .u32 275423344, Value.int .u32 430227734, Value.int .u32 506948616, Value.int .u32 659060556, Value.int .u32 883997877, Value.int .u32 958139571, Value.int .u32 1322822218, Value.int .u32 1537002063, Value.int .u32 1747873779, Value.int .u32 1955562222, Value.int .u32 2024104815, Value.int .u32 2227730452, Value.int .u32 2361852424, Value.int .u32 2428436474, Value.int .u32 2756734187, Value.int .u32 3204031479, Value.int .u32 3329325298] := by kernel_rfl
theorem first_calls (w : World) : Calls Tryz.prog 239 #[] w fun e w' => e = .returned (.agg (wcs h0L)) ∧ Below w.heap.size w w' := by
  go_enter Tryz.func239, Tryz.ntmps239
  go_wp2_with fail
  refine bodyPost_ret (results_cell_row rfl _ _ w.heap.size 277 _ (0, 0) _ rfl (alloc_new w _) Tryz.underlying277 rfl info_213) rfl ?_
  exact ⟨by rw [h0_cells], bl_alloc (Below.refl _ _) _⟩
set_option maxRecDepth 100000 in
theorem constants_calls (w : World) : Calls Tryz.prog 240 #[] w fun e w' => e = .returned (.agg (wcs kL)) ∧ Below w.heap.size w w' := by
  have Z := Lib.hid zero64
  go_enter Tryz.func240, Tryz.ntmps240
  go_wp2_with (first | (refine wpList_build rfl 215 _ rfl (.agg (wcs kL)) (by kernel_rfl) ?_) | (rw [← Z.out]; refine wpList_store_new (wcs (List.replicate 64 0)) 215 _ rfl rfl 215 (.tmp 0) (.tmp 1) rfl rfl (wcs kL) rfl info_215 rfl (wcs_one _) ?_))
  refine bodyPost_ret (results_cell_row rfl _ _ w.heap.size 215 _ (0, 0) _ rfl (alloc_new w _) Tryz.underlying215 rfl info_215) rfl ?_
  exact ⟨rfl, bl_alloc (Below.refl _ _) _⟩
set_option maxRecDepth 100000 in
theorem words_calls (w : World) : Calls Tryz.prog 159 #[] w fun e w' => e = .returned (.agg (wcs kL)) ∧ Below w.heap.size w w' := by
  have Z := Lib.hid zero64
  go_enter Tryz.func159, Tryz.ntmps159
  go_wp2_with (first | (refine wpList_build rfl 215 _ rfl (.agg (wcs kL)) (by kernel_rfl) ?_) | (rw [← Z.out]; refine wpList_store_new (wcs (List.replicate 64 0)) 215 _ rfl rfl 215 (.tmp 0) (.tmp 1) rfl rfl (wcs kL) rfl info_215 rfl (wcs_one _) ?_))
  refine bodyPost_ret (results_cell_row rfl _ _ w.heap.size 215 _ (0, 0) _ rfl (alloc_new w _) Tryz.underlying215 rfl info_215) rfl ?_
  exact ⟨rfl, bl_alloc (Below.refl _ _) _⟩
end Go.Proofs.YtcbfpdenjdgnlaaGreat
/- Words: 'append' of a row in a region that draws its order. No claim of its own; no condition. -/
namespace Go.Proofs.YtcbfpdenjdgnlaaGreat
open Go.ChangeShapes Go.WideShapes Go.ChangeAt Go.RowKit
set_option linter.unusedVariables false
section
variable {P : Program} (w : World)
theorem step_append_row {ops : Array Oper} {o : Oper} {a : Act} {K : Act → World → Prop} {Q : Exit → Act → World → Prop} {E : Prop} (hgd : o.guard = none) (s x : Operand) (t : TypeId)
    (ho : o.op = .call { callee := .builtin .append, args := #[s, x], argTypes := #[t, t] })
    {α : Type} (d : Kd α) (B base : Nat) (e : TypeId) (i : TypeInfo) (z : Value) (bytes : Nat) (ht : P.underlying t = some (.slice e)) (hi : P.info? e = some i) (hz : i.zero = some z)
    (hsize : i.size = d.sz) (hby : i.bytes = bytes) (hzs : z.cells.size = d.sz) (hsz : 0 < d.sz)
    (v : Value) (xs : List α) (hs : a.eval s = v) (hown : d.Own e B w base v xs) (A : Option Addr) (c n : Nat) (ys : List α) (hx : a.eval x = .slice A n c) (hn : n = ys.length) (hr : d.Row e B w A ys)
    (hlen : xs.length + ys.length ≤ 4194304) (hb : bytes ≤ 1024) (hbase : base ≤ w.heap.size) (hB : B ≤ base) (he : e ∉ d.E)
    (h : ∀ v' w', d.Own e B w' base v' (xs ++ ys) → w.grownBy w' v.ownBlock → (v'.ownBlock = v.ownBlock ∨ v'.ownBlock = some w.heap.size) → K (a.put o.dst v') w') :
    if Region.wanted o (yielded ops a.tmps) = true then Oper.wp P o a w K Q else E := by
  subst hn
  have hw : Region.wanted o (yielded ops a.tmps) = true := by simp [Region.wanted, hgd]
  rw [if_pos hw]
  obtain ⟨v', w', hrun, h2, h3, h4⟩ := run_append_row (P := P) w d B base t o.type e i z bytes ht hi hz hsize hby hzs hsz v xs hown A c ys hr hlen hb hbase hB he
  unfold Oper.wp execOp
  simp only [ho, resolve, invoke, builtin, Sem.run_bind, Sem.run_pure, Result.andThen_ok, List.map_toArray, List.map_cons, List.map_nil, hs, hx, hrun]
  exact h v' w' h2 h3 h4
end
/-! ### What is kept while a row of the call's own grows -/
theorem kp_drew {B : Nat} {E : List TypeId} {a w : World} (h : Keeps B E a w) : Keeps B E a w.drew := h
theorem kp_alloc {B : Nat} {E : List TypeId} {a w : World} (h : Keeps B E a w) (o : Obj) : Keeps B E a (w.alloc o) := h.trans (Keeps.alloc w o)
theorem held_keep {B : Nat} {E : List TypeId} {a : World} {p : Addr} {v : Value} (hc : a.cell? p = some v) (hb : Held B E a p.block) : ∀ w', Keeps B E a w' → w'.cell? p = some v :=
  fun w' h => (World.cell?_of_block (h.2 _ hb)).trans hc
theorem held_old {B : Nat} {E : List TypeId} {a : World} {b : Nat} (h : b < B) (hb : b < a.heap.size) : Held B E a b := ⟨hb, .inl h⟩
theorem held_type {B : Nat} {E : List TypeId} {a : World} {b : Nat} {cs : Array Value} {t : TypeId} {f : Nat × Nat} (h : a.heap[b]? = some (.cells cs t f)) (ht : t ∈ E) : Held B E a b := ⟨blk_lt h, .inr ⟨_, _, _, h, ht⟩⟩
end Go.Proofs.YtcbfpdenjdgnlaaGreat
/- Package octets: Words. No claim of its own; no condition. -/
namespace Go.Proofs.YtcbfpdenjdgnlaaGreat
open Go.ChangeShapes Go.WideShapes Go.ChangeAt Go.RowKit
set_option linter.unusedVariables false
set_option linter.unusedSimpArgs false
theorem info_u8 : (Tryz.prog.info? 5).map (fun i => (i.zero, i.size, i.bytes)) = some (some (.int .u8 0), 1, 1) := by kernel_rfl
def ob (x : UInt32) (k : Nat) : UInt8 := UInt8.ofNat (x.toNat / 2 ^ k)
/-- An octet as the model has it. -/
def un (b : UInt8) : Int := (b.toNat : Int)
theorem ob_eq (x : UInt32) (k : Nat) : tn x / 2 ^ k % 256 = un (ob x k) := by
  unfold ob un tn
  rw [UInt8.toNat_ofNat']
  simp
theorem ob24 (x : UInt32) : tn x / 16777216 % 256 = un (ob x 24) := ob_eq x 24
theorem ob16 (x : UInt32) : tn x / 65536 % 256 = un (ob x 16) := ob_eq x 16
theorem ob8 (x : UInt32) : tn x / 256 % 256 = un (ob x 8) := ob_eq x 8
theorem ob0 (x : UInt32) : tn x % 256 = un (ob x 0) := by
  have := ob_eq x 0
  simpa using this
def o4 (x : UInt32) : List UInt8 := [ob x 24, ob x 16, ob x 8, ob x 0]
def wordsB (l : List UInt32) : List UInt8 := l.flatMap o4
theorem flat_snoc {α β : Type} (f : α → List β) (l : List α) (k : Nat) (x : α) (h : l[k]? = some x) : (l.take (k + 1)).flatMap f = (l.take k).flatMap f ++ f x := by
  rw [List.take_add_one, h, List.flatMap_append]
  simp
theorem o4_len (l : List UInt32) : (l.flatMap o4).length = 4 * l.length := by
  induction l with
  | nil => rfl
  | cons x l ih => simp only [List.flatMap_cons, List.length_append, ih, List.length_cons]; simp only [o4, List.length_cons, List.length_nil]; omega
attribute [local go_sem] ob24 ob16 ob8 ob0
set_option maxHeartbeats 3200000 in
set_option maxRecDepth 100000 in
theorem octwords_calls (l : List UInt32) (N n c : Nat) (w : World) (T : TypeId) (hn : n = l.length) (hl : l.length ≤ 64) (hb : WB w N T l) :
    Calls Tryz.prog 243 #[.slice (some ⟨N, 0, none⟩) n c] w fun e w' => (∃ v, e = .returned v ∧ Kd.u8.Own 5 w.heap.size w' w.heap.size v (wordsB l)) ∧ Below w.heap.size w w' := by
  subst hn
  obtain ⟨i0, hi, hz0, hz1, hz2⟩ := info_parts info_u8
  go_enter Tryz.func243, Tryz.ntmps243
  go_wp2_with ((at_make; refine wpList_make_own _ rfl _ _ 60 rfl w.heap.size 5 i0 _ 1 Tryz.underlying60 hi hz0 hz1 .i64 .i64 _ (4 * l.length) rfl rfl (by omega) (by rw [hz2]; omega) (by simp only [maxLen]; omega) (Nat.le_refl _) ?_; intro w1 own1 grw1))
  have bel1 : Below w.heap.size w w1 := bl_grown (Below.refl _ _) grw1 (fun k hk => by cases hk)
  have ownK : Kd.u8.Own 5 w.heap.size w1 w.heap.size (.slice (some ⟨w.heap.size, 0, none⟩) 0 (4 * l.length)) (wordsB (l.take 0)) := ⟨[], own1, .nil⟩
  have hNw : N < w.heap.size := blk_lt hb
  clear own1 grw1
  go_loopw [3, 12] (fun ov kv w' => ∃ k : Nat, k ≤ l.length ∧ kv = .int .i64 k ∧ Kd.u8.Own 5 w.heap.size w' w.heap.size ov (wordsB (l.take k)) ∧ Below w.heap.size w w') (fun _ kv _ => l.length - (intOf kv).toNat)
  case atStart => exact ⟨0, by omega, rfl, ownK, bel1⟩
  case round =>
    obtain ⟨k, h1, rfl, own, bel⟩ := hrel
    by_cases h : k < l.length
    · obtain ⟨x, hx⟩ : ∃ x, l[k]? = some x := ⟨_, List.getElem?_eq_getElem h⟩
      have hkI : (k : Int) < (l.length : Int) := by omega
      have hk0 : (0 : Int) ≤ (k : Int) := by omega
      have cx := WB.cell (WB.below hb bel) hx
      have hs : wordsB (l.take (k + 1)) = wordsB (l.take k) ++ o4 x := flat_snoc o4 l k x hx
      have hlo : (wordsB (l.take k)).length ≤ 256 := by unfold wordsB; rw [o4_len, List.length_take]; omega
      have HS := Lib.hid hs
      obtain ⟨T', hT'⟩ : ∃ T', wordsB (l.take k) = T' := ⟨_, rfl⟩
      rw [hT'] at hlo own
      have HT := Lib.hid hT'
      clear hs hT' hx ownK bel1
      obtain ⟨Ao, co, rfl, _, _, _, _⟩ := Kd.own_row own
      have al := bl_alloc (Below.refl wr.heap.size wr) (.cells #[.int .u8 (un (ob x 24)), .int .u8 (un (ob x 16)), .int .u8 (un (ob x 8)), .int .u8 (un (ob x 0))] 5)
      have ownA := Kd.own_below own al
      have belA := bl_trans bel al
      have row4 : Kd.u8.Row 5 w.heap.size (wr.alloc (.cells #[.int .u8 (un (ob x 24)), .int .u8 (un (ob x 16)), .int .u8 (un (ob x 8)), .int .u8 (un (ob x 0))] 5)) (some ⟨wr.heap.size, 0, none⟩) (o4 x) :=
        Kd.row_fresh rfl (.cons (show Kd.u8.K _ _ _ [_] from rfl) (.cons (show Kd.u8.K _ _ _ [_] from rfl) (.cons (show Kd.u8.K _ _ _ [_] from rfl) (.cons (show Kd.u8.K _ _ _ [_] from rfl) .nil))))
      go_wp2_with ((at_builtin; refine wpList_append_row _ rfl (.tmp 16) (.tmp 28) 60 rfl Kd.u8 w.heap.size w.heap.size 5 i0 _ 1 Tryz.underlying60 hi hz0 hz1 hz2 rfl (by decide) _ T' rfl ownA _ _ _ (o4 x) rfl rfl row4 (by simp only [o4, List.length_cons, List.length_nil]; omega) (by decide) belA.size (Nat.le_refl _) (by decide) ?_; intro v4 w4 own4 grw4 at4; have bel4 := Kd.own_step belA ownA grw4))
      go_roundw
      case rel => exact ⟨k + 1, by omega, by go_num, (by rw [HS.out, HT.out]; exact own4), bel4⟩
      case measure => simp [intOf]; omega
    · have hk : k = l.length := by omega
      subst hk
      have hnI : ¬ ((l.length : Int) < (l.length : Int)) := by omega
      go_wp2_with fail
      go_ret
      rw [List.take_of_length_le (Nat.le_refl _)] at own
      exact ⟨⟨_, rfl, own⟩, bel⟩
end Go.Proofs.YtcbfpdenjdgnlaaGreat
