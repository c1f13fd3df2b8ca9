/- Package query: Ask, Supply. No claim of its own; no condition. -/
import Derived.Test.YtflfpfaebndefabQueryF
namespace Go.Proofs.Ytflfpfaebndefab
open Go.ChangeShapes Go.WideShapes Go.ChangeAt Go.RowKit
set_option linter.unusedVariables false
set_option linter.unusedSimpArgs false
theorem ask_out (l : List Block) (cl : Int) (A : Option Addr) (n c : Nat) (w : World) (hc : cl < 0 ∨ 4 ≤ cl) :
    Calls Try.prog 32 #[.slice A n c, .int .i64 cl] w
      fun e w' => e = .returned (.tuple #[.agg #[.int .i64 0, .int .i64 0, .int .i64 0, .int .i64 0, .int .i64 0], .int .i64 4]) ∧ Below w.heap.size w w' := by
  rcases hc with hc | hc
  all_goals
    go_enter Try.func32, Try.ntmps32
    go_wp2_with fail
    refine bodyPost_ret (v := .tuple #[.agg #[.int .i64 0, .int .i64 0, .int .i64 0, .int .i64 0, .int .i64 0], .int .i64 4]) (by simp [results, Try.results32, go_sem]) rfl ⟨rfl, ?_⟩
    exact bl_alloc (Below.refl _ _) _
set_option maxHeartbeats 3200000 in
set_option maxRecDepth 100000 in
theorem ask_calls (l : List Block) (cl : Nat) (a : Account) (A : Option Addr) (n c : Nat) (w : World) (B : Nat) (hn : n = l.length) (hl : l.length ≤ 2097152) (hT : txN l ≤ 2097152) (hr : kBlock.Row 79 B w A l) (hcl : cl < 4) (ha : (foldF l).1[cl]? = some a) :
    Calls Try.prog 32 #[.slice A n c, .int .i64 (cl : Int)] w
      fun e w' => e = .returned (.tuple #[.agg #[.int .i64 a.balance, .int .i64 a.nonce, .int .i64 (l.length : Int), .int .i64 (doneF cl (entsF l) : Int), .int .i64 (failF cl (entsF l) : Int)], .int .i64 0]) ∧ Below w.heap.size w w' := by
  subst hn
  obtain ⟨E, hE⟩ : ∃ E, E = entsF l := ⟨_, rfl⟩
  rw [← hE]
  have hlen : E.length = txN l := by rw [hE]; show (entG _ l 0 []).length = _; rw [entG_len]; simp
  have hEl : E.length ≤ 2097152 := by omega
  have hfl := fold_len l (genesisF, [])
  obtain ⟨F, hF⟩ : ∃ F, F = foldF l := ⟨_, rfl⟩
  rw [← hF] at ha
  have hf1 : F.1.length = 4 := by rw [hF]; show (foldG l (genesisF, [])).1.length = _; rw [hfl.1]; rfl
  have hclI : (cl : Int) < (F.1.length : Int) := by omega
  have hclL : cl < F.1.length := by omega
  have HF := Lib.hid hF
  have HE := Lib.hid hE
  have HA := Lib.hid ha
  clear hE hlen hF hfl hf1 ha
  have q0 := bl_alloc (Below.refl w.heap.size w) (.cells #[.int .i64 0, .int .i64 0, .int .i64 0, .int .i64 0, .int .i64 0] 71)
  have b0 := alloc_new w (.cells #[.int .i64 0, .int .i64 0, .int .i64 0, .int .i64 0, .int .i64 0] 71)
  generalize hW : w.alloc (.cells #[.int .i64 0, .int .i64 0, .int .i64 0, .int .i64 0, .int .i64 0] 71) = W at *
  have HW := Lib.hid hW
  clear hW
  have hwW := blk_lt b0
  have hcl0 : (0 : Int) ≤ (cl : Int) := by omega
  have hcl4 : (cl : Int) < 4 := by omega
  go_enter Try.func32, Try.ntmps32
  go_upto_region 1 with fail
  rw [HW.out]
  go_upto_region 4 with (go_at_call 12; refine (fold_calls l A l.length c _ B rfl hl hT (Kd.row_below q0 hr)).mono ?_; rw [← HF.out]; rintro e w1 ⟨⟨v, ev, rfl, own1, oerr⟩, b1⟩; obtain ⟨Aa, ca, rfl, _, _, rowa, _⟩ := Kd.own_row own1)
  obtain ⟨ada, rfl, g0, g1, _⟩ := kAccount_at rowa HA.out
  clear rowa own1 oerr
  have bb := alloc_new w1 (.cells #[.int .i64 a.balance, .int .i64 a.nonce, .int .i64 (l.length : Int), .int .i64 0, .int .i64 0] 71)
  have bx := bl_alloc (Below.refl w1.heap.size w1) (.cells #[.int .i64 a.balance, .int .i64 a.nonce, .int .i64 (l.length : Int), .int .i64 0, .int .i64 0] 71)
  go_upto_region 5 with fail
  generalize w1.alloc (.cells #[.int .i64 a.balance, .int .i64 a.nonce, .int .i64 (l.length : Int), .int .i64 0, .int .i64 0] 71) = V at *
  have hB1 := bl_trans q0 (bl_trans b1 bx)
  go_wp2_with (go_at_call 52; refine (entries_calls l A l.length c _ B rfl hl hT (Kd.row_below hB1 hr)).mono ?_; rw [← HE.out]; rintro e w2 ⟨⟨v, rfl, own⟩, b2⟩; have own' := Kd.own_flat kEntry_flat (B' := w1.heap.size) (base' := w1.heap.size) own bx.size; obtain ⟨Ao, co, rfl, _, _, row, _⟩ := Kd.own_row own'; have bb2 := block_below b2 bb; have bx2 := bl_trans bx b2)
  clear own own' bb g0 g1
  go_loopw [33] (fun kv w' => ∃ k : Nat, k ≤ E.length ∧ kv = .int .i64 k ∧ w'.heap[w1.heap.size]? = some (.cells #[.int .i64 a.balance, .int .i64 a.nonce, .int .i64 (l.length : Int), .int .i64 (doneF cl (E.take k) : Int), .int .i64 (failF cl (E.take k) : Int)] 71) ∧ kEntry.Row 101 w1.heap.size w' Ao E ∧ Below w1.heap.size w1 w') (fun kv _ => E.length - (intOf kv).toNat)
  case atStart => exact ⟨0, by omega, rfl, by simpa [doneF, failF] using bb2, row, bx2⟩
  case round =>
    clear bb2 row bx2
    obtain ⟨k, h1, rfl, hb, row, bel⟩ := hrel
    by_cases h : k < E.length
    · obtain ⟨x, hx⟩ : ∃ x, E[k]? = some x := ⟨_, List.getElem?_eq_getElem h⟩
      obtain ⟨ad, rfl, e0, e1, e2, e3, e4, e5, e6, _⟩ := kEntry_at row hx
      have hds := doneF_step (c := cl) hx
      have hfs := failF_step (c := cl) hx
      have hdl := doneF_le cl (E.take k)
      have hfl := failF_le cl (E.take k)
      rw [List.length_take] at hdl hfl
      generalize hD : doneF cl (E.take k) = D at *
      generalize hG : failF cl (E.take k) = G at *
      have bt := bl_alloc (Below.refl wr.heap.size wr) (.cells #[.int .i64 x.tx.frm, .int .i64 x.tx.to, .int .i64 x.tx.amount, .int .i64 x.tx.nonce, .string x.tx.sig, .int .i64 x.height, .int .i64 x.e] 101)
      have bbx := alloc_new wr (.cells #[.int .i64 x.tx.frm, .int .i64 x.tx.to, .int .i64 x.tx.amount, .int .i64 x.tx.nonce, .string x.tx.sig, .int .i64 x.height, .int .i64 x.e] 101)
      have belt := bl_trans bel bt
      have hb' := block_below bt hb
      have row' := Kd.row_below bt row
      clear hD hG hx
      have go3 : ∀ (V : World) (d' g' : Nat), V.heap[w1.heap.size]? = some (.cells #[.int .i64 a.balance, .int .i64 a.nonce, .int .i64 (l.length : Int), .int .i64 (d' : Int), .int .i64 (g' : Int)] 71) → kEntry.Row 101 w1.heap.size V (some ad) E → Below w1.heap.size w1 V → doneF cl (E.take (k + 1)) = d' → failF cl (E.take (k + 1)) = g' →
          ∃ k' : Nat, k' ≤ E.length ∧ Value.int .i64 ((k : Int) + 1) = .int .i64 k' ∧ V.heap[w1.heap.size]? = some (.cells #[.int .i64 a.balance, .int .i64 a.nonce, .int .i64 (l.length : Int), .int .i64 (doneF cl (E.take k') : Int), .int .i64 (failF cl (E.take k') : Int)] 71) ∧ kEntry.Row 101 w1.heap.size V (some ad) E ∧ Below w1.heap.size w1 V :=
        fun V d' g' p1 p2 p3 p4 p5 => ⟨k + 1, by omega, by go_num, by rw [p4, p5]; exact p1, p2, p3⟩
      have GO3 := Lib.hid go3
      clear go3
      have hcells := block_cell hb' (i := 3) rfl
      have hcells4 := block_cell hb' (i := 4) rfl
      have fr3 := frozen_of_row _ w1.heap.size 3 _ 71 hb'
      have fr4 := frozen_of_row _ w1.heap.size 4 _ 71 hb'
      by_cases hf : x.tx.frm = cl
      · have hf1 : (x.tx.frm != (cl : Int)) = false := by simp [hf]
        by_cases hz : x.e = 0
        · have hz1 : (x.e == 0) = true := by simp [hz]
          have hd' : doneF cl (E.take (k + 1)) = D + 1 := by rw [hds]; simp [isDone, hf, hz]
          have hg' : failF cl (E.take (k + 1)) = G := by rw [hfs]; simp [isFail, hz]
          have HD := Lib.hid hd'
          have HG := Lib.hid hg'
          clear hd' hg' hds hfs hf hz
          go_wp2_with fail
          generalize wr.alloc (.cells #[.int .i64 x.tx.frm, .int .i64 x.tx.to, .int .i64 x.tx.amount, .int .i64 x.tx.nonce, .string x.tx.sig, .int .i64 x.height, .int .i64 x.e] 101) = V at *
          go_roundw
          case rel =>
            refine GO3.out _ (D + 1) G ?_ (Kd.row_keep (Keeps.set hb' (Nat.le_refl _) (by decide) _) row') (bl_set belt (Nat.le_refl _) _) HD.out HG.out
            exact heap_setCell_same V w1.heap.size 3 _ 71 _ hb'
          case measure => simp [intOf]; omega
        · have hz1 : (x.e == 0) = false := by simp [hz]
          by_cases h73 : x.e = 73
          · have hz2 : (x.e == 73) = true := by simp [h73]
            have hd' : doneF cl (E.take (k + 1)) = D := by rw [hds]; simp [isDone, hz]
            have hg' : failF cl (E.take (k + 1)) = G + 1 := by rw [hfs]; simp [isFail, hf, h73]
            have HD := Lib.hid hd'
            have HG := Lib.hid hg'
            clear hd' hg' hds hfs hf hz h73
            go_wp2_with fail
            generalize wr.alloc (.cells #[.int .i64 x.tx.frm, .int .i64 x.tx.to, .int .i64 x.tx.amount, .int .i64 x.tx.nonce, .string x.tx.sig, .int .i64 x.height, .int .i64 x.e] 101) = V at *
            go_roundw
            case rel =>
              refine GO3.out _ D (G + 1) ?_ (Kd.row_keep (Keeps.set hb' (Nat.le_refl _) (by decide) _) row') (bl_set belt (Nat.le_refl _) _) HD.out HG.out
              exact heap_setCell_same V w1.heap.size 4 _ 71 _ hb'
            case measure => simp [intOf]; omega
          · have hz2 : (x.e == 73) = false := by simp [h73]
            have hd' : doneF cl (E.take (k + 1)) = D := by rw [hds]; simp [isDone, hz]
            have hg' : failF cl (E.take (k + 1)) = G := by rw [hfs]; simp [isFail, h73]
            have HD := Lib.hid hd'
            have HG := Lib.hid hg'
            clear hd' hg' hds hfs hf hz h73
            go_wp2_with fail
            generalize wr.alloc (.cells #[.int .i64 x.tx.frm, .int .i64 x.tx.to, .int .i64 x.tx.amount, .int .i64 x.tx.nonce, .string x.tx.sig, .int .i64 x.height, .int .i64 x.e] 101) = V at *
            go_roundw
            case rel => exact GO3.out _ D G hb' row' belt HD.out HG.out
            case measure => simp [intOf]; omega
      · have hf1 : (x.tx.frm != (cl : Int)) = true := by simp [hf]
        have hd' : doneF cl (E.take (k + 1)) = D := by rw [hds]; simp [isDone, hf]
        have hg' : failF cl (E.take (k + 1)) = G := by rw [hfs]; simp [isFail, hf]
        have HD := Lib.hid hd'
        have HG := Lib.hid hg'
        clear hd' hg' hds hfs hf
        go_wp2_with fail
        generalize wr.alloc (.cells #[.int .i64 x.tx.frm, .int .i64 x.tx.to, .int .i64 x.tx.amount, .int .i64 x.tx.nonce, .string x.tx.sig, .int .i64 x.height, .int .i64 x.e] 101) = V at *
        go_roundw
        case rel => exact GO3.out _ D G hb' row' belt HD.out HG.out
        case measure => simp [intOf]; omega
    · have hk : k = E.length := by omega
      subst hk
      rw [List.take_of_length_le (Nat.le_refl _)] at hb
      have y0 := block_cell hb (i := 0) rfl
      have y1 := block_cell hb (i := 1) rfl
      have y2 := block_cell hb (i := 2) rfl
      have y3 := block_cell hb (i := 3) rfl
      have y4 := block_cell hb (i := 4) rfl
      have hR := block_below (bl_trans b1 bel) b0
      have r0 := block_cell hR (i := 0) rfl
      have r1 := block_cell hR (i := 1) rfl
      have r2 := block_cell hR (i := 2) rfl
      have r3 := block_cell hR (i := 3) rfl
      have r4 := block_cell hR (i := 4) rfl
      have s0 := frozen_of_row wr w.heap.size 0 _ 71 hR
      have s1 := frozen_of_row wr w.heap.size 1 _ 71 hR
      have s2 := frozen_of_row wr w.heap.size 2 _ 71 hR
      have s3 := frozen_of_row wr w.heap.size 3 _ 71 hR
      have s4 := frozen_of_row wr w.heap.size 4 _ 71 hR
      go_wp2_with fail
      refine bodyPost_ret (v := .tuple #[.agg #[.int .i64 a.balance, .int .i64 a.nonce, .int .i64 (l.length : Int), .int .i64 (doneF cl E : Int), .int .i64 (failF cl E : Int)], .int .i64 0]) (by simp [results, Try.results32, go_sem, r0, r1, r2, r3, r4]) rfl ⟨rfl, ?_⟩
      have hq := bl_trans q0 (bl_trans b1 bel)
      repeat (first | exact hq | (refine bl_set ?_ (Nat.le_refl _) _))
theorem supply_calls (l : List Block) (A : Option Addr) (n c : Nat) (w : World) (B : Nat) (hn : n = l.length) (hl : l.length ≤ 2097152) (hT : txN l ≤ 2097152) (hr : kBlock.Row 79 B w A l) (hs : Small (foldF l).1) :
    Calls Try.prog 35 #[.slice A n c] w fun e w' => e = .returned (.int .i64 (totalF (foldF l).1)) ∧ Below w.heap.size w w' := by
  subst hn
  have hfl := fold_len l (genesisF, [])
  obtain ⟨F, hF⟩ : ∃ F, F = foldF l := ⟨_, rfl⟩
  have hf1 : F.1.length = 4 := by rw [hF]; show (foldG l (genesisF, [])).1.length = _; rw [hfl.1]; rfl
  rw [← hF] at hs ⊢
  have hf2 : F.1.length ≤ 1048576 := by omega
  have HF := Lib.hid hF
  clear hF hfl hf1
  go_enter Try.func35, Try.ntmps35
  go_wp2_with (first
    | (go_at_call 12; refine (fold_calls l A l.length c _ B rfl hl hT hr).mono ?_; rw [← HF.out]; rintro e w1 ⟨⟨v, ev, rfl, own1, oerr⟩, b1⟩; obtain ⟨Aa, ca, rfl, _, _, rowa, _⟩ := Kd.own_row own1)
    | (go_at_call 40; refine (total_calls F.1 Aa _ ca _ _ rfl hf2 rowa hs).mono ?_; rintro e w2 ⟨rfl, b2⟩))
  go_ret
  exact ⟨rfl, bl_trans b1 b2⟩
end Go.Proofs.Ytflfpfaebndefab
