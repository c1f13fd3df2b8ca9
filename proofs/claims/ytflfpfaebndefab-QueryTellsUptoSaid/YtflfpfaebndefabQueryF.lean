/- Package query: Find. No claim of its own; no condition. -/
import Derived.Test.YtflfpfaebndefabQueryW
namespace Go.Proofs.Ytflfpfaebndefab
open Go.ChangeShapes Go.WideShapes Go.ChangeAt Go.RowKit
set_option linter.unusedVariables false
set_option linter.unusedSimpArgs false
def resF : Option Entry → Int × Int × Bool
  | some x => (x.height, x.e, true)
  | none => (0, 0, false)
theorem eq_bare (x t : Tx) (w : World) : (binOp .eql 24 (.agg #[.int .i64 x.frm, .int .i64 x.to, .int .i64 x.amount, .int .i64 x.nonce, .string ⟨#[]⟩]) (.agg #[.int .i64 t.frm, .int .i64 t.to, .int .i64 t.amount, .int .i64 t.nonce, .string ⟨#[]⟩])).run Try.prog w = .ok (.bool (decide (bareT x = bareT t))) w :=
  eqlTx (bareT x) (bareT t) w
set_option maxHeartbeats 3200000 in
set_option maxRecDepth 100000 in
theorem find_calls (l : List Block) (t : Tx) (A : Option Addr) (n c : Nat) (w : World) (B : Nat) (hn : n = l.length) (hl : l.length ≤ 2097152) (hT : txN l ≤ 2097152) (hr : kBlock.Row 79 B w A l) :
    Calls Try.prog 33 #[.slice A n c, .agg #[.int .i64 t.frm, .int .i64 t.to, .int .i64 t.amount, .int .i64 t.nonce, .string t.sig]] w
      fun e w' => e = .returned (.tuple #[.int .i64 (resF (findF (entsF l) t)).1, .int .i64 (resF (findF (entsF l) t)).2.1, .bool (resF (findF (entsF l) t)).2.2]) ∧ Below w.heap.size w w' := by
  subst hn
  obtain ⟨E, hE⟩ : ∃ E, E = entsF l := ⟨_, rfl⟩
  rw [← hE]
  have hlen : E.length = txN l := by rw [hE]; show (entG _ l 0 []).length = _; rw [entG_len]; simp
  have hEl : E.length ≤ 2097152 := by omega
  have HE := Lib.hid hE
  clear hE hlen
  have q0 := bl_alloc (Below.refl w.heap.size w) (.cells #[.int .i64 t.frm, .int .i64 t.to, .int .i64 t.amount, .int .i64 t.nonce, .string t.sig] 24)
  have b0 := alloc_new w (.cells #[.int .i64 t.frm, .int .i64 t.to, .int .i64 t.amount, .int .i64 t.nonce, .string t.sig] 24)
  generalize hW : w.alloc (.cells #[.int .i64 t.frm, .int .i64 t.to, .int .i64 t.amount, .int .i64 t.nonce, .string t.sig] 24) = W at *
  have HW := Lib.hid hW
  clear hW
  go_enter Try.func33, Try.ntmps33
  go_upto_region 1 with fail
  rw [HW.out]
  go_wp2_with (go_at_call 52; refine (entries_calls l A l.length c _ B rfl hl hT (Kd.row_below q0 hr)).mono ?_; rw [← HE.out]; rintro e w1 ⟨⟨v, rfl, own⟩, b1⟩; obtain ⟨Ao, co, rfl, _, _, row, _⟩ := Kd.own_row own)
  clear own
  go_loopw [12] (fun kv w' => ∃ k : Nat, k ≤ E.length ∧ kv = .int .i64 k ∧ findF (E.take k) t = none ∧ Below w1.heap.size w1 w') (fun kv _ => E.length - (intOf kv).toNat)
  case atStart => exact ⟨0, by omega, rfl, by simp [findF], Below.refl _ _⟩
  case round =>
    obtain ⟨k, h1, rfl, hno, bel⟩ := hrel
    by_cases h : k < E.length
    · obtain ⟨x, hx⟩ : ∃ x, E[k]? = some x := ⟨_, List.getElem?_eq_getElem h⟩
      obtain ⟨ad, rfl, e0, e1, e2, e3, e4, e5, e6, _⟩ := kEntry_at (Kd.row_below bel row) hx
      have bt := bl_alloc (Below.refl wr.heap.size wr) (.cells #[.int .i64 x.tx.frm, .int .i64 x.tx.to, .int .i64 x.tx.amount, .int .i64 x.tx.nonce, .string x.tx.sig, .int .i64 x.height, .int .i64 x.e] 101)
      have bb := alloc_new wr (.cells #[.int .i64 x.tx.frm, .int .i64 x.tx.to, .int .i64 x.tx.amount, .int .i64 x.tx.nonce, .string x.tx.sig, .int .i64 x.height, .int .i64 x.e] 101)
      have b0v := bl_trans (bl_trans b1 bel) bt
      have heq := eq_bare x.tx t
      have belt := bl_trans bel bt
      by_cases hxt : isT t x = true
      · have hd : decide (bareT x.tx = bareT t) = true := hxt
        rw [hd] at heq
        have hf := find_here hx hno hxt
        have HF := Lib.hid hf
        clear hf hxt hx hno hd
        go_wp2_with fail
        generalize wr.alloc (.cells #[.int .i64 x.tx.frm, .int .i64 x.tx.to, .int .i64 x.tx.amount, .int .i64 x.tx.nonce, .string x.tx.sig, .int .i64 x.height, .int .i64 x.e] 101) = V at *
        have k0 := held_cell (block_cell bb (i := 0) rfl)
        have k1 := held_cell (block_cell bb (i := 1) rfl)
        have k2 := held_cell (block_cell bb (i := 2) rfl)
        have k3 := held_cell (block_cell bb (i := 3) rfl)
        have k4 := held_cell (block_cell bb (i := 4) rfl)
        have k5 := held_cell (block_cell bb (i := 5) rfl)
        have k6 := held_cell (block_cell bb (i := 6) rfl)
        have m0 := held_cell (cell_below b0v (block_cell b0 (i := 0) rfl))
        have m1 := held_cell (cell_below b0v (block_cell b0 (i := 1) rfl))
        have m2 := held_cell (cell_below b0v (block_cell b0 (i := 2) rfl))
        have m3 := held_cell (cell_below b0v (block_cell b0 (i := 3) rfl))
        have m4 := held_cell (cell_below b0v (block_cell b0 (i := 4) rfl))
        clear e0 e1 e2 e3 e4 e5 e6 bb
        go_region_held3 (fun w' => Below V.heap.size V w') (repeat (first | exact Below.refl _ _ | assumption | apply bl_drew | apply bl_alloc | (refine bl_trans ?_ (by assumption)))) ((go_at_call 53; with_reducible refine (bare_calls _ _ _ _ _ _).mono ?_; rintro e w' ⟨rfl, hb⟩))
        all_goals
          go_wp2_with fail
          go_quiet (fail)
          go_wp2_with fail
          refine bodyPost_ret (v := .tuple #[.int .i64 x.height, .int .i64 x.e, .bool true]) (by simp [results, Try.results33, go_sem]) rfl ⟨by rw [HF.out]; rfl, bl_drewN (bl_trans q0 (bl_trans b1 (bl_trans belt (by assumption)))) _⟩
      · have hd : decide (bareT x.tx = bareT t) = false := by simpa [isT] using hxt
        rw [hd] at heq
        have hf := find_step hx hno (by simpa using hxt)
        have HF := Lib.hid hf
        clear hf hxt hx hno hd
        go_wp2_with fail
        generalize wr.alloc (.cells #[.int .i64 x.tx.frm, .int .i64 x.tx.to, .int .i64 x.tx.amount, .int .i64 x.tx.nonce, .string x.tx.sig, .int .i64 x.height, .int .i64 x.e] 101) = V at *
        have k0 := held_cell (block_cell bb (i := 0) rfl)
        have k1 := held_cell (block_cell bb (i := 1) rfl)
        have k2 := held_cell (block_cell bb (i := 2) rfl)
        have k3 := held_cell (block_cell bb (i := 3) rfl)
        have k4 := held_cell (block_cell bb (i := 4) rfl)
        have m0 := held_cell (cell_below b0v (block_cell b0 (i := 0) rfl))
        have m1 := held_cell (cell_below b0v (block_cell b0 (i := 1) rfl))
        have m2 := held_cell (cell_below b0v (block_cell b0 (i := 2) rfl))
        have m3 := held_cell (cell_below b0v (block_cell b0 (i := 3) rfl))
        have m4 := held_cell (cell_below b0v (block_cell b0 (i := 4) rfl))
        clear e0 e1 e2 e3 e4 e5 e6 bb
        go_region_held3 (fun w' => Below V.heap.size V w') (repeat (first | exact Below.refl _ _ | assumption | apply bl_drew | apply bl_alloc | (refine bl_trans ?_ (by assumption)))) ((go_at_call 53; with_reducible refine (bare_calls _ _ _ _ _ _).mono ?_; rintro e w' ⟨rfl, hb⟩))
        all_goals
          go_wp2_with fail
          go_roundw
          case rel => exact ⟨k + 1, by omega, by go_num, HF.out, bl_trans belt (by assumption)⟩
          case measure => simp [intOf]; omega
    · have hk : k = E.length := by omega
      subst hk
      rw [List.take_of_length_le (Nat.le_refl _)] at hno
      have HN := Lib.hid hno
      clear hno
      go_wp2_with fail
      refine bodyPost_ret (v := .tuple #[.int .i64 0, .int .i64 0, .bool false]) (by simp [results, Try.results33, go_sem]) rfl ⟨by rw [HN.out]; rfl, bl_trans q0 (bl_trans b1 bel)⟩
end Go.Proofs.Ytflfpfaebndefab
