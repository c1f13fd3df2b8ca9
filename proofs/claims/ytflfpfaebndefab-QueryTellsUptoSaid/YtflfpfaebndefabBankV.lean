/- Package mootlaw16: the walk of BankTells. No claim of its own; no condition. -/
import Derived.Test.YtflfpfaebndefabRef14B
import Derived.Deep.RegionHeld3
namespace Go.Proofs.Ytflfpfaebndefab
open Go.ChangeShapes Go.WideShapes Go.ChangeAt Go.RowKit
set_option linter.unusedVariables false
set_option linter.unusedSimpArgs false
theorem tx_bulk (t : Tx) : 1 ≤ kTx.bulk t := Nat.le_add_left 1 _
theorem block_bulk (b : Block) : b.txs.length + 1 ≤ kBlock.bulk b := by
  have h : ∀ l : List Tx, l.length ≤ (l.map kTx.bulk).sum := by
    intro l
    induction l with
    | nil => simp
    | cons t l ih =>
      have := tx_bulk t
      simp only [List.length_cons, List.map_cons, List.sum_cons]
      omega
  have h1 := h b.txs
  have e : kBlock.bulk b = 1 + (1 + ((b.parent.size + 1) + (kCert.bulk b.justify + (((b.txs.map kTx.bulk).sum + 1) + (b.sig.size + 1))))) + 1 := rfl
  omega
theorem blocks_bulk : ∀ l : List Block, txN l + l.length ≤ (l.map kBlock.bulk).sum
  | [] => by simp [txN]
  | b :: l => by
    have h1 := block_bulk b
    have h2 := blocks_bulk l
    simp only [txN, List.map_cons, List.sum_cons, List.length_cons] at *
    omega
theorem same_self (a : List Account) (A A' : Option Addr) (n c n' c' : Nat) (w : World) (B B' : Nat) (ha : n = a.length) (hb : n' = a.length) (hl : a.length ≤ 1048576) (hra : kAccount.Row 69 B w A a) (hrb : kAccount.Row 69 B' w A' a) :
    Calls Try.prog 14 #[.slice A n c, .slice A' n' c'] w fun e w' => e = .returned (.bool true) ∧ Below w.heap.size w w' := by
  have h := same_calls a a A A' n c n' c' w B B' ha hb hl hra hrb
  simpa using h
set_option maxHeartbeats 3200000 in
set_option maxRecDepth 100000 in
theorem banktells_walk (a : List Account) (t : Tx) (l : List Block) (txs : List Tx) (A A2 A3 : Option Addr) (c c2 c3 : Nat) (w : World) (ha : a.length ≤ 1048576) (hl : l.length ≤ 1048576) (hT : txN l ≤ 1048576) (hx : txs.length ≤ 1048576)
    (hra : kAccount.Row 69 w.heap.size w A a) (hrl : kBlock.Row 79 w.heap.size w A2 l) (hrx : kTx.Row 24 w.heap.size w A3 txs) :
    Calls Try.prog 3 #[.slice A a.length c, .agg #[.int .i64 t.frm, .int .i64 t.to, .int .i64 t.amount, .int .i64 t.nonce, .string t.sig], .slice A2 l.length c2, .slice A3 txs.length c3] w fun e w' => e = .returned (.bool true) ∧ Below w.heap.size w w' := by
  have hlen := fold_len l (genesisF, [])
  obtain ⟨F, hF⟩ : ∃ F, F = foldF l := ⟨_, rfl⟩
  have hf1 : F.1.length ≤ 1048576 := by rw [hF]; show (foldG l (genesisF, [])).1.length ≤ _; rw [hlen.1]; decide
  have hf2 : F.2.length ≤ 1048576 := by rw [hF]; show (foldG l (genesisF, [])).2.length ≤ _; rw [hlen.2]; simpa using hT
  obtain ⟨S, hS⟩ : ∃ S, S = applyF a t := ⟨_, rfl⟩
  have hs1 : S.1.length ≤ 1048576 := by rw [hS, apply_len]; exact ha
  have HF := Lib.hid hF
  have HS := Lib.hid hS
  clear hF hS hlen
  have q0 := bl_alloc (Below.refl w.heap.size w) (.cells #[.int .i64 t.frm, .int .i64 t.to, .int .i64 t.amount, .int .i64 t.nonce, .string t.sig] 24)
  have b0 := alloc_new w (.cells #[.int .i64 t.frm, .int .i64 t.to, .int .i64 t.amount, .int .i64 t.nonce, .string t.sig] 24)
  generalize hW : w.alloc (.cells #[.int .i64 t.frm, .int .i64 t.to, .int .i64 t.amount, .int .i64 t.nonce, .string t.sig] 24) = W at *
  have HW := Lib.hid hW
  clear hW
  have c0 := block_cell b0 (i := 0) rfl
  have c1 := block_cell b0 (i := 1) rfl
  have c2 := block_cell b0 (i := 2) rfl
  have c3 := block_cell b0 (i := 3) rfl
  have c4 := block_cell b0 (i := 4) rfl
  go_enter Try.func3, Try.ntmps3
  go_upto_region 1 with fail
  rw [HW.out]
  go_wp2_with (first
    | (go_at_call 10; refine (apply_calls a t A _ c _ _ rfl ha (Kd.row_below q0 hra)).mono ?_; rw [← HS.out]; rintro e w1 ⟨⟨v1, rfl, own1⟩, b1⟩; have b2 := bl_trans q0 b1; obtain ⟨Aa, ca, rfl, _, _, rowa, _⟩ := Kd.own_row own1; have d0 := cell_below b1 c0; have d1 := cell_below b1 c1; have d2 := cell_below b1 c2; have d3 := cell_below b1 c3; have d4 := cell_below b1 c4)
    | (go_at_call 11; refine (refapply_calls a t A _ c _ _ rfl ha (Kd.row_below b2 hra)).mono ?_; rw [← HS.out]; rintro e w3 ⟨⟨v3, rfl, own3⟩, b3⟩; have b4 := bl_trans b2 b3; obtain ⟨Ab, cb, rfl, _, _, rowb, _⟩ := Kd.own_row own3)
    | (go_at_call 12; refine (fold_calls l A2 l.length _ _ _ rfl (by omega) (by omega) (Kd.row_below b4 hrl)).mono ?_; rw [← HF.out]; rintro e w5 ⟨⟨v5, ev5, rfl, own5, oer5⟩, b5⟩; have b6 := bl_trans b4 b5; obtain ⟨Ac, cc, rfl, _, _, rowc, _⟩ := Kd.own_row own5; obtain ⟨Ae, ce, rfl, _, _, rowe, _⟩ := Kd.own_row oer5)
    | (go_at_call 13; refine (reffold_calls l A2 l.length _ _ _ rfl (by omega) (by omega) (Kd.row_below b6 hrl)).mono ?_; rw [← HF.out]; rintro e w7 ⟨⟨v7, ev7, rfl, own7, oer7⟩, b7⟩; have b8 := bl_trans b6 b7; obtain ⟨Ad, cd, rfl, _, _, rowd, _⟩ := Kd.own_row own7; obtain ⟨Af, cf, rfl, _, _, rowf, _⟩ := Kd.own_row oer7; have b57 := bl_trans b5 b7; have b37 := bl_trans b3 b57)
    | (go_at_call 14; first
        | (with_reducible refine (same_self S.1 Aa Ab _ ca _ cb _ _ _ rfl rfl hs1 (Kd.row_below b37 rowa) (Kd.row_below b57 rowb)).mono ?_; rintro e w9 ⟨rfl, b9⟩; have b10 := bl_trans b8 b9)
        | (with_reducible refine (same_self F.1 Ac Ad _ cc _ cd _ _ _ rfl rfl hf1 (Kd.row_below (bl_trans b7 b9) rowc) (Kd.row_below b9 rowd)).mono ?_; rintro e w11 ⟨rfl, b11⟩; have b12 := bl_trans b10 b11))
    | (go_at_call 15; refine (num16_calls _ _).mono ?_; rintro e w' ⟨rfl, rfl⟩))
  have b9' := bl_trans b9 b11
  have rowe' := Kd.row_below (bl_trans b7 b9') rowe
  have rowf' := Kd.row_below b9' rowf
  clear rowa rowb rowc rowd rowe rowf own1 own3 own5 own7 oer5 oer7 d0 d1 d2 d3 d4 c0 c1 c2 c3 c4 b0
  go_loopw [17] (fun kv w' => ∃ k : Nat, k ≤ F.2.length ∧ kv = .int .i64 k ∧ Below w11.heap.size w11 w') (fun kv _ => F.2.length - (intOf kv).toNat)
  case atStart => exact ⟨0, by omega, rfl, Below.refl _ _⟩
  case round =>
    obtain ⟨k, h1, rfl, bel⟩ := hrel
    by_cases h : k < F.2.length
    · obtain ⟨x, hxk⟩ : ∃ x, F.2[k]? = some x := ⟨_, List.getElem?_eq_getElem h⟩
      obtain ⟨ad, cs, rfl, _, hK, hc⟩ := Kd.row_at (Kd.row_below bel rowe') hxk
      obtain ⟨rfl, _⟩ := hK
      obtain ⟨ad', cs', rfl, _, hK', hc'⟩ := Kd.row_at (Kd.row_below bel rowf') hxk
      obtain ⟨rfl, _⟩ := hK'
      have e1 : wr.cell? (ad.add k) = some (.int .i64 x) := by simpa [Kd.int] using hc 0 _ rfl
      have e2 : wr.cell? (ad'.add k) = some (.int .i64 x) := by simpa [Kd.int] using hc' 0 _ rfl
      have hi : (k : Int) < (F.2.length : Int) := by omega
      have hd : (x != x) = false := by simp
      clear hc hc' hxk rowe' rowf'
      go_wp2_with fail
      go_quiet ((go_at_call 15; exact Calls.quiet_of_same (num16_calls _ _)))
      go_wp2_with fail
      go_roundw
      case rel => exact ⟨k + 1, by omega, by go_num, bl_drewN bel _⟩
      case measure => simp [intOf]; omega
    · have hk : k = F.2.length := by omega
      subst hk
      have b14 := bl_trans b12 bel
      have rowx := Kd.row_below b14 hra
      clear rowe' rowf'
      go_wp2_with fail
      go_loopw [18, 19, 20] (fun cv bv kv w' => ∃ (k : Nat) (Ak : Option Addr) (ck Bk : Nat), k ≤ txs.length ∧ kv = .int .i64 k ∧ cv = .bool (canS (txs.take k) (a, true)).2 ∧ bv = .slice Ak (canS (txs.take k) (a, true)).1.length ck ∧ kAccount.Row 69 Bk w' Ak (canS (txs.take k) (a, true)).1 ∧ Below wr.heap.size wr w') (fun _ _ kv _ => txs.length - (intOf kv).toNat)
      case atStart => exact ⟨0, A, c, _, by omega, rfl, rfl, rfl, rowx, Below.refl _ _⟩
      case round =>
        obtain ⟨k, Ak, ck, Bk, h1, rfl, rfl, rfl, rowk, bel2⟩ := hrel
        by_cases h : k < txs.length
        · obtain ⟨t', ht⟩ : ∃ t', txs[k]? = some t' := ⟨_, List.getElem?_eq_getElem h⟩
          obtain ⟨ad, rfl, f0, f1, f2, f3, f4, _⟩ := kTx_at (Kd.row_below (bl_trans b14 bel2) hrx) ht
          have hst := canS_step ht (a, true)
          have hln := canS_len (txs.take k) (a, true)
          generalize canS (txs.take k) (a, true) = T at *
          obtain ⟨L, bb⟩ := T
          have hk1 : L.length ≤ 1048576 := by rw [show L.length = a.length from hln]; exact ha
          obtain ⟨M, e, hM⟩ : ∃ M e, applyF L t' = (M, e) := ⟨_, _, rfl⟩
          have hst2 : canS (txs.take (k + 1)) (a, true) = (M, bb && (e != 9) && (e != 72)) := by
            rw [hst]; simp [canStep, hM]
          have HM := Lib.hid hM
          clear hst hln ht hM
          have fin : ∀ (b' : Bool), (bb && (e != 9) && (e != 72)) = b' → canS (txs.take (k + 1)) (a, true) = (M, b') := fun b' h => h ▸ hst2
          clear hst2
          cases bb
          · have HX := Lib.hid (fin false (by simp))
            clear fin
            go_wp2_with (go_at_call 11; refine (refapply_calls L t' Ak _ ck _ Bk rfl hk1 rowk).mono ?_; rw [HM.out]; rintro e w13 ⟨⟨v13, rfl, own13⟩, b13⟩; have bel3 := bl_trans bel2 b13; obtain ⟨Am, cm, rfl, _, _, rowm, _⟩ := Kd.own_row own13)
            go_roundw
            case rel => exact ⟨k + 1, Am, cm, _, by omega, by go_num, by rw [HX.out], by rw [HX.out], by rw [HX.out]; exact rowm, bel3⟩
            case measure => simp [intOf]; omega
          · by_cases h9 : e = 9
            · subst h9
              have HX := Lib.hid (fin false (by simp))
              clear fin
              go_wp2_with (go_at_call 11; refine (refapply_calls L t' Ak _ ck _ Bk rfl hk1 rowk).mono ?_; rw [HM.out]; rintro e w13 ⟨⟨v13, rfl, own13⟩, b13⟩; have bel3 := bl_trans bel2 b13; obtain ⟨Am, cm, rfl, _, _, rowm, _⟩ := Kd.own_row own13)
              go_roundw
              case rel => exact ⟨k + 1, Am, cm, _, by omega, by go_num, by rw [HX.out], by rw [HX.out], by rw [HX.out]; exact rowm, bel3⟩
              case measure => simp [intOf]; omega
            · have d9 : (e != 9) = true := by simp [h9]
              by_cases h72 : e = 72
              · subst h72
                have HX := Lib.hid (fin false (by simp))
                clear fin
                go_wp2_with (go_at_call 11; refine (refapply_calls L t' Ak _ ck _ Bk rfl hk1 rowk).mono ?_; rw [HM.out]; rintro e w13 ⟨⟨v13, rfl, own13⟩, b13⟩; have bel3 := bl_trans bel2 b13; obtain ⟨Am, cm, rfl, _, _, rowm, _⟩ := Kd.own_row own13)
                go_roundw
                case rel => exact ⟨k + 1, Am, cm, _, by omega, by go_num, by rw [HX.out], by rw [HX.out], by rw [HX.out]; exact rowm, bel3⟩
                case measure => simp [intOf]; omega
              · have d72 : (e != 72) = true := by simp [h72]
                have HX := Lib.hid (fin true (by simp [h9, h72]))
                clear fin h9 h72
                go_wp2_with (go_at_call 11; refine (refapply_calls L t' Ak _ ck _ Bk rfl hk1 rowk).mono ?_; rw [HM.out]; rintro e w13 ⟨⟨v13, rfl, own13⟩, b13⟩; have bel3 := bl_trans bel2 b13; obtain ⟨Am, cm, rfl, _, _, rowm, _⟩ := Kd.own_row own13)
                go_roundw
                case rel => exact ⟨k + 1, Am, cm, _, by omega, by go_num, by rw [HX.out], by rw [HX.out], by rw [HX.out]; exact rowm, bel3⟩
                case measure => simp [intOf]; omega
        · have hk : k = txs.length := by omega
          subst hk
          rw [List.take_of_length_le (Nat.le_refl _)]
          have b15 := bl_trans b14 bel2
          go_wp2_with (first
            | (go_at_call 16; refine (next_calls a txs A A3 _ _ _ _ _ _ _ rfl rfl ha hx (Kd.row_below b15 hra) (Kd.row_below b15 hrx)).mono ?_; rintro e w17 ⟨rfl, b17⟩; have b18 := bl_trans b15 b17)
            | (go_at_call 17; refine (alive16_calls _).mono ?_; rintro e w19 ⟨rfl, b19⟩; have b20 := bl_trans b18 b19))
          go_ret
          exact ⟨by simp, b20⟩
end Go.Proofs.Ytflfpfaebndefab
