/- Package mootlaw16: the walk of BankOnce. No claim of its own; no condition. -/
import Derived.Test.YtflfpfaebndefaaBankT
import Derived.Deep.RegionHeld3
namespace Go.Proofs.Ytflfpfaebndefaa
open Go.ChangeShapes Go.WideShapes Go.ChangeAt Go.RowKit
set_option linter.unusedVariables false
set_option linter.unusedSimpArgs false

theorem readyF_or (l : List Account) (t : Tx) : readyF l t = 0 ∨ readyF l t = 9 ∨ readyF l t = 72 := by
  unfold readyF
  split
  · split
    · split <;> simp
    · simp
  · simp
/-- What was done, or failed, is not done again. -/
theorem once_pure {l : List Account} {t : Tx} (h : readyF l t = 0) : ∃ (f : Nat) (a x : Account), t.frm = f ∧ f < l.length ∧ l[f]? = some a ∧ (applyF l t).1[f]? = some x ∧ x.nonce = a.nonce + 1 ∧ a.nonce ≤ 1099511627776 ∧ 0 ≤ a.nonce ∧
    ((applyF l t).2 = 0 ∨ (applyF l t).2 = 73) ∧ applyF (applyF l t).1 t = ((applyF l t).1, 72) := by
  obtain ⟨f, g, a, b, e1, e2, hfg, h1, h2, ha, hb, hno, hT⟩ := readyF_zero h
  have hT2 := hT
  unfold TxOk at hT2
  have hap : applyF l t = if a.balance < t.amount then (l.set f ⟨a.balance, a.nonce + 1⟩, 73) else ((l.set f ⟨a.balance - t.amount, a.nonce + 1⟩).set g ⟨wrap64 (b.balance + t.amount), b.nonce⟩, 0) := by
    unfold applyF
    rw [if_pos h, e1, e2]
    simp only [Int.toNat_natCast, ha, hb]
  have key : ∃ x : Account, (applyF l t).1[f]? = some x ∧ x.nonce = a.nonce + 1 := by
    rw [hap]
    split
    · exact ⟨⟨a.balance, a.nonce + 1⟩, by simp only; rw [List.getElem?_set_self h1], rfl⟩
    · exact ⟨⟨a.balance - t.amount, a.nonce + 1⟩, by simp only; rw [List.getElem?_set_ne (Ne.symm hfg), List.getElem?_set_self h1], rfl⟩
  obtain ⟨x, hx, hxn⟩ := key
  have hlen : (applyF l t).1.length = l.length := apply_len l t
  have hr : readyF (applyF l t).1 t = 72 := by
    unfold readyF
    rw [if_pos ⟨hT, by rw [hlen, e1]; omega, by rw [hlen, e2]; omega⟩, e1]
    simp only [Int.toNat_natCast, hx]
    rw [if_neg (by omega)]
  refine ⟨f, a, x, e1, h1, ha, hx, hxn, by omega, by omega, ?_, ?_⟩
  · rw [hap]; split <;> simp
  · have : applyF (applyF l t).1 t = ((applyF l t).1, readyF (applyF l t).1 t) := if_neg (by rw [hr]; decide)
    rw [this, hr]
theorem not_pure {l : List Account} {t : Tx} (h : readyF l t ≠ 0) : applyF l t = (l, readyF l t) := if_neg h
set_option maxHeartbeats 3200000 in
set_option maxRecDepth 100000 in
theorem bankonce_not (l : List Block) (t : Tx) (A : Option Addr) (c : Nat) (w : World) (hl : l.length ≤ 1048576) (hT : txN l ≤ 1048576) (hr : kBlock.Row 64 w.heap.size w A l) (hz : readyF (foldF l).1 t ≠ 0) :
    Calls Try.prog 14 #[.slice A l.length c, .agg #[.int .i64 t.frm, .int .i64 t.to, .int .i64 t.amount, .int .i64 t.nonce, .string t.sig]] w fun e w' => e = .returned (.bool true) ∧ Below w.heap.size w w' := by
  have hgF := good_fold l
  obtain ⟨F, hF⟩ : ∃ F, F = (foldF l).1 := ⟨_, rfl⟩
  rw [← hF] at hgF hz
  have hlen : F.length ≤ 1048576 := by rw [hgF.len]; omega
  have hap := not_pure hz
  have HF := Lib.hid hF
  have q0 := bl_alloc (Below.refl w.heap.size w) (.cells #[.int .i64 t.frm, .int .i64 t.to, .int .i64 t.amount, .int .i64 t.nonce, .string t.sig] 73)
  have b0 := alloc_new w (.cells #[.int .i64 t.frm, .int .i64 t.to, .int .i64 t.amount, .int .i64 t.nonce, .string t.sig] 73)
  generalize hW : w.alloc (.cells #[.int .i64 t.frm, .int .i64 t.to, .int .i64 t.amount, .int .i64 t.nonce, .string t.sig] 73) = W at *
  have HW := Lib.hid hW
  clear hF hW hgF
  rcases readyF_or F t with h | h | h
  · exact absurd h hz
  all_goals
    rw [h] at hap
    have HA := Lib.hid hap
    clear hap hz h
    go_enter Try.func14, Try.ntmps14
    go_upto_region 1 with fail
    rw [HW.out]
    go_wp2_with (first
      | (go_at_call 35; refine (alive16_calls _).mono ?_; rintro e w1 ⟨rfl, b1⟩; have b2 := bl_trans q0 b1)
      | (go_at_call 33; refine (fold_calls l A l.length c _ w.heap.size rfl (by omega) (by omega) (Kd.row_below b2 hr)).mono ?_; rw [← HF.out]; rintro e w3 ⟨⟨v3, ev3, rfl, own3, _⟩, b3⟩; have b4 := bl_trans b2 b3; obtain ⟨Aa, ca, rfl, _, _, rowa, _⟩ := Kd.own_row own3; have b13 := bl_trans b1 b3; have c0 := cell_below b13 (block_cell b0 (i := 0) rfl); have c1 := cell_below b13 (block_cell b0 (i := 1) rfl); have c2 := cell_below b13 (block_cell b0 (i := 2) rfl); have c3 := cell_below b13 (block_cell b0 (i := 3) rfl); have c4 := cell_below b13 (block_cell b0 (i := 4) rfl))
      | (go_at_call 36; first
          | (with_reducible refine (apply_calls F t Aa _ ca _ _ rfl hlen rowa).mono ?_; rw [HA.out]; rintro e w5 ⟨⟨v5, rfl, own5⟩, b5⟩; have b6 := bl_trans b4 b5; obtain ⟨Ab, cb, rfl, _, _, rowb, _⟩ := Kd.own_row own5; have d0 := cell_below b5 c0; have d1 := cell_below b5 c1; have d2 := cell_below b5 c2; have d3 := cell_below b5 c3; have d4 := cell_below b5 c4)
          | (with_reducible refine (apply_calls F t Ab _ cb _ _ rfl hlen rowb).mono ?_; rw [HA.out]; rintro e w7 ⟨⟨v7, rfl, own7⟩, b7⟩; have b8 := bl_trans b6 b7))
      | (go_at_call 37; refine (same_calls F F Aa Ab _ ca _ cb _ _ _ rfl rfl hlen (Kd.row_below (bl_trans b5 b7) rowa) (Kd.row_below b7 rowb)).mono ?_; rintro e w9 ⟨rfl, b9⟩; have b10 := bl_trans b8 b9))
    go_ret
    exact ⟨by simp, b10⟩
set_option maxHeartbeats 3200000 in
set_option maxRecDepth 100000 in
theorem bankonce_yes (l : List Block) (f : Nat) (to_ amount nonce : Int) (sig : ByteArray) (F G : List Account) (e : Int) (a x : Account) (A : Option Addr) (c : Nat) (w : World) (hl : l.length ≤ 1048576) (hT : txN l ≤ 1048576) (hr : kBlock.Row 64 w.heap.size w A l)
    (hF : F = (foldF l).1) (hlen : F.length ≤ 1048576) (hlen2 : G.length ≤ 1048576) (hG : applyF F ⟨f, to_, amount, nonce, sig⟩ = (G, e)) (hH : applyF G ⟨f, to_, amount, nonce, sig⟩ = (G, 72)) (he : e = 0 ∨ e = 73)
    (h1 : f < F.length) (h2 : f < G.length) (ha : F[f]? = some a) (hx : G[f]? = some x) (hxn : x.nonce = a.nonce + 1) (hn0 : 0 ≤ a.nonce) (hn1 : a.nonce ≤ 1099511627776) :
    Calls Try.prog 14 #[.slice A l.length c, .agg #[.int .i64 (f : Int), .int .i64 to_, .int .i64 amount, .int .i64 nonce, .string sig]] w fun e w' => e = .returned (.bool true) ∧ Below w.heap.size w w' := by
  have HF := Lib.hid hF
  have HG := Lib.hid hG
  have HH := Lib.hid hH
  have hd : (x.nonce == a.nonce + 1) = true := by simp [hxn]
  have h1I : (f : Int) < (F.length : Int) := by omega
  have h2I : (f : Int) < (G.length : Int) := by omega
  have sm : IntKind.i64.wrap (a.nonce + 1) = a.nonce + 1 := IntWalk.i64_in _ (by omega)
  have q0 := bl_alloc (Below.refl w.heap.size w) (.cells #[.int .i64 (f : Int), .int .i64 to_, .int .i64 amount, .int .i64 nonce, .string sig] 73)
  have b0 := alloc_new w (.cells #[.int .i64 (f : Int), .int .i64 to_, .int .i64 amount, .int .i64 nonce, .string sig] 73)
  generalize hW : w.alloc (.cells #[.int .i64 (f : Int), .int .i64 to_, .int .i64 amount, .int .i64 nonce, .string sig] 73) = W at *
  have HW := Lib.hid hW
  clear hF hW hG hH hxn hn0 hn1
  rcases he with rfl | rfl
  all_goals
    go_enter Try.func14, Try.ntmps14
    go_upto_region 1 with fail
    rw [HW.out]
    go_wp2_with (first
      | (go_at_call 35; refine (alive16_calls _).mono ?_; rintro e w1 ⟨rfl, b1⟩; have b2 := bl_trans q0 b1)
      | (go_at_call 33; refine (fold_calls l A l.length c _ w.heap.size rfl (by omega) (by omega) (Kd.row_below b2 hr)).mono ?_; rw [← HF.out]; rintro e w3 ⟨⟨v3, ev3, rfl, own3, _⟩, b3⟩; have b4 := bl_trans b2 b3; obtain ⟨Aa, ca, rfl, _, _, rowa, _⟩ := Kd.own_row own3; have b13 := bl_trans b1 b3; have c0 := cell_below b13 (block_cell b0 (i := 0) rfl); have c1 := cell_below b13 (block_cell b0 (i := 1) rfl); have c2 := cell_below b13 (block_cell b0 (i := 2) rfl); have c3 := cell_below b13 (block_cell b0 (i := 3) rfl); have c4 := cell_below b13 (block_cell b0 (i := 4) rfl))
      | (go_at_call 36; first
          | (with_reducible refine (apply_calls F ⟨f, to_, amount, nonce, sig⟩ Aa _ ca _ _ rfl hlen rowa).mono ?_; rw [HG.out]; rintro e w5 ⟨⟨v5, rfl, own5⟩, b5⟩; have b6 := bl_trans b4 b5; obtain ⟨Ab, cb, rfl, _, _, rowb, _⟩ := Kd.own_row own5; have d0 := cell_below b5 c0; have d1 := cell_below b5 c1; have d2 := cell_below b5 c2; have d3 := cell_below b5 c3; have d4 := cell_below b5 c4)
          | (with_reducible refine (apply_calls G ⟨f, to_, amount, nonce, sig⟩ Ab _ cb _ _ rfl hlen2 rowb).mono ?_; rw [HH.out]; rintro e w7 ⟨⟨v7, rfl, own7⟩, b7⟩; have b8 := bl_trans b6 b7; obtain ⟨Ac, cc, rfl, _, _, rowc, _⟩ := Kd.own_row own7; have k0 := held_cell (cell_below b7 d0); have rowa7 := Kd.row_below (bl_trans b5 b7) rowa; have rowb7 := Kd.row_below b7 rowb)))
    obtain ⟨ada, rfl, m0, m1, _⟩ := kAccount_at rowa7 ha
    obtain ⟨adb, rfl, n0, n1, _⟩ := kAccount_at rowb7 hx
    have k1 := held_cell m1
    have k2 := held_cell n1
    clear m0 m1 n0 n1 c0 c1 c2 c3 c4 d0 d1 d2 d3 d4 own3 own5 own7 rowa rowb
    go_region_held3 (fun w' => Below w7.heap.size w7 w') (first | exact Below.refl _ _ | (apply bl_drew; exact Below.refl _ _) | (refine bl_trans ?_ (by assumption); assumption)) ((go_at_call 37; with_reducible refine (same_calls G G _ _ _ _ _ _ _ _ _ rfl rfl hlen2 (Kd.row_below (by assumption) rowb7) (Kd.row_below (by assumption) rowc)).mono ?_; rintro e w' ⟨rfl, hb⟩))
    all_goals
      go_wp2_with fail
      go_ret
      exact ⟨by simp, bl_trans b8 (by assumption)⟩
theorem bankonce_walk (l : List Block) (t : Tx) (A : Option Addr) (c : Nat) (w : World) (hl : l.length ≤ 1048576) (hT : txN l ≤ 1048576) (hr : kBlock.Row 64 w.heap.size w A l) :
    Calls Try.prog 14 #[.slice A l.length c, .agg #[.int .i64 t.frm, .int .i64 t.to, .int .i64 t.amount, .int .i64 t.nonce, .string t.sig]] w fun e w' => e = .returned (.bool true) ∧ Below w.heap.size w w' := by
  by_cases hz : readyF (foldF l).1 t = 0
  · obtain ⟨f, a, x, e1, h1, ha, hx, hxn, hn1, hn0, he, hH⟩ := once_pure hz
    obtain ⟨frm, to_, amount, nonce, sig⟩ := t
    simp only at e1
    subst e1
    have h4 := (good_fold l).len
    have h5 := apply_len (foldF l).1 ⟨f, to_, amount, nonce, sig⟩
    exact bankonce_yes l f to_ amount nonce sig (foldF l).1 (applyF (foldF l).1 ⟨f, to_, amount, nonce, sig⟩).1 (applyF (foldF l).1 ⟨f, to_, amount, nonce, sig⟩).2 a x A c w hl hT hr rfl (by omega) (by omega) rfl hH he h1 (by omega) ha hx hxn hn0 hn1
  · exact bankonce_not l t A c w hl hT hr hz
end Go.Proofs.Ytflfpfaebndefaa
