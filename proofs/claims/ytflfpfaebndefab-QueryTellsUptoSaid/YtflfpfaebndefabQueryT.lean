/- Package mootlaw28: the walk of QueryTells. No claim of its own; no condition. -/
import Derived.Test.YtflfpfaebndefabQueryL
import Derived.Test.YtflfpfaebndefabBankG
namespace Go.Proofs.Ytflfpfaebndefab
open Go.ChangeShapes Go.WideShapes Go.ChangeAt Go.RowKit
set_option linter.unusedVariables false
set_option linter.unusedSimpArgs false
theorem eqlAnswer_self (b n h d f : Int) (w : World) : (binOp .eql 71 (.agg #[.int .i64 b, .int .i64 n, .int .i64 h, .int .i64 d, .int .i64 f]) (.agg #[.int .i64 b, .int .i64 n, .int .i64 h, .int .i64 d, .int .i64 f])).run Try.prog w = .ok (.bool true) w := by
  have e : (((b == b) && ((n == n) && true)) && ((h == h) && ((d == d) && ((f == f) && true)))) = true := by simp
  rw [← e]
  exact eql_of Try.underlying71 (by kernel_rfl) (eqf_cons (by rfl) (by go_simp; rfl) (by go_simp; rfl) (eq_of (d := 9998) Try.underlying69 (by kernel_rfl) (eqf_cons (by rfl) (by go_simp; rfl) (by go_simp; rfl) (by go_simp) (eqf_cons (by rfl) (by go_simp; rfl) (by go_simp; rfl) (by go_simp) eqf_nil)))
    (eqf_cons (by rfl) (by go_simp; rfl) (by go_simp; rfl) (by go_simp) (eqf_cons (by rfl) (by go_simp; rfl) (by go_simp; rfl) (by go_simp) (eqf_cons (by rfl) (by go_simp; rfl) (by go_simp; rfl) (by go_simp) eqf_nil))))
theorem num28_calls (n : Int) (w : World) : Calls Try.prog 34 #[.int .i64 n] w fun e w' => e = .returned (.int .i64 n) ∧ w' = w := by
  go_enter Try.func34, Try.ntmps34
  go_wp2_with fail
  go_ret
  exact ⟨rfl, rfl⟩
theorem sig_eq (x t : Tx) (w : World) : (binOp .eql 24 (.agg #[.int .i64 x.frm, .int .i64 x.to, .int .i64 x.amount, .int .i64 x.nonce, .string t.sig]) (.agg #[.int .i64 t.frm, .int .i64 t.to, .int .i64 t.amount, .int .i64 t.nonce, .string t.sig])).run Try.prog w = .ok (.bool (decide (bareT x = bareT t))) w := by
  have h := eqlTx ⟨x.frm, x.to, x.amount, x.nonce, t.sig⟩ t w
  have e : decide ((⟨x.frm, x.to, x.amount, x.nonce, t.sig⟩ : Tx) = t) = decide (bareT x = bareT t) := by
    cases x; cases t
    simp [bareT]
  rw [e] at h
  exact h
/-- What is found, one entry further. -/
theorem res_snoc (E : List Entry) (t : Tx) (y : Entry) : resF (findF (E ++ [y]) t) = if (resF (findF E t)).2.2 then resF (findF E t) else if isT t y then (y.height, y.e, true) else (0, 0, false) := by
  rw [findF, List.find?_append, ← findF]
  cases findF E t with
  | some x => rfl
  | none =>
    by_cases h : isT t y = true
    · simp [h, resF]
    · simp [h, resF]
theorem res_none (E : List Entry) (t : Tx) (h : (resF (findF E t)).2.2 = false) : resF (findF E t) = (0, 0, false) := by
  cases hf : findF E t with
  | none => rfl
  | some x => rw [hf] at h; simp [resF] at h
theorem done_snoc (c : Int) (E : List Entry) (y : Entry) : doneF c (E ++ [y]) = doneF c E + (if isDone c y then 1 else 0) := countP_snoc _ _ _
theorem fail_snoc (c : Int) (E : List Entry) (y : Entry) : failF c (E ++ [y]) = failF c E + (if isFail c y then 1 else 0) := countP_snoc _ _ _
/-- The relation of the loops: what holds of the entries so far. -/
def QRel (cl : Int) (t : Tx) (w3 : World) (T : List Entry) (hv ev fv nv : Value) (w' : World) : Prop :=
  hv = .int .i64 (resF (findF T t)).1 ∧ ev = .int .i64 (resF (findF T t)).2.1 ∧ fv = .bool (resF (findF T t)).2.2 ∧ nv = .int .i64 (T.length : Int) ∧
  w'.heap[w3.heap.size]? = some (.cells #[.int .i64 0, .int .i64 0, .int .i64 0, .int .i64 (doneF cl T : Int), .int .i64 (failF cl T : Int)] 71) ∧ Below w3.heap.size w3 w'
set_option maxHeartbeats 20000000 in
set_option maxRecDepth 100000 in
theorem querytells_walk (l : List Block) (cl : Int) (t : Tx) (A : Option Addr) (c : Nat) (w : World) (hl : l.length ≤ 1048576) (hT : txN l ≤ 1048576) (hr : kBlock.Row 79 w.heap.size w A l) :
    Calls Try.prog 9 #[.slice A l.length c, .int .i64 cl, .agg #[.int .i64 t.frm, .int .i64 t.to, .int .i64 t.amount, .int .i64 t.nonce, .string t.sig]] w fun e w' => e = .returned (.bool true) ∧ Below w.heap.size w w' := by
  have hgood := good_fold l
  have hfl := fold_len l (genesisF, [])
  obtain ⟨F, hF⟩ : ∃ F, F = foldF l := ⟨_, rfl⟩
  rw [← hF] at hgood
  have hsm := hgood.small
  have htot := hgood.tot
  have hf1 : F.1.length = 4 := hgood.len
  have hf2 : F.2.length = txN l := by rw [hF]; show (foldG l (genesisF, [])).2.length = _; simpa using hfl.2
  have hE : entsF l = entG F.2 l 0 [] := by rw [hF]; rfl
  have hlenE : (entsF l).length ≤ 1048576 := by show (entG _ l 0 []).length ≤ _; rw [entG_len]; simpa using hT
  have HF := Lib.hid hF
  have HE := Lib.hid hE
  have HF1 := Lib.hid hf1
  have HF2 := Lib.hid hf2
  have HTOT := Lib.hid htot
  have HSM := Lib.hid hsm
  have HLE := Lib.hid hlenE
  clear hF hE hfl hf1 hf2 hgood hsm htot hlenE
  have q0 := bl_alloc (Below.refl w.heap.size w) (.cells #[.int .i64 t.frm, .int .i64 t.to, .int .i64 t.amount, .int .i64 t.nonce, .string t.sig] 24)
  have b0 := alloc_new w (.cells #[.int .i64 t.frm, .int .i64 t.to, .int .i64 t.amount, .int .i64 t.nonce, .string t.sig] 24)
  generalize hW : w.alloc (.cells #[.int .i64 t.frm, .int .i64 t.to, .int .i64 t.amount, .int .i64 t.nonce, .string t.sig] 24) = W at *
  have HW := Lib.hid hW
  clear hW
  go_enter Try.func9, Try.ntmps9
  go_upto_region 1 with fail
  rw [HW.out]
  go_upto_region 4 with (first
    | (go_at_call 31; refine (alive28_calls _).mono ?_; rintro e w1 ⟨rfl, b1⟩; have b2 := bl_trans q0 b1)
    | (go_at_call 13; refine (reffold_calls l A l.length c _ _ rfl (by omega) (by omega) (Kd.row_below b2 hr)).mono ?_; rw [← HF.out]; rintro e w3 ⟨⟨v3, ev3, rfl, own3, oer3⟩, b3⟩; obtain ⟨Aa, ca, rfl, _, _, rowa, _⟩ := Kd.own_row own3; obtain ⟨Ae, ce, rfl, _, _, rowe, _⟩ := Kd.own_row oer3))
  have b4 := bl_trans b2 b3
  have hb3 := block_below (bl_trans b1 b3) b0
  have bx := bl_alloc (Below.refl w3.heap.size w3) (.cells #[.int .i64 0, .int .i64 0, .int .i64 0, .int .i64 0, .int .i64 0] 71)
  have hbx := alloc_new w3 (.cells #[.int .i64 0, .int .i64 0, .int .i64 0, .int .i64 0, .int .i64 0] 71)
  clear own3 oer3
  go_upto_region 5 with fail
  generalize w3.alloc (.cells #[.int .i64 0, .int .i64 0, .int .i64 0, .int .i64 0, .int .i64 0] 71) = V3 at *
  go_wp2_with fail
  go_loopw [10, 11, 12, 13, 14] (fun hv ev fv nv kv w' => ∃ k : Nat, k ≤ l.length ∧ kv = .int .i64 k ∧ QRel cl t w3 (entG F.2 (l.take k) 0 []) hv ev fv nv w') (fun _ _ _ _ kv _ => l.length - (intOf kv).toNat)
  case atStart => exact ⟨0, by omega, rfl, rfl, rfl, rfl, rfl, hbx, bx⟩
  case round =>
    clear hbx bx
    obtain ⟨k, h1, rfl, hq⟩ := hrel
    by_cases h : k < l.length
    · obtain ⟨b, hb⟩ : ∃ b, l[k]? = some b := ⟨_, List.getElem?_eq_getElem h⟩
      obtain ⟨ad, rfl, A6, c6, A7, c7, e0, e1, e2, e3, e4, e5, e6, e7, e8, hcond⟩ := kBlock_at (Kd.row_below b4 hr) hb
      obtain ⟨_, _, _, _, _, _, _, _, _, hl7, hm7, hr7, _⟩ := hcond
      have hstep := entG_step F.2 hb 0 []
      rw [Nat.zero_add] at hstep
      have hN := txN_step hb
      have hlen := entG_len F.2 (l.take k) 0 []
      generalize entG F.2 (l.take k) 0 [] = S at *
      have hg2 : S.length + b.txs.length ≤ F.2.length := by rw [hlen, HF2.out]; simp only [List.length_nil]; omega
      have hg3 : F.2.length ≤ 1048576 := by rw [HF2.out]; exact hT
      have HST := Lib.hid hstep
      obtain ⟨rfl, rfl, rfl, rfl, hblk, bel⟩ := hq
      have e7' := cell_below bel e7
      clear hstep hN hlen hb e0 e1 e2 e3 e4 e5 e6 e8
      have smk : IntKind.i64.wrap ((k : Int) + 1) = (k : Int) + 1 := IntWalk.i64_in _ (by omega)
      have hkI : ((k : Int) + 1) = (((k : Nat) : Int) + 1) := rfl
      clear hkI
      go_wp2_with fail
      go_loopw [10, 11, 12, 13, 15] (fun hv ev fv nv kv w' => ∃ j : Nat, j ≤ b.txs.length ∧ kv = .int .i64 j ∧ QRel cl t w3 (entT F.2 k (b.txs.take j) S) hv ev fv nv w') (fun _ _ _ _ kv _ => b.txs.length - (intOf kv).toNat)
      case atStart => exact ⟨0, by omega, rfl, rfl, rfl, rfl, rfl, hblk, bel⟩
      case round =>
        clear hblk bel e7'
        obtain ⟨j, g1, rfl, hq⟩ := hrel
        by_cases hj : j < b.txs.length
        · obtain ⟨t', ht⟩ : ∃ t', b.txs[j]? = some t' := ⟨_, List.getElem?_eq_getElem hj⟩
          have hst := entT_step F.2 k ht S
          have hlen := entT_len F.2 k (b.txs.take j) S
          generalize entT F.2 k (b.txs.take j) S = T at *
          have hTl : T.length < F.2.length := by rw [hlen, List.length_take]; omega
          obtain ⟨rfl, rfl, rfl, rfl, hblk, bel⟩ := hq
          have e7' := cell_below bel e7
          obtain ⟨ad7, rfl, f0, f1, f2, f3, f4, hcd⟩ := kTx_at (Kd.row_below bel hr7) ht
          obtain ⟨x, hx⟩ : ∃ x, F.2[T.length]? = some x := ⟨_, List.getElem?_eq_getElem hTl⟩
          have hgd : F.2.getD T.length 0 = x := by simp [List.getD, hx]
          rw [hgd] at hst
          obtain ⟨ade, cse, rfl, hlte, hKe, hce⟩ := Kd.row_at rowe hx
          obtain ⟨rfl, _⟩ := hKe
          have ee1 : w3.cell? (ade.add T.length) = some (.int .i64 x) := by simpa [Kd.int] using hce 0 _ rfl
          have hTI : (T.length : Int) < (F.2.length : Int) := by omega
          have hd0 := doneF_le cl T
          have hg0 := failF_le cl T
          have bt := bl_alloc (Below.refl wr.heap.size wr) (.cells #[.int .i64 t'.frm, .int .i64 t'.to, .int .i64 t'.amount, .int .i64 t'.nonce, .string t'.sig] 24)
          have bb := alloc_new wr (.cells #[.int .i64 t'.frm, .int .i64 t'.to, .int .i64 t'.amount, .int .i64 t'.nonce, .string t'.sig] 24)
          have belt := bl_trans bel bt
          have hb' := block_below bt hblk
          have ee := cell_below belt ee1
          have htb := block_below belt hb3
          have hne : w3.heap.size ≠ wr.heap.size := by have := blk_lt hblk; omega
          have hne2 : w.heap.size ≠ w3.heap.size := by have := blk_lt hb3; omega
          have hne3 : w.heap.size ≠ wr.heap.size := by have := blk_lt hb3; have := bel.size; omega
          have hne4 : (ade.add T.length).block ≠ w3.heap.size := by rw [block_of_add]; omega
          have hne5 : (ade.add T.length).block ≠ wr.heap.size := by rw [block_of_add]; have := bel.size; omega
          have hnew : Value.int .i64 ((T.length : Int) + 1) = .int .i64 ((T ++ [(⟨t', (k : Int) + 1, x⟩ : Entry)]).length : Int) := by simp
          have hresn := res_snoc T t ⟨t', (k : Int) + 1, x⟩
          have hrn := res_none T t
          have hdn := done_snoc cl T ⟨t', (k : Int) + 1, x⟩
          have hfn := fail_snoc cl T ⟨t', (k : Int) + 1, x⟩
          have hsig := sig_eq t' t
          obtain ⟨H, Ev, f, hres⟩ : ∃ H Ev f, resF (findF T t) = (H, Ev, f) := ⟨_, _, _, rfl⟩
          rw [hres] at hresn hrn ⊢
          generalize hD : doneF cl T = D at *
          generalize hG : failF cl T = G at *
          have hiT : isT t ⟨t', (k : Int) + 1, x⟩ = decide (bareT t' = bareT t) := rfl
          rw [hiT] at hresn
          generalize decide (bareT t' = bareT t) = bq at *
          have HS := Lib.hid hst
          have HNEW := Lib.hid hnew
          -- the ways: which count rises; whether it is the one; whether one was found
          have hcnt : ∃ D' G' : Nat, doneF cl (T ++ [⟨t', (k : Int) + 1, x⟩]) = D' ∧ failF cl (T ++ [⟨t', (k : Int) + 1, x⟩]) = G' ∧
              (((t'.frm == cl) = false ∧ D' = D ∧ G' = G) ∨ ((t'.frm == cl) = true ∧ (x == 0) = true ∧ (x == 73) = false ∧ D' = D + 1 ∧ G' = G) ∨ ((t'.frm == cl) = true ∧ (x == 0) = false ∧ (x == 73) = true ∧ D' = D ∧ G' = G + 1) ∨ ((t'.frm == cl) = true ∧ (x == 0) = false ∧ (x == 73) = false ∧ D' = D ∧ G' = G)) := by
            refine ⟨_, _, hdn, hfn, ?_⟩
            by_cases p1 : t'.frm = cl
            · by_cases p2 : x = 0
              · right; left; simp [p1, p2, isDone, isFail]
              · by_cases p3 : x = 73
                · right; right; left; simp [p1, p3, isDone, isFail]
                · right; right; right; simp [p1, p2, p3, isDone, isFail]
            · left; simp [p1, isDone, isFail]
          have hres2 : ∃ r, resF (findF (T ++ [⟨t', (k : Int) + 1, x⟩]) t) = r ∧ ((f = true ∧ r = (H, Ev, true)) ∨ (f = false ∧ bq = true ∧ r = ((k : Int) + 1, x, true)) ∨ (f = false ∧ bq = false ∧ H = 0 ∧ Ev = 0 ∧ r = (0, 0, false))) := by
            refine ⟨_, hresn, ?_⟩
            cases f
            · have hz := hrn rfl
              injection hz with hz1 hz2
              injection hz2 with hz2 hz3
              cases bq
              · right; right; exact ⟨rfl, rfl, hz1, hz2, by simp⟩
              · right; left; exact ⟨rfl, rfl, by simp⟩
            · left; exact ⟨rfl, by simp⟩
          obtain ⟨D', G', hD', hG', hcase⟩ := hcnt
          obtain ⟨r, hr', hrcase⟩ := hres2
          have HD' := Lib.hid hD'
          have HG' := Lib.hid hG'
          have HR := Lib.hid hr'
          clear hst hlen ht hgd hx hce hres hresn hrn hdn hfn hD hG hiT hnew hD' hG' hr' ee1
          rcases hcase with ⟨p1, rfl, rfl⟩ | ⟨p1, p2, p3, rfl, rfl⟩ | ⟨p1, p2, p3, rfl, rfl⟩ | ⟨p1, p2, p3, rfl, rfl⟩
          all_goals
            rcases hrcase with ⟨rfl, rfl⟩ | ⟨rfl, rfl, rfl⟩ | ⟨rfl, rfl, rfl, rfl, rfl⟩
          all_goals (try cases bq)
          all_goals
            have ltw : w.heap.size < wr.heap.size := by have := blk_lt hb3; have := bel.size; omega
            go_upto_region 14 with fail
            generalize wr.alloc (.cells #[.int .i64 t'.frm, .int .i64 t'.to, .int .i64 t'.amount, .int .i64 t'.nonce, .string t'.sig] 24) = V at *
            have z3 := block_cell hb' (i := 3) rfl
            have z4 := block_cell hb' (i := 4) rfl
            have fr3 := frozen_of_row _ w3.heap.size 3 _ 71 hb'
            have fr4 := frozen_of_row _ w3.heap.size 4 _ 71 hb'
            have x0 := block_cell bb (i := 0) rfl
            have x1 := block_cell bb (i := 1) rfl
            have x2 := block_cell bb (i := 2) rfl
            have x3 := block_cell bb (i := 3) rfl
            have x4 := block_cell bb (i := 4) rfl
            have frx := frozen_of_row _ wr.heap.size 4 _ 24 bb
            have y4 := block_cell htb (i := 4) rfl
            have y0 := block_cell htb (i := 0) rfl
            have y1 := block_cell htb (i := 1) rfl
            have y2 := block_cell htb (i := 2) rfl
            have y3 := block_cell htb (i := 3) rfl
            have hE1 : ∀ (o : Nat) (u : Value), (V.setCell ⟨w3.heap.size, o, none⟩ u).cell? (ade.add T.length) = some (.int .i64 x) := fun o u => cell_set ee hne4 u
            have hE2 : ∀ (u : Value), (V.setCell ⟨wr.heap.size, 4, none⟩ u).cell? (ade.add T.length) = some (.int .i64 x) := fun u => cell_set ee hne5 u
            have hE3 : ∀ (o : Nat) (u u' : Value), ((V.setCell ⟨w3.heap.size, o, none⟩ u).setCell ⟨wr.heap.size, 4, none⟩ u').cell? (ade.add T.length) = some (.int .i64 x) := fun o u u' => cell_set (cell_set ee hne4 u) hne5 u'
            clear f0 f1 f2 f3 f4
            go_wp2_with fail
            try (go_quiet (fail))
            try (go_wp2_with fail)
            go_roundw
            case rel =>
              refine ⟨j + 1, by omega, by go_num, ?_⟩
              rw [HS.out]
              unfold QRel
              rw [HR.out, HD'.out, HG'.out]
              refine ⟨rfl, rfl, rfl, HNEW.out, ?_, ?_⟩
              · first
                  | exact (Below.heap_setCell _ ⟨wr.heap.size, 4, none⟩ _ w3.heap.size hne).trans hb'
                  | exact (Below.heap_setCell _ ⟨wr.heap.size, 4, none⟩ _ w3.heap.size hne).trans (heap_setCell_same _ w3.heap.size 3 _ 71 _ hb')
                  | exact (Below.heap_setCell _ ⟨wr.heap.size, 4, none⟩ _ w3.heap.size hne).trans (heap_setCell_same _ w3.heap.size 4 _ 71 _ hb')
              · repeat (first | exact belt | refine bl_drewN ?_ _ | refine bl_set ?_ (by first | exact Nat.le_refl _ | exact bel.size) _)
            case measure => simp [intOf]; omega
        · have hjj : j = b.txs.length := by omega
          subst hjj
          rw [List.take_of_length_le (Nat.le_refl _), ← HST.out] at hq
          obtain ⟨rfl, rfl, rfl, rfl, hblk, bel⟩ := hq
          have e7' := cell_below bel e7
          go_wp2_with fail
          go_roundw
          case rel => exact ⟨k + 1, by omega, by go_num, rfl, rfl, rfl, rfl, hblk, bel⟩
          case measure => simp [intOf]; omega
    · have hk : k = l.length := by omega
      subst hk
      rw [List.take_of_length_le (Nat.le_refl _), ← HE.out] at hq
      obtain ⟨rfl, rfl, rfl, rfl, hblk, bel⟩ := hq
      have b5 := bl_trans b4 bel
      have htb := block_below bel hb3
      have y0 := block_cell htb (i := 0) rfl
      have y1 := block_cell htb (i := 1) rfl
      have y2 := block_cell htb (i := 2) rfl
      have y3 := block_cell htb (i := 3) rfl
      have y4 := block_cell htb (i := 4) rfl
      obtain ⟨H, Ev, f, hres⟩ : ∃ H Ev f, resF (findF (entsF l) t) = (H, Ev, f) := ⟨_, _, _, rfl⟩
      rw [hres]
      have hh : (H != H) = false := by simp
      have he : (Ev != Ev) = false := by simp
      have hs2 : Small (foldF l).1 := by rw [← HF.out]; exact HSM.out
      have ht2 : totalF (foldF l).1 = 1000 := by rw [← HF.out]; exact HTOT.out
      have HRES := Lib.hid hres
      have HS2 := Lib.hid hs2
      have HT2 := Lib.hid ht2
      clear hres hs2 ht2
      by_cases hc : cl < 0 ∨ 4 ≤ cl
      · have HC := Lib.hid hc
        have hself := eqlAnswer_self 0 0 0 0 0
        clear hblk
        rcases hc with hc | hc
        all_goals (cases f)
        all_goals
          go_wp2_with (first
              | (go_at_call 33; refine (find_calls l t A _ c _ _ rfl (by omega) (by omega) (Kd.row_below b5 hr)).mono ?_; rw [HRES.out]; rintro e w5 ⟨rfl, b6⟩; have b56 := bl_trans b5 b6)
              | (go_at_call 34; refine (num28_calls _ _).mono ?_; rintro e w' ⟨rfl, rfl⟩)
              | (go_at_call 35; refine (supply_calls l A _ c _ _ rfl (by omega) (by omega) (Kd.row_below b56 hr) HS2.out).mono ?_; rw [HT2.out]; rintro e w7 ⟨rfl, b7⟩; have b57 := bl_trans b56 b7; have b67 := bl_trans b6 b7)
              | (go_at_call 32; refine (ask_out l cl A _ c _ HC.out).mono ?_; rintro e w9 ⟨rfl, b9⟩; have b59 := bl_trans b57 b9))
          go_ret
          exact ⟨by simp, bl_alloc b59 _⟩
      · obtain ⟨m, rfl⟩ : ∃ m : Nat, cl = m := ⟨cl.toNat, by omega⟩
        have hm4 : m < 4 := by omega
        have hm4I : (m : Int) < 4 := by omega
        have hm0I : (0 : Int) ≤ (m : Int) := by omega
        obtain ⟨a, ha⟩ : ∃ a, F.1[m]? = some a := ⟨_, List.getElem?_eq_getElem (by rw [HF1.out]; exact hm4)⟩
        have ha2 : (foldF l).1[m]? = some a := by rw [← HF.out]; exact ha
        obtain ⟨ada, rfl, g0, g1, _⟩ := kAccount_at rowa ha
        have hmF : (m : Int) < (F.1.length : Int) := by rw [HF1.out]; omega
        obtain ⟨D, hD⟩ : ∃ D, D = doneF m (entsF l) := ⟨_, rfl⟩
        obtain ⟨G, hG⟩ : ∃ G, G = failF m (entsF l) := ⟨_, rfl⟩
        rw [← hD, ← hG] at hblk
        have HA := Lib.hid ha2
        have HD := Lib.hid hD
        have HG := Lib.hid hG
        have hself := eqlAnswer_self a.balance a.nonce (l.length : Int) (D : Int) (G : Int)
        clear hc ha ha2 hD hG
        cases f
        all_goals
          go_wp2_with (first
              | (go_at_call 33; refine (find_calls l t A _ c _ _ rfl (by omega) (by omega) (Kd.row_below b5 hr)).mono ?_; rw [HRES.out]; rintro e w5 ⟨rfl, b6⟩; have b56 := bl_trans b5 b6)
              | (go_at_call 34; refine (num28_calls _ _).mono ?_; rintro e w' ⟨rfl, rfl⟩)
              | (go_at_call 35; refine (supply_calls l A _ c _ _ rfl (by omega) (by omega) (Kd.row_below b56 hr) HS2.out).mono ?_; rw [HT2.out]; rintro e w7 ⟨rfl, b7⟩; have b57 := bl_trans b56 b7; have b67 := bl_trans b6 b7)
              | (go_at_call 32; refine (ask_calls l m a A _ c _ _ rfl (by omega) (by omega) (Kd.row_below b57 hr) hm4 HA.out).mono ?_; rw [← HD.out, ← HG.out]; rintro e w9 ⟨rfl, b9⟩; have b59 := bl_trans b57 b9; have b69 := bl_trans b67 b9; have hb9 := block_below b69 hblk; have u0 := block_cell hb9 (i := 0) rfl; have u1 := block_cell hb9 (i := 1) rfl; have u2 := block_cell hb9 (i := 2) rfl; have u3 := block_cell hb9 (i := 3) rfl; have u4 := block_cell hb9 (i := 4) rfl; have s0 := frozen_of_row _ w3.heap.size 0 _ 71 hb9; have s1 := frozen_of_row _ w3.heap.size 1 _ 71 hb9; have s2 := frozen_of_row _ w3.heap.size 2 _ 71 hb9; have g09 := cell_below (bl_trans bel b69) g0; have g19 := cell_below (bl_trans bel b69) g1; have hlt9 := blk_lt hb9; have hlta := World.block_lt_of_cell? _ _ g09))
          go_ret
          refine ⟨by simp, ?_⟩
          repeat (first | exact b59 | refine bl_alloc ?_ _ | refine bl_set ?_ b4.size _)
end Go.Proofs.Ytflfpfaebndefab

