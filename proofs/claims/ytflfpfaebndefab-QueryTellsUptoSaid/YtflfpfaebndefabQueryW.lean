/- Package query: entries, bare. No claim of its own; no condition. -/
import Derived.Test.YtflfpfaebndefabQueryP
import Derived.Test.YtflfpfaebndefabAppStep
namespace Go.Proofs.Ytflfpfaebndefab
open Go.ChangeShapes Go.WideShapes Go.ChangeAt Go.RowKit
set_option linter.unusedVariables false
set_option linter.unusedSimpArgs false
theorem kTx_flat : kTx.Flat := Kd.flat_iso (Kd.flat_pair Kd.flat_int (Kd.flat_pair Kd.flat_int (Kd.flat_pair Kd.flat_int (Kd.flat_pair Kd.flat_int Kd.flat_str))))
theorem kEntry_flat : kEntry.Flat := Kd.flat_iso (Kd.flat_pair kTx_flat (Kd.flat_pair Kd.flat_int Kd.flat_int))
theorem info101 : (Try.prog.info? 101).map (fun i => (i.zero, i.size, i.bytes)) = some (some (.agg #[.int .i64 0, .int .i64 0, .int .i64 0, .int .i64 0, .string ⟨#[]⟩, .int .i64 0, .int .i64 0]), 7, 64) := by kernel_rfl
theorem fold_ok : ∀ (l : List Block) (s : BankS), (∀ e ∈ s.2, IntOk e) → ∀ e ∈ (foldG l s).2, IntOk e := by
  have h1 : ∀ (l : List Tx) (s : BankS), (∀ e ∈ s.2, IntOk e) → ∀ e ∈ (txsF l s).2, IntOk e := by
    intro l
    induction l with
    | nil => intro s h; exact h
    | cons t l ih =>
      intro s h
      refine ih (txStep s t) fun e he => ?_
      simp only [txStep, List.mem_append, List.mem_singleton] at he
      rcases he with he | rfl
      · exact h e he
      · exact apply_err _ _
  intro l
  induction l with
  | nil => intro s h; exact h
  | cons b l ih => intro s h; exact ih (txsF b.txs s) (h1 b.txs s h)
set_option maxHeartbeats 3200000 in
set_option maxRecDepth 100000 in
theorem entries_calls (l : List Block) (A : Option Addr) (n c : Nat) (w : World) (B : Nat) (hn : n = l.length) (hl : l.length ≤ 2097152) (hT : txN l ≤ 2097152) (hr : kBlock.Row 79 B w A l) :
    Calls Try.prog 52 #[.slice A n c] w
      fun e w' => (∃ v, e = .returned v ∧ kEntry.Own 101 w.heap.size w' w.heap.size v (entsF l)) ∧ Below w.heap.size w w' := by
  subst hn
  obtain ⟨i0, hi, hz0, hz1, hz2⟩ := info_parts info101
  have hfl := fold_len l (genesisF, [])
  have hok := fold_ok l (genesisF, []) (by simp)
  obtain ⟨F, hF⟩ : ∃ F, F = foldF l := ⟨_, rfl⟩
  have hf2 : F.2.length = txN l := by rw [hF]; show (foldG l (genesisF, [])).2.length = _; simpa using hfl.2
  have hok2 : ∀ e ∈ F.2, IntOk e := by rw [hF]; exact hok
  have hE : entsF l = entG F.2 l 0 [] := by rw [hF]; rfl
  have HF := Lib.hid hF
  have HE := Lib.hid hE
  have Hf2 := Lib.hid hf2
  clear hF hE hfl hok hf2
  go_enter Try.func52, Try.ntmps52
  go_wp2_with (go_at_call 12; refine (fold_calls l A l.length c _ B rfl hl hT hr).mono ?_; rw [← HF.out]; rintro e w1 ⟨⟨v, ev, rfl, own, oerr⟩, b1⟩)
  obtain ⟨Ae, ce, rfl, _, _, rowe, _⟩ := Kd.own_row oerr
  clear own oerr
  go_loopw [5, 17] (fun ov kv w' => ∃ k : Nat, k ≤ l.length ∧ kv = .int .i64 k ∧ kEntry.Own 101 w1.heap.size w' w1.heap.size ov (entG F.2 (l.take k) 0 []) ∧ Below w1.heap.size w1 w') (fun _ kv _ => l.length - (intOf kv).toNat)
  case atStart => exact ⟨0, by omega, rfl, by simpa [entG] using Kd.own_nil _ _ _ _ _, Below.refl _ _⟩
  case round =>
    obtain ⟨k, h1, rfl, own, bel⟩ := hrel
    by_cases h : k < l.length
    · obtain ⟨b, hb⟩ : ∃ b, l[k]? = some b := ⟨_, List.getElem?_eq_getElem h⟩
      obtain ⟨ad, rfl, A6, c6, A7, c7, e0, e1, e2, e3, e4, e5, e6, e7, e8, hcond⟩ := kBlock_at hr hb
      obtain ⟨_, _, _, _, _, _, _, _, _, hl7, hm7, hr7, _⟩ := hcond
      have hstep := entG_step F.2 hb 0 []
      have hN := txN_step hb
      have hlen := entG_len F.2 (l.take k) 0 []
      rw [Nat.zero_add] at hstep
      generalize entG F.2 (l.take k) 0 [] = S at *
      have b1k := bl_trans b1 bel
      replace e0 := cell_below b1k e0
      replace e1 := cell_below b1k e1
      replace e2 := cell_below b1k e2
      replace e3 := cell_below b1k e3
      replace e4 := cell_below b1k e4
      replace e5 := cell_below b1k e5
      replace e6 := cell_below b1k e6
      replace e7 := cell_below b1k e7
      replace e8 := cell_below b1k e8
      have hg2 : S.length + b.txs.length ≤ F.2.length := by rw [hlen, Hf2.out]; simp only [List.length_nil]; omega
      have hg3 : F.2.length ≤ 2097152 := by rw [Hf2.out]; exact hT
      have HST := Lib.hid hstep
      clear hstep hlen hN hb
      have bx := bl_alloc (Below.refl wr.heap.size wr) (.cells #[.int .i64 b.view, .int .i64 b.height, .string b.parent, .int .i64 b.justify.view, .int .i64 b.justify.height, .string b.justify.block, .slice A6 b.justify.votes.length c6, .slice A7 b.txs.length c7, .string b.sig] 79)
      have own0 := Kd.own_below own bx
      have bel0 := bl_trans bel bx
      go_wp2_with fail
      generalize wr.alloc (.cells #[.int .i64 b.view, .int .i64 b.height, .string b.parent, .int .i64 b.justify.view, .int .i64 b.justify.height, .string b.justify.block, .slice A6 b.justify.votes.length c6, .slice A7 b.txs.length c7, .string b.sig] 79) = W at *
      clear e0 e1 e2 e3 e4 e5 e6 e7 e8 bx bel own b1k
      have smk : IntKind.i64.wrap ((k : Int) + 1) = (k : Int) + 1 := IntWalk.i64_in _ (by omega)
      have hkI : IntOk ((k : Int) + 1) := by unfold IntOk; omega
      go_loopw [5, 25] (fun ov kv w' => ∃ j : Nat, j ≤ b.txs.length ∧ kv = .int .i64 j ∧ kEntry.Own 101 w1.heap.size w' w1.heap.size ov (entT F.2 k (b.txs.take j) S) ∧ Below w1.heap.size w1 w') (fun _ kv _ => b.txs.length - (intOf kv).toNat)
      case atStart => exact ⟨0, by omega, rfl, by simpa [entT] using own0, bel0⟩
      case round =>
        clear own0 bel0
        obtain ⟨j, g1, rfl, own, bel⟩ := hrel
        by_cases hj : j < b.txs.length
        · obtain ⟨t, ht⟩ : ∃ t, b.txs[j]? = some t := ⟨_, List.getElem?_eq_getElem hj⟩
          have b1k := bl_trans b1 bel
          obtain ⟨ad7, rfl, f0, f1, f2, f3, f4, hcd⟩ := kTx_at (Kd.row_below b1k hr7) ht
          have hst := entT_step F.2 k ht S
          have hlen := entT_len F.2 k (b.txs.take j) S
          generalize entT F.2 k (b.txs.take j) S = T at *
          have hTl : T.length < F.2.length := by rw [hlen, List.length_take]; omega
          obtain ⟨x, hx⟩ : ∃ x, F.2[T.length]? = some x := ⟨_, List.getElem?_eq_getElem hTl⟩
          have hxok := hok2 x (List.mem_of_getElem? hx)
          have hgd : F.2.getD T.length 0 = x := by simp [List.getD, hx]
          rw [hgd] at hst
          have HS := Lib.hid hst
          clear hst hlen ht hgd
          obtain ⟨Ao, co, rfl, _, _, rowo, _⟩ := Kd.own_row own
          clear rowo
          have bt := bl_alloc (Below.refl wr.heap.size wr) (.cells #[.int .i64 t.frm, .int .i64 t.to, .int .i64 t.amount, .int .i64 t.nonce, .string t.sig] 24)
          have bb := alloc_new wr (.cells #[.int .i64 t.frm, .int .i64 t.to, .int .i64 t.amount, .int .i64 t.nonce, .string t.sig] 24)
          have belt := bl_trans bel bt
          obtain ⟨ade, cse, rfl, hlte, hKe, hce⟩ := Kd.row_at rowe hx
          obtain ⟨rfl, _⟩ := hKe
          have ee1 : w1.cell? (ade.add T.length) = some (.int .i64 x) := by simpa [Kd.int] using hce 0 _ rfl
          have ee := cell_below belt ee1
          have hlt2 : (ade.add T.length).block < w1.heap.size := by rw [block_of_add]; exact hlte
          have own1 := Kd.own_below own bt
          have hTI : (T.length : Int) < (F.2.length : Int) := by omega
          clear hce hx
          go_wp2_with fail
          generalize wr.alloc (.cells #[.int .i64 t.frm, .int .i64 t.to, .int .i64 t.amount, .int .i64 t.nonce, .string t.sig] 24) = V at *
          have k0 := held_keep (B := w1.heap.size) (E := [24]) (block_cell bb (i := 0) rfl) (held_type bb (by decide))
          have k1 := held_keep (B := w1.heap.size) (E := [24]) (block_cell bb (i := 1) rfl) (held_type bb (by decide))
          have k2 := held_keep (B := w1.heap.size) (E := [24]) (block_cell bb (i := 2) rfl) (held_type bb (by decide))
          have k3 := held_keep (B := w1.heap.size) (E := [24]) (block_cell bb (i := 3) rfl) (held_type bb (by decide))
          have k4 := held_keep (B := w1.heap.size) (E := [24]) (block_cell bb (i := 4) rfl) (held_type bb (by decide))
          have k5 := held_keep (B := w1.heap.size) (E := [24]) ee (held_old hlt2 (by have := belt.size; omega))
          have own2 := Kd.own_below own1 (bl_drew (bl_alloc (Below.refl V.heap.size V) (.cells #[.int .i64 t.frm, .int .i64 t.to, .int .i64 t.amount, .int .i64 t.nonce, .string t.sig, .int .i64 ((k : Int) + 1), .int .i64 x] 101)))
          have bel2 := bl_trans belt (bl_drew (bl_alloc (Below.refl V.heap.size V) (.cells #[.int .i64 t.frm, .int .i64 t.to, .int .i64 t.amount, .int .i64 t.nonce, .string t.sig, .int .i64 ((k : Int) + 1), .int .i64 x] 101)))
          have hen : ∀ B' w', kEntry.K B' w' ⟨t, (k : Int) + 1, x⟩ [.int .i64 t.frm, .int .i64 t.to, .int .i64 t.amount, .int .i64 t.nonce, .string t.sig, .int .i64 ((k : Int) + 1), .int .i64 x] := fun B' w' => kEntry_mk _ hcd.1 hcd.2.1 hcd.2.2.1 hcd.2.2.2.1 hcd.2.2.2.2 hkI hxok
          clear f0 f1 f2 f3 f4 ee ee1 own own1 bt bb
          go_region_held3 (fun w' => Keeps w1.heap.size [24] V w') (repeat (first | exact Keeps.refl _ _ _ | assumption | apply kp_drew | apply kp_alloc)) ((refine step_append_row _ (by rfl) (.tmp 29) (.tmp 39) 98 (by rfl) kEntry w1.heap.size w1.heap.size 101 i0 _ 64 Try.underlying98 hi hz0 hz1 hz2 rfl (by decide) _ T (by rfl) own2 _ _ _ [⟨t, (k : Int) + 1, x⟩] (by rfl) rfl (Kd.row_below (bl_drew (Below.refl _ _)) (Kd.row_fresh1 (w := V) (hen _ _))) (by simp only [List.length_singleton]; omega) (by decide) bel2.size (Nat.le_refl _) (by decide) ?_; intro v' w' own' grw at'; have kp' := Keeps.trans (kp_drew (kp_alloc (Keeps.refl w1.heap.size [24] V) _)) (Kd.own_keeps own2 grw (Nat.le_refl _) (by decide)); have bel3 := Kd.own_step bel2 own2 grw))
          go_wp2_with fail
          go_roundw
          case rel => exact ⟨j + 1, by omega, by go_num, by rw [HS.out]; exact own', bel3⟩
          case measure => simp [intOf]; omega
        · have hjj : j = b.txs.length := by omega
          subst hjj
          rw [List.take_of_length_le (Nat.le_refl _), ← HST.out] at own
          go_wp2_with fail
          go_roundw
          case rel => exact ⟨k + 1, by omega, by go_num, own, bel⟩
          case measure => simp [intOf]; omega
    · have hk : k = l.length := by omega
      subst hk
      rw [List.take_of_length_le (Nat.le_refl _), ← HE.out] at own
      go_wp2_with fail
      refine bodyPost_ret (v := u5) (by simp [results, Try.results52, go_sem]) rfl ⟨⟨u5, rfl, Kd.own_flat kEntry_flat own b1.size⟩, bl_trans b1 bel⟩
theorem bare_calls (f g a n : Int) (s : ByteArray) (w : World) :
    Calls Try.prog 53 #[.agg #[.int .i64 f, .int .i64 g, .int .i64 a, .int .i64 n, .string s]] w fun e w' => e = .returned (.agg #[.int .i64 f, .int .i64 g, .int .i64 a, .int .i64 n, .string ⟨#[]⟩]) ∧ Below w.heap.size w w' := by
  go_enter Try.func53, Try.ntmps53
  go_wp2_with fail
  refine bodyPost_ret (v := .agg #[.int .i64 f, .int .i64 g, .int .i64 a, .int .i64 n, .string ⟨#[]⟩]) (by simp [results, Try.results53, go_sem]) rfl ⟨rfl, ?_⟩
  exact bl_alloc (bl_alloc (Below.refl _ _) _) _
end Go.Proofs.Ytflfpfaebndefab
