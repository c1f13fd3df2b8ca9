/- Package bank: Fold. No claim of its own; no condition. -/
import Derived.Test.YtflfpfaebndefabGenesis
namespace Go.Proofs.Ytflfpfaebndefab
open Go.ChangeShapes Go.WideShapes Go.ChangeAt Go.RowKit
set_option linter.unusedVariables false
set_option linter.unusedSimpArgs false

theorem info69 : (Try.prog.info? 27).map (fun i => (i.zero, i.size, i.bytes)) = some (some (.int .i64 0), 1, 8) := by kernel_rfl
abbrev BankS := List Account × List Int
def txStep (s : BankS) (t : Tx) : BankS := ((applyF s.1 t).1, s.2 ++ [(applyF s.1 t).2])
def txsF (l : List Tx) (s : BankS) : BankS := l.foldl txStep s
def foldG (l : List Block) (s : BankS) : BankS := l.foldl (fun s b => txsF b.txs s) s
def foldF (l : List Block) : BankS := foldG l (genesisF, [])
def txN (l : List Block) : Nat := (l.map (·.txs.length)).sum
theorem apply_len (l : List Account) (t : Tx) : (applyF l t).1.length = l.length := by
  unfold applyF
  split
  · split
    · split <;> simp
    · rfl
  · rfl
theorem txs_len : ∀ (l : List Tx) (s : BankS), (txsF l s).1.length = s.1.length ∧ (txsF l s).2.length = s.2.length + l.length
  | [], s => by simp [txsF]
  | t :: l, s => by
    have := txs_len l (txStep s t)
    simp only [txsF, List.foldl_cons, List.length_cons] at *
    constructor
    · rw [this.1]; exact apply_len _ _
    · rw [this.2]; simp [txStep]; omega
theorem fold_len : ∀ (l : List Block) (s : BankS), (foldG l s).1.length = s.1.length ∧ (foldG l s).2.length = s.2.length + txN l
  | [], s => by simp [foldG, txN]
  | b :: l, s => by
    have h1 := txs_len b.txs s
    have h2 := fold_len l (txsF b.txs s)
    simp only [foldG, List.foldl_cons, txN, List.map_cons, List.sum_cons] at *
    omega
theorem txs_step {l : List Tx} {k : Nat} {t : Tx} (h : l[k]? = some t) (s : BankS) : txsF (l.take (k + 1)) s = txStep (txsF (l.take k) s) t := by
  rw [List.take_add_one, h]
  simp [txsF]
theorem fold_step {l : List Block} {k : Nat} {b : Block} (h : l[k]? = some b) (s : BankS) : foldG (l.take (k + 1)) s = txsF b.txs (foldG (l.take k) s) := by
  rw [List.take_add_one, h]
  simp [foldG]
theorem txN_step {l : List Block} {k : Nat} {b : Block} (h : l[k]? = some b) : txN (l.take k) + b.txs.length ≤ txN l := by
  conv => rhs; rw [← List.take_append_drop (k + 1) l]
  rw [List.take_add_one, h]
  simp [txN]
theorem txN_take (l : List Block) (k : Nat) : txN (l.take k) ≤ txN l := by
  have e : txN l = txN (l.take k) + txN (l.drop k) := by
    unfold txN
    rw [← List.sum_append, ← List.map_append, List.take_append_drop]
  omega
theorem own_acc {B B' base base' : Nat} {w : World} {v : Value} {l : List Account} (h : kAccount.Own 69 B w base v l) (hb : base' ≤ base) : kAccount.Own 69 B' w base' v l := by
  obtain ⟨cs, ho, hr⟩ := h
  refine ⟨cs, ⟨ho.1, ?_⟩, reps_acc hr⟩
  rcases ho.2 with h | ⟨g, cap, cur, h1, h2, h3⟩
  · exact .inl h
  · exact .inr ⟨g, cap, cur, h1, Nat.le_trans hb h2, h3⟩
theorem apply_err (l : List Account) (t : Tx) : IntOk (applyF l t).2 := by
  have h : readyF l t = 0 ∨ readyF l t = 9 ∨ readyF l t = 72 := by
    unfold readyF
    split
    · split
      · split <;> simp
      · simp
    · simp
  unfold applyF IntOk
  split
  · split
    · split <;> simp
    · simp
  · simp only; omega
set_option maxHeartbeats 3200000 in
set_option maxRecDepth 100000 in
theorem fold_calls (l : List Block) (A : Option Addr) (n c : Nat) (w : World) (B : Nat) (hn : n = l.length) (hl : l.length ≤ 2097152) (hT : txN l ≤ 2097152) (hr : kBlock.Row 79 B w A l) :
    Calls Try.prog 12 #[.slice A n c] w
      fun e w' => (∃ v ev, e = .returned (.tuple #[v, ev]) ∧ kAccount.Own 69 w.heap.size w' w.heap.size v (foldF l).1 ∧ Kd.int.Own 27 w.heap.size w' w.heap.size ev (foldF l).2) ∧ Below w.heap.size w w' := by
  subst hn
  obtain ⟨i0, hi, hz0, hz1, hz2⟩ := info_parts info69
  go_enter Try.func12, Try.ntmps12
  go_wp2_with (go_at_call 38; refine (genesis_calls _).mono ?_; rintro e w1 ⟨⟨v, rfl, own1⟩, b1⟩)
  go_loopw [4, 5, 14] (fun av ev kv w' => ∃ k : Nat, k ≤ l.length ∧ kv = .int .i64 k ∧ kAccount.Own 69 w.heap.size w' w.heap.size av (foldG (l.take k) (genesisF, [])).1 ∧ Kd.int.Own 27 w.heap.size w' w.heap.size ev (foldG (l.take k) (genesisF, [])).2 ∧ Below w.heap.size w w') (fun _ _ kv _ => l.length - (intOf kv).toNat)
  case atStart => exact ⟨0, by omega, rfl, by simpa [foldG] using own1, by simpa [foldG] using Kd.own_nil _ _ _ _ _, b1⟩
  case round =>
    clear own1 b1
    obtain ⟨k, h1, rfl, own, oerr, bel⟩ := hrel
    by_cases h : k < l.length
    · obtain ⟨b, hb⟩ : ∃ b, l[k]? = some b := ⟨_, List.getElem?_eq_getElem h⟩
      obtain ⟨ad, rfl, A6, c6, A7, c7, e0, e1, e2, e3, e4, e5, e6, e7, e8, hcond⟩ := kBlock_at hr hb
      obtain ⟨_, _, _, _, _, _, _, _, _, hl7, hm7, hr7, _⟩ := hcond
      have hstep := fold_step hb (genesisF, [])
      have hN := txN_step hb
      have hlen := fold_len (l.take k) (genesisF, [])
      generalize foldG (l.take k) (genesisF, []) = S at *
      replace e0 := cell_below bel e0
      replace e1 := cell_below bel e1
      replace e2 := cell_below bel e2
      replace e3 := cell_below bel e3
      replace e4 := cell_below bel e4
      replace e5 := cell_below bel e5
      replace e6 := cell_below bel e6
      replace e7 := cell_below bel e7
      replace e8 := cell_below bel e8
      have hg1 : S.1.length = 4 := by rw [hlen.1]; rfl
      have hg2 : S.2.length + b.txs.length ≤ 2097152 := by rw [hlen.2]; simp only [List.length_nil]; omega
      have HST := Lib.hid hstep
      clear hstep hlen hN hb
      have bx := bl_alloc (Below.refl wr.heap.size wr) (.cells #[.int .i64 b.view, .int .i64 b.height, .string b.parent, .int .i64 b.justify.view, .int .i64 b.justify.height, .string b.justify.block, .slice A6 b.justify.votes.length c6, .slice A7 b.txs.length c7, .string b.sig] 79)
      have own0 := Kd.own_below own bx
      have oerr0 := Kd.own_below oerr bx
      have bel0 := bl_trans bel bx
      go_wp2_with fail
      generalize wr.alloc (.cells #[.int .i64 b.view, .int .i64 b.height, .string b.parent, .int .i64 b.justify.view, .int .i64 b.justify.height, .string b.justify.block, .slice A6 b.justify.votes.length c6, .slice A7 b.txs.length c7, .string b.sig] 79) = W at *
      clear e0 e1 e2 e3 e4 e5 e6 e7 e8 bx bel own oerr
      go_loopw [4, 5, 21] (fun av ev kv w' => ∃ j : Nat, j ≤ b.txs.length ∧ kv = .int .i64 j ∧ kAccount.Own 69 w.heap.size w' w.heap.size av (txsF (b.txs.take j) S).1 ∧ Kd.int.Own 27 w.heap.size w' w.heap.size ev (txsF (b.txs.take j) S).2 ∧ Below w.heap.size w w') (fun _ _ kv _ => b.txs.length - (intOf kv).toNat)
      case atStart => exact ⟨0, by omega, rfl, by simpa [txsF] using own0, by simpa [txsF] using oerr0, bel0⟩
      case round =>
        clear own0 oerr0 bel0
        obtain ⟨j, g1, rfl, own, oerr, bel⟩ := hrel
        by_cases hj : j < b.txs.length
        · obtain ⟨t, ht⟩ : ∃ t, b.txs[j]? = some t := ⟨_, List.getElem?_eq_getElem hj⟩
          obtain ⟨ad7, rfl, f0, f1, f2, f3, f4, _⟩ := kTx_at (Kd.row_below bel hr7) ht
          have hst := txs_step ht S
          have hlen := txs_len (b.txs.take j) S
          generalize txsF (b.txs.take j) S = T at *
          have hk1 : T.1.length ≤ 1048576 := by rw [hlen.1, hg1]; omega
          have hk2 : T.2.length + 1 ≤ 4194304 := by rw [hlen.2, List.length_take]; omega
          have HS := Lib.hid hst
          clear hst hlen ht
          obtain ⟨Aa, ca, rfl, _, _, rowa, _⟩ := Kd.own_row own
          obtain ⟨Ae, ce, rfl, _, _, rowe, _⟩ := Kd.own_row oerr
          have hek := apply_err T.1 t
          go_wp2_with (first
            | (go_at_call 10; refine (apply_calls T.1 t Aa _ ca _ w.heap.size rfl hk1 (Kd.row_below (bl_alloc (Below.refl _ _) _) rowa)).mono ?_; rintro e w3 ⟨⟨v3, rfl, own3⟩, b3⟩; have bt := bl_trans (bl_alloc (Below.refl wr.heap.size wr) _) b3; have bel3 := bl_trans bel bt; have own4 := own_acc (B' := w.heap.size) own3 (bl_alloc bel _).size; have bf := bl_alloc (Below.refl w3.heap.size w3) (.cells #[.int .i64 (applyF T.1 t).2] 27); have own5 := Kd.own_below own4 bf; have oerr5 := Kd.own_below (Kd.own_below oerr bt) bf; have bel5 := bl_trans bel3 bf)
            | (at_builtin; refine wpList_append_row _ rfl (.tmp 31) (.tmp 33) 32 rfl Kd.int w.heap.size w.heap.size 27 i0 _ 8 Try.underlying32 hi hz0 hz1 hz2 rfl (by decide) _ _ rfl oerr5 _ _ _ [(applyF T.1 t).2] rfl rfl (Kd.row_fresh1 ⟨rfl, hek⟩) (by simp only [List.length_singleton]; omega) (by decide) bel5.size (Nat.le_refl _) (by decide) ?_; intro v' w' own' grw at'; have own6 := Kd.own_keep own5 (Kd.own_keeps oerr5 grw (Nat.le_refl _) (by decide)); have bel6 := Kd.own_step bel5 oerr5 grw))
          go_roundw
          case rel => exact ⟨j + 1, by omega, by go_num, by rw [HS.out]; exact own6, by rw [HS.out]; exact own', bel6⟩
          case measure => simp [intOf]; omega
        · have hjj : j = b.txs.length := by omega
          subst hjj
          rw [List.take_of_length_le (Nat.le_refl _), ← HST.out] at own oerr
          go_wp2_with fail
          go_roundw
          case rel => exact ⟨k + 1, by omega, by go_num, own, oerr, bel⟩
          case measure => simp [intOf]; omega
    · have hk : k = l.length := by omega
      subst hk
      rw [List.take_of_length_le (Nat.le_refl _)] at own oerr
      go_wp2_with fail
      refine bodyPost_ret (v := .tuple #[u4, u5]) (by simp [results, Try.results12, go_sem]) rfl ⟨⟨u4, u5, rfl, own, oerr⟩, bel⟩
end Go.Proofs.Ytflfpfaebndefab
