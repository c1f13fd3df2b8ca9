/- Package mootlaw28: the walk of QueryLonger. No claim of its own; no condition. -/
import Derived.Test.YtflfpfaebndefabQueryD
namespace Go.Proofs.Ytflfpfaebndefab
open Go.ChangeShapes Go.WideShapes Go.ChangeAt Go.RowKit
set_option linter.unusedVariables false
set_option linter.unusedSimpArgs false
theorem info79 : (Try.prog.info? 79).map (fun i => (i.zero, i.size, i.bytes)) = some (some (.agg #[.int .i64 0, .int .i64 0, .string ⟨#[]⟩, .int .i64 0, .int .i64 0, .string ⟨#[]⟩, .slice none 0 0, .slice none 0 0, .string ⟨#[]⟩]), 9, 128) := by kernel_rfl
theorem dT_ext (i : Nat) : ∀ (l : List Tx) (s : BankS × List Entry), ∃ x, (dT i l s).2 = s.2 ++ x
  | [], s => ⟨[], by simp [dT]⟩
  | t :: l, s => by
    obtain ⟨x, hx⟩ := dT_ext i l (dStep i s t)
    exact ⟨_, by rw [show dT i (t :: l) s = dT i l (dStep i s t) from rfl, hx]; simp only [dStep, List.append_assoc]; rfl⟩
theorem dG_snoc (b : Block) : ∀ (l : List Block) (i : Nat) (s : BankS × List Entry), dG (l ++ [b]) i s = dT (i + l.length) b.txs (dG l i s)
  | [], i, s => rfl
  | x :: l, i, s => by
    show dG (l ++ [b]) (i + 1) (dT i x.txs s) = dT (i + (x :: l).length) b.txs (dG l (i + 1) (dT i x.txs s))
    rw [dG_snoc b l (i + 1)]
    congr 1
    simp only [List.length_cons]; omega
theorem ents_longer (l : List Block) (b : Block) : ∃ x, entsF (l ++ [b]) = entsF l ++ x := by
  rw [ents_eq, ents_eq, dG_snoc]
  exact dT_ext _ _ _
theorem find_longer {E X : List Entry} {t : Tx} {x : Entry} (h : findF E t = some x) : findF (E ++ X) t = some x := by
  rw [findF] at h ⊢
  rw [List.find?_append, h]
  rfl
theorem done_longer (c : Int) (E X : List Entry) : doneF c E ≤ doneF c (E ++ X) ∧ failF c E ≤ failF c (E ++ X) := by
  rw [doneF, doneF, failF, failF, List.countP_append, List.countP_append]
  omega
set_option maxHeartbeats 6400000 in
set_option maxRecDepth 100000 in
theorem querylonger_walk (l : List Block) (b : Block) (t : Tx) (A A6 A7 : Option Addr) (c c6 c7 : Nat) (w : World) (hl : l.length ≤ 1048576) (hT : txN l + b.txs.length ≤ 1048576) (hr : kBlock.Row 79 w.heap.size w A l)
    (hK : kBlock.K w.heap.size w b [.int .i64 b.view, .int .i64 b.height, .string b.parent, .int .i64 b.justify.view, .int .i64 b.justify.height, .string b.justify.block, .slice A6 b.justify.votes.length c6, .slice A7 b.txs.length c7, .string b.sig]) :
    Calls Try.prog 8 #[.slice A l.length c, .agg #[.int .i64 b.view, .int .i64 b.height, .string b.parent, .int .i64 b.justify.view, .int .i64 b.justify.height, .string b.justify.block, .slice A6 b.justify.votes.length c6, .slice A7 b.txs.length c7, .string b.sig],
      .agg #[.int .i64 t.frm, .int .i64 t.to, .int .i64 t.amount, .int .i64 t.nonce, .string t.sig]] w fun e w' => e = .returned (.bool true) ∧ Below w.heap.size w w' := by
  obtain ⟨i0, hi, hz0, hz1, hz2⟩ := info_parts info79
  have hTl : txN (l ++ [b]) ≤ 1048576 := by
    have e : txN (l ++ [b]) = txN l + b.txs.length := by simp [txN]
    omega
  have hfl := fold_len l (genesisF, [])
  have hfl2 := fold_len (l ++ [b]) (genesisF, [])
  have hf1 : (foldF l).1.length = 4 := hfl.1
  have hf2 : (foldF (l ++ [b])).1.length = 4 := hfl2.1
  have hlen : (entsF l).length ≤ 1048576 := by show (entG _ l 0 []).length ≤ _; rw [entG_len]; simp; omega
  have hlen2 : (entsF (l ++ [b])).length ≤ 1048576 := by show (entG _ (l ++ [b]) 0 []).length ≤ _; rw [entG_len]; simpa using hTl
  obtain ⟨X, hX⟩ := ents_longer l b
  have q1 := bl_alloc (Below.refl w.heap.size w) (.cells #[.int .i64 b.view, .int .i64 b.height, .string b.parent, .int .i64 b.justify.view, .int .i64 b.justify.height, .string b.justify.block, .slice A6 b.justify.votes.length c6, .slice A7 b.txs.length c7, .string b.sig] 79)
  have a1 := alloc_new w (.cells #[.int .i64 b.view, .int .i64 b.height, .string b.parent, .int .i64 b.justify.view, .int .i64 b.justify.height, .string b.justify.block, .slice A6 b.justify.votes.length c6, .slice A7 b.txs.length c7, .string b.sig] 79)
  generalize hW1 : w.alloc (.cells #[.int .i64 b.view, .int .i64 b.height, .string b.parent, .int .i64 b.justify.view, .int .i64 b.justify.height, .string b.justify.block, .slice A6 b.justify.votes.length c6, .slice A7 b.txs.length c7, .string b.sig] 79) = W1 at *
  have q2 := bl_alloc (Below.refl W1.heap.size W1) (.cells #[.int .i64 t.frm, .int .i64 t.to, .int .i64 t.amount, .int .i64 t.nonce, .string t.sig] 24)
  have a2 := alloc_new W1 (.cells #[.int .i64 t.frm, .int .i64 t.to, .int .i64 t.amount, .int .i64 t.nonce, .string t.sig] 24)
  have a1' := alloc_old a1 (.cells #[.int .i64 t.frm, .int .i64 t.to, .int .i64 t.amount, .int .i64 t.nonce, .string t.sig] 24)
  have hsW : W1.heap.size = w.heap.size + 1 := by rw [← hW1]; simp
  generalize hW2 : W1.alloc (.cells #[.int .i64 t.frm, .int .i64 t.to, .int .i64 t.amount, .int .i64 t.nonce, .string t.sig] 24) = W at *
  have q0 := bl_trans q1 q2
  have HW1 := Lib.hid hW1
  have HW2 := Lib.hid hW2
  rw [hsW] at a2
  have hfind : ∀ x, findF (entsF l) t = some x → findF (entsF (l ++ [b])) t = some x := fun x h => by rw [hX]; exact find_longer h
  have hmono : ∀ c : Nat, doneF c (entsF l) ≤ doneF c (entsF (l ++ [b])) ∧ failF c (entsF l) ≤ failF c (entsF (l ++ [b])) := fun c => by rw [hX]; exact done_longer c _ _
  have hdle : ∀ c : Nat, doneF c (entsF (l ++ [b])) ≤ 1048576 ∧ failF c (entsF (l ++ [b])) ≤ 1048576 := fun c => ⟨Nat.le_trans (doneF_le _ _) hlen2, Nat.le_trans (failF_le _ _) hlen2⟩
  have HFI := Lib.hid hfind
  have HMO := Lib.hid hmono
  have HDL := Lib.hid hdle
  have HF1 := Lib.hid hf1
  have HF2 := Lib.hid hf2
  clear hW1 hW2 hX hfl hfl2 hf1 hf2 hlen hlen2 hfind hmono hdle q1 q2 hsW
  go_enter Try.func8, Try.ntmps8
  go_upto_region 1 with fail
  rw [HW1.out, HW2.out]
  go_wp2_with (go_at_call 31; refine (alive28_calls _).mono ?_; rintro e w1 ⟨rfl, b1⟩)
  have b2 := bl_trans q0 b1
  have hb1 := block_below b1 a1'
  have ht1 := block_below b1 a2
  have m0 := held_cell (block_cell hb1 (i := 0) rfl)
  have m1 := held_cell (block_cell hb1 (i := 1) rfl)
  have m2 := held_cell (block_cell hb1 (i := 2) rfl)
  have m3 := held_cell (block_cell hb1 (i := 3) rfl)
  have m4 := held_cell (block_cell hb1 (i := 4) rfl)
  have m5 := held_cell (block_cell hb1 (i := 5) rfl)
  have m6 := held_cell (block_cell hb1 (i := 6) rfl)
  have m7 := held_cell (block_cell hb1 (i := 7) rfl)
  have m8 := held_cell (block_cell hb1 (i := 8) rfl)
  have hrl : ∀ w', Below w1.heap.size w1 w' → kBlock.Row 79 w.heap.size w' A l := fun w' h => Kd.row_below (bl_trans b2 h) hr
  have hKb : ∀ w', Below w1.heap.size w1 w' → kBlock.K w.heap.size w' b [.int .i64 b.view, .int .i64 b.height, .string b.parent, .int .i64 b.justify.view, .int .i64 b.justify.height, .string b.justify.block, .slice A6 b.justify.votes.length c6, .slice A7 b.txs.length c7, .string b.sig] := fun w' h => kBlock.keep (Keeps.of_below (bl_trans b2 h)) hK
  have hsz : ∀ w', Below w1.heap.size w1 w' → w1.heap.size ≤ w'.heap.size := fun w' h => h.size
  go_region_held3 (fun w' => Below w1.heap.size w1 w') (repeat (first | exact Below.refl _ _ | assumption | exact bl_grown (by assumption) g2 (fun k h => by cases h) | exact Kd.own_step (by assumption) own3 g4 | apply bl_drew | apply bl_alloc))
    (first
      | ((refine step_append_row _ (by rfl) (.tmp 21) (.tmp 22) 25 (by rfl) kBlock w.heap.size w1.heap.size 79 i0 _ 128 Try.underlying25 hi hz0 hz1 hz2 rfl (by decide) (.slice none 0 0) [] (by rfl) (Kd.own_nil kBlock 79 w.heap.size _ w1.heap.size) _ _ _ l (by rfl) rfl (hrl _ (by assumption)) (by simp only [List.length_nil]; omega) (by decide) (hsz _ (by assumption)) b2.size (by decide) ?_; intro v2 w2 own2 g2 at2))
      | ((have own3 := Kd.own_below own2 (bl_alloc (Below.refl w2.heap.size w2) (.cells #[.int .i64 b.view, .int .i64 b.height, .string b.parent, .int .i64 b.justify.view, .int .i64 b.justify.height, .string b.justify.block, .slice A6 b.justify.votes.length c6, .slice A7 b.txs.length c7, .string b.sig] 79)); rw [List.nil_append] at own3; refine step_append_row _ (by rfl) (.tmp 23) (.tmp 25) 25 (by rfl) kBlock w.heap.size w1.heap.size 79 i0 _ 128 Try.underlying25 hi hz0 hz1 hz2 rfl (by decide) _ l (by rfl) own3 _ _ _ [b] (by rfl) rfl (Kd.row_fresh1 (hKb _ (by assumption))) (by simp only [List.length_singleton]; omega) (by decide) (hsz _ (by assumption)) b2.size (by decide) ?_; intro v4 w4 own4 g4 at4))
      | (go_loud ((have own3 := own2; rw [List.nil_append] at own3; refine step_append_row _ (by rfl) (.tmp 23) (.tmp 25) 25 (by rfl) kBlock w.heap.size w1.heap.size 79 i0 _ 128 Try.underlying25 hi hz0 hz1 hz2 rfl (by decide) _ l (by rfl) own3 _ _ _ [b] (by rfl) rfl (Kd.row_below (bl_grown (Below.refl _ _) g2 (fun k h => by cases h)) (Kd.row_below (bl_drew (Below.refl _ _)) (Kd.row_fresh1 (w := w1) (hKb _ (bl_alloc (Below.refl _ _) _))))) (by simp only [List.length_singleton]; omega) (by decide) (hsz _ (by assumption)) b2.size (by decide) ?_; intro v4 w4 own4 g4 at4))))
  all_goals
    obtain ⟨A4, c4, rfl, _, _, row4, _⟩ := Kd.own_row own4
    have b4 : Below w1.heap.size w1 w4 := by assumption
    have b5 := bl_trans b2 b4
    have t0 := cell_below b4 (block_cell ht1 (i := 0) rfl)
    have t1 := cell_below b4 (block_cell ht1 (i := 1) rfl)
    have t2 := cell_below b4 (block_cell ht1 (i := 2) rfl)
    have t3 := cell_below b4 (block_cell ht1 (i := 3) rfl)
    have t4 := cell_below b4 (block_cell ht1 (i := 4) rfl)
    clear m0 m1 m2 m3 m4 m5 m6 m7 m8 own4 own3 own2 g2 g4 at2 at4 hrl hKb hsz hb1 ht1 hi hz0 hz1 hz2
    rcases hE : findF (entsF l) t with _ | x
    · obtain ⟨r, hr2⟩ : ∃ r, resF (findF (entsF (l ++ [b])) t) = r := ⟨_, rfl⟩
      have HE1 := Lib.hid hE
      have HE2 := Lib.hid hr2
      clear hE hr2
      go_wp2_with (go_at_call 33; first
        | (with_reducible refine (find_calls l t A _ c _ _ rfl (by omega) (by omega) (Kd.row_below b5 hr)).mono ?_; rw [HE1.out]; rintro e w5 ⟨rfl, b6⟩; have s0 := cell_below b6 t0; have s1 := cell_below b6 t1; have s2 := cell_below b6 t2; have s3 := cell_below b6 t3; have s4 := cell_below b6 t4; have row5 := Kd.row_below b6 row4)
        | (with_reducible refine (find_calls (l ++ [b]) t A4 _ c4 _ _ (by simp) (by simp; omega) (by omega) row5).mono ?_; rw [HE2.out]; rintro e w7 ⟨rfl, b7'⟩; have b7 := bl_trans b5 (bl_trans b6 b7'); have row7 := Kd.row_below b7' row5))
      go_loopw [14] (fun kv w' => ∃ k : Nat, k ≤ 4 ∧ kv = .int .i64 k ∧ Below w7.heap.size w7 w') (fun kv _ => 4 - (intOf kv).toNat)
      case atStart => exact ⟨0, by omega, rfl, Below.refl _ _⟩
      case round =>
        obtain ⟨k, h1, rfl, bel⟩ := hrel
        by_cases h : k < 4
        · obtain ⟨a, ha⟩ : ∃ a, (foldF l).1[k]? = some a := ⟨_, List.getElem?_eq_getElem (by rw [HF1.out]; exact h)⟩
          obtain ⟨a', ha'⟩ : ∃ a', (foldF (l ++ [b])).1[k]? = some a' := ⟨_, List.getElem?_eq_getElem (by rw [HF2.out]; exact h)⟩
          have hmo := HMO.out k
          have hdl := HDL.out k
          have HA := Lib.hid ha
          have HA' := Lib.hid ha'
          obtain ⟨D, hD⟩ : ∃ D, D = doneF k (entsF l) := ⟨_, rfl⟩
          obtain ⟨G, hG⟩ : ∃ G, G = failF k (entsF l) := ⟨_, rfl⟩
          obtain ⟨D', hD'⟩ : ∃ D, D = doneF k (entsF (l ++ [b])) := ⟨_, rfl⟩
          obtain ⟨G', hG'⟩ : ∃ G, G = failF k (entsF (l ++ [b])) := ⟨_, rfl⟩
          rw [← hD, ← hD', ← hG, ← hG'] at hmo
          rw [← hD', ← hG'] at hdl
          have HD := Lib.hid hD
          have HG := Lib.hid hG
          have HD' := Lib.hid hD'
          have HG' := Lib.hid hG'
          have d1 : decide (D' < D) = false := by simp; omega
          have d2 : decide (G' < G) = false := by simp; omega
          have b8 := bl_trans b7 bel
          have row8 := Kd.row_below bel row7
          clear ha ha' hD hG hD' hG'
          go_wp2_with (go_at_call 32; first
            | (with_reducible refine (ask_calls l k a A _ c _ _ rfl (by omega) (by omega) (Kd.row_below b8 hr) h HA.out).mono ?_; rw [← HD.out, ← HG.out]; rintro e w9 ⟨rfl, b9⟩; have b9a := bl_trans b9 (bl_alloc (Below.refl w9.heap.size w9) (.cells #[.int .i64 a.balance, .int .i64 a.nonce, .int .i64 (l.length : Int), .int .i64 (D : Int), .int .i64 (G : Int)] 71)); have bb9 := alloc_new w9 (.cells #[.int .i64 a.balance, .int .i64 a.nonce, .int .i64 (l.length : Int), .int .i64 (D : Int), .int .i64 (G : Int)] 71))
            | (with_reducible refine (ask_calls (l ++ [b]) k a' A4 _ c4 _ _ (by simp) (by simp; omega) (by omega) (Kd.row_below b9a row8) h HA'.out).mono ?_; rw [← HD'.out, ← HG'.out]; rintro e w11 ⟨rfl, b11⟩; have z0 := cell_below b11 (block_cell bb9 (i := 0) rfl); have z1 := cell_below b11 (block_cell bb9 (i := 1) rfl); have z2 := cell_below b11 (block_cell bb9 (i := 2) rfl); have z3 := cell_below b11 (block_cell bb9 (i := 3) rfl); have z4 := cell_below b11 (block_cell bb9 (i := 4) rfl); have hlt9 : w9.heap.size < w11.heap.size := by (have := b11.size; simp at this; omega)))
          go_roundw
          case rel => exact ⟨k + 1, by omega, by go_num, bl_alloc (bl_trans (bl_trans bel b9a) b11) _⟩
          case measure => simp [intOf]; omega
        · have hk : k = 4 := by omega
          subst hk
          go_wp2_with fail
          go_ret
          exact ⟨rfl, bl_trans b7 bel⟩
    · have hx2 := HFI.out x hE
      have hh : (x.height != x.height) = false := by simp
      have he : (x.e != x.e) = false := by simp
      have HE1 := Lib.hid hE
      have HE2 := Lib.hid hx2
      clear hE hx2
      go_wp2_with (go_at_call 33; first
        | (with_reducible refine (find_calls l t A _ c _ _ rfl (by omega) (by omega) (Kd.row_below b5 hr)).mono ?_; rw [HE1.out]; rintro e w5 ⟨rfl, b6⟩; have s0 := cell_below b6 t0; have s1 := cell_below b6 t1; have s2 := cell_below b6 t2; have s3 := cell_below b6 t3; have s4 := cell_below b6 t4; have row5 := Kd.row_below b6 row4)
        | (with_reducible refine (find_calls (l ++ [b]) t A4 _ c4 _ _ (by simp) (by simp; omega) (by omega) row5).mono ?_; rw [HE2.out]; rintro e w7 ⟨rfl, b7'⟩; have b7 := bl_trans b5 (bl_trans b6 b7'); have row7 := Kd.row_below b7' row5))
      go_loopw [14] (fun kv w' => ∃ k : Nat, k ≤ 4 ∧ kv = .int .i64 k ∧ Below w7.heap.size w7 w') (fun kv _ => 4 - (intOf kv).toNat)
      case atStart => exact ⟨0, by omega, rfl, Below.refl _ _⟩
      case round =>
        obtain ⟨k, h1, rfl, bel⟩ := hrel
        by_cases h : k < 4
        · obtain ⟨a, ha⟩ : ∃ a, (foldF l).1[k]? = some a := ⟨_, List.getElem?_eq_getElem (by rw [HF1.out]; exact h)⟩
          obtain ⟨a', ha'⟩ : ∃ a', (foldF (l ++ [b])).1[k]? = some a' := ⟨_, List.getElem?_eq_getElem (by rw [HF2.out]; exact h)⟩
          have hmo := HMO.out k
          have hdl := HDL.out k
          have HA := Lib.hid ha
          have HA' := Lib.hid ha'
          obtain ⟨D, hD⟩ : ∃ D, D = doneF k (entsF l) := ⟨_, rfl⟩
          obtain ⟨G, hG⟩ : ∃ G, G = failF k (entsF l) := ⟨_, rfl⟩
          obtain ⟨D', hD'⟩ : ∃ D, D = doneF k (entsF (l ++ [b])) := ⟨_, rfl⟩
          obtain ⟨G', hG'⟩ : ∃ G, G = failF k (entsF (l ++ [b])) := ⟨_, rfl⟩
          rw [← hD, ← hD', ← hG, ← hG'] at hmo
          rw [← hD', ← hG'] at hdl
          have HD := Lib.hid hD
          have HG := Lib.hid hG
          have HD' := Lib.hid hD'
          have HG' := Lib.hid hG'
          have d1 : decide (D' < D) = false := by simp; omega
          have d2 : decide (G' < G) = false := by simp; omega
          have b8 := bl_trans b7 bel
          have row8 := Kd.row_below bel row7
          clear ha ha' hD hG hD' hG'
          go_wp2_with (go_at_call 32; first
            | (with_reducible refine (ask_calls l k a A _ c _ _ rfl (by omega) (by omega) (Kd.row_below b8 hr) h HA.out).mono ?_; rw [← HD.out, ← HG.out]; rintro e w9 ⟨rfl, b9⟩; have b9a := bl_trans b9 (bl_alloc (Below.refl w9.heap.size w9) (.cells #[.int .i64 a.balance, .int .i64 a.nonce, .int .i64 (l.length : Int), .int .i64 (D : Int), .int .i64 (G : Int)] 71)); have bb9 := alloc_new w9 (.cells #[.int .i64 a.balance, .int .i64 a.nonce, .int .i64 (l.length : Int), .int .i64 (D : Int), .int .i64 (G : Int)] 71))
            | (with_reducible refine (ask_calls (l ++ [b]) k a' A4 _ c4 _ _ (by simp) (by simp; omega) (by omega) (Kd.row_below b9a row8) h HA'.out).mono ?_; rw [← HD'.out, ← HG'.out]; rintro e w11 ⟨rfl, b11⟩; have z0 := cell_below b11 (block_cell bb9 (i := 0) rfl); have z1 := cell_below b11 (block_cell bb9 (i := 1) rfl); have z2 := cell_below b11 (block_cell bb9 (i := 2) rfl); have z3 := cell_below b11 (block_cell bb9 (i := 3) rfl); have z4 := cell_below b11 (block_cell bb9 (i := 4) rfl); have hlt9 : w9.heap.size < w11.heap.size := by (have := b11.size; simp at this; omega)))
          go_roundw
          case rel => exact ⟨k + 1, by omega, by go_num, bl_alloc (bl_trans (bl_trans bel b9a) b11) _⟩
          case measure => simp [intOf]; omega
        · have hk : k = 4 := by omega
          subst hk
          go_wp2_with fail
          go_ret
          exact ⟨rfl, bl_trans b7 bel⟩
end Go.Proofs.Ytflfpfaebndefab
