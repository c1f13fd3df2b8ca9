/- Package learner: New of what may not be; of nobody; Tips and Ledger where nothing was heard. No claim of its own; no condition. -/
import Derived.Test.YtcbfpdenjdgnlaaGreatQt50
namespace Go.Proofs.YtcbfpdenjdgnlaaGreat
open Go.ChangeShapes Go.WideShapes Go.ChangeAt Go.RowKit
set_option linter.unusedVariables false
set_option linter.unusedSimpArgs false
theorem stmts_nil : stmts [] = [] := by simp [stmts]
theorem lis_none (w : World) : Calls Tryz.prog 58 #[.pointer none] w fun x w' => x = .returned (.bool false) ∧ w' = w := by
  go_enter Tryz.func58, Tryz.ntmps58
  go_wp2
  go_ret
  exact ⟨rfl, rfl⟩
theorem stmts_none (w : World) : Calls Tryz.prog 26 #[.pointer none] w fun x w' => x = .returned (.slice none 0 0) ∧ w' = w := by
  have HI := Lib.hid (lis_none w)
  go_enter Tryz.func26, Tryz.ntmps26
  go_wp2_with (go_at_call 58; refine Calls.mono (HI.out) ?_; rintro x w1 ⟨rfl, hw1⟩; obtain rfl := hw1.symm)
  go_ret
  exact ⟨rfl, rfl⟩
theorem blocks_none (w : World) : Calls Tryz.prog 25 #[.pointer none] w fun x w' => x = .returned (.int .i64 0) ∧ w' = w := by
  have HI := Lib.hid (lis_none w)
  go_enter Tryz.func25, Tryz.ntmps25
  go_wp2_with (go_at_call 58; refine Calls.mono (HI.out) ?_; rintro x w1 ⟨rfl, hw1⟩; obtain rfl := hw1.symm)
  go_ret
  exact ⟨rfl, rfl⟩
theorem ledger_none (w : World) : Calls Tryz.prog 27 #[.pointer none] w fun x w' => x = .returned (.tuple #[.slice none 0 0, .int .i64 9]) ∧ w' = w := by
  have HI := Lib.hid (lis_none w)
  go_enter Tryz.func27, Tryz.ntmps27
  go_wp2_with (go_at_call 58; refine Calls.mono (HI.out) ?_; rintro x w1 ⟨rfl, hw1⟩; obtain rfl := hw1.symm)
  go_ret2
  exact ⟨rfl, rfl⟩
theorem hearz_none (A : Option Addr) (n c : Nat) (w : World) : Calls Tryz.prog 24 #[.pointer none, .slice A n c] w fun x w' => x = .returned (.bool false) ∧ Below w.heap.size w w' := by
  have HI := Lib.hid (fun W => lis_none W)
  go_enter Tryz.func24, Tryz.ntmps24
  go_wp2_with first
    | (refine wpList_allocTo rfl _ rfl (.pointer (some ⟨_, 0, none⟩)) (.cells msgC 79) (by kernel_rfl) ?_)
    | (go_at_call 58; refine Calls.mono (HI.out _) ?_; rintro x w1 ⟨rfl, hw1⟩; obtain rfl := hw1.symm)
  go_ret
  exact ⟨rfl, Below.refl _ _⟩
theorem index0Mark (A : Option Addr) (c : Nat) (fv : Value) (w : World) : Calls Tryz.prog 136 #[.slice A 0 c, fv] w fun x w' => x = .returned (.int .i64 (-1)) ∧ w' = w := by
  go_enter Tryz.func136, Tryz.ntmps136
  go_wp2
  refine wp_loop_rounds 1 ?_
  rw [rounds_succ]
  go_wp2
  go_ret
  exact ⟨rfl, rfl⟩
theorem delete0Mark (A : Option Addr) (c : Nat) (fv : Value) (w : World) : Calls Tryz.prog 71 #[.slice A 0 c, fv] w fun x w' => x = .returned (.slice A 0 c) ∧ w' = w := by
  have HI := Lib.hid (index0Mark A c fv w)
  go_enter Tryz.func71, Tryz.ntmps71
  go_wp2_with (go_at_call 136; refine Calls.mono (HI.out) ?_; rintro x w1 ⟨rfl, hw1⟩; obtain rfl := hw1.symm)
  go_ret
  exact ⟨rfl, rfl⟩
theorem marks0 (A : Option Addr) (c : Nat) (w : World) : Calls Tryz.prog 72 #[.slice A 0 c] w fun x w' => (∃ A' c', x = .returned (.slice A' 0 c')) ∧ Below w.heap.size w w' := by
  refine (marks_calls [] A 0 c w 0 rfl (by decide) (Kd.row_nil _ _ _ _ _)).mono ?_
  rintro x w' ⟨⟨v, M, rfl, own, hp, _⟩, b⟩
  have : M = [] := List.perm_nil.1 hp
  subst this
  obtain ⟨A', c', rfl, _⟩ := Kd.own_row own
  exact ⟨⟨A', c', rfl⟩, b⟩
/-- Tips where there are no statements. -/
theorem tips0 (p : Option Addr) (w : World) (hst : ∀ W, Below w.heap.size w W → Calls Tryz.prog 26 #[.pointer p] W fun x w' => (∃ A c, x = .returned (.slice A 0 c)) ∧ Below W.heap.size W w') :
    Calls Tryz.prog 28 #[.pointer p] w fun x w' => (∃ A c, x = .returned (.slice A 0 c)) ∧ Below w.heap.size w w' := by
  have q0 := bl_alloc (Below.refl w.heap.size w) (.cells #[.pointer p] 56)
  have HS := Lib.hid (hst _ q0)
  clear hst
  go_enter Tryz.func28, Tryz.ntmps28
  go_wp2_with first
    | (go_at_call 26; refine Calls.mono (HS.out) ?_; rintro x w1 ⟨⟨A1, c1, rfl⟩, b1⟩)
    | (go_at_call 72; refine Calls.mono (marks0 A1 c1 _) ?_; rintro x w2 ⟨⟨A2, c2, rfl⟩, b2⟩)
    | (go_at_call 71; refine Calls.mono (delete0Mark A2 c2 _ _) ?_; rintro x w3 ⟨rfl, hw3⟩; obtain rfl := hw3.symm)
  go_ret
  exact ⟨⟨A2, c2, rfl⟩, bl_trans (bl_alloc (bl_trans q0 b1) _) b2⟩
theorem tips_none (w : World) : Calls Tryz.prog 28 #[.pointer none] w fun x w' => (∃ A c, x = .returned (.slice A 0 c)) ∧ Below w.heap.size w w' :=
  tips0 none w fun W _ => (stmts_none W).mono fun x w' ⟨h1, h2⟩ => ⟨⟨none, 0, h1⟩, by rw [h2]; exact Below.refl _ _⟩
/-- Ledger where nothing was heard. -/
theorem ledger0 (N M m : Nat) (C : LCfg) (w : World) (h : LrnAt w N M m C [] []) :
    Calls Tryz.prog 27 #[.pointer (some ⟨N, 0, none⟩)] w fun x w' => (∃ A c, x = .returned (.tuple #[.slice A 0 c, .int .i64 0])) ∧ Below w.heap.size w w' := by
  have HT := Lib.hid (tips0 (some ⟨N, 0, none⟩) w fun W hW => (stmts_calls N M m C [] [] W (by decide) (stok_nil C) (lrnat_below h hW)).mono fun x w' ⟨⟨A, c, h1, _⟩, h2⟩ => ⟨⟨A, c, by rw [h1, stmts_nil]; rfl⟩, h2⟩)
  obtain ⟨T, A1, c1, A2, c2, es, h1, _⟩ := h
  have HI := Lib.hid (lis_at w N (some m) (block_cell h1 (i := 8) (v := .map (some m)) rfl))
  clear h1
  go_enter Tryz.func27, Tryz.ntmps27
  go_wp2_with first
    | (go_at_call 58; refine Calls.mono (HI.out) ?_; rintro x w1 ⟨rfl, hw1⟩; obtain rfl := hw1.symm)
    | (go_at_call 28; refine Calls.mono (HT.out) ?_; rintro x w1 ⟨⟨A1, c1, rfl⟩, b1⟩)
  refine wp_loop_rounds 1 ?_
  rw [rounds_succ]
  go_wp2
  refine wp_loop_rounds 1 ?_
  rw [rounds_succ]
  go_wp2
  go_ret2
  exact ⟨⟨none, 0, rfl⟩, b1⟩
/-- What New asks of a config. -/
def cfgB (n : Nat) (q : Int) : Bool := decide (1 ≤ n) && (decide (n ≤ 7) && (decide (1 ≤ q) && decide (q ≤ (n : Int))))
def NewBad (x : Ending) : Prop := ∃ e : Int, (e = 3 ∨ e = 81) ∧ x = .returned (.tuple #[.pointer none, .int .i64 e])
theorem lnew_bad (roots clients : List ByteArray) (Ar Ac : Option Addr) (nr cr nc cc : Nat) (q base cap rk rn : Int) (w : World) (hn : nr = roots.length) (hbad : cfgB roots.length q = false ∨ chkF (rk, rn) roots.length q ≠ 0) (hl : roots.length ≤ 2097152) :
    Calls Tryz.prog 23 #[.agg #[.slice Ar nr cr, .slice Ac nc cc, .int .i64 q, .int .i64 base, .int .i64 cap], .agg #[.int .i64 rk, .int .i64 rn]] w fun x w' => NewBad x ∧ Below w.heap.size w w' := by
  rw [← hn] at hbad hl
  have hch : chkF (rk, rn) nr q = 0 ∨ chkF (rk, rn) nr q = 81 := by unfold chkF; split <;> simp
  have a0 := alloc_old (alloc_new w (.cells #[.slice Ar nr cr, .slice Ac nc cc, .int .i64 q, .int .i64 base, .int .i64 cap] 24)) (.cells #[.int .i64 rk, .int .i64 rn] 26)
  have a1 : ((w.alloc (.cells #[.slice Ar nr cr, .slice Ac nc cc, .int .i64 q, .int .i64 base, .int .i64 cap] 24)).alloc (.cells #[.int .i64 rk, .int .i64 rn] 26)).heap[w.heap.size + 1]? = some (.cells #[.int .i64 rk, .int .i64 rn] 26 (0, 0)) := by
    have := alloc_new (w.alloc (.cells #[.slice Ar nr cr, .slice Ac nc cc, .int .i64 q, .int .i64 base, .int .i64 cap] 24)) (.cells #[.int .i64 rk, .int .i64 rn] 26)
    rwa [World.size_alloc] at this
  have q0 := bl_alloc (bl_alloc (Below.refl w.heap.size w) (.cells #[.slice Ar nr cr, .slice Ac nc cc, .int .i64 q, .int .i64 base, .int .i64 cap] 24)) (.cells #[.int .i64 rk, .int .i64 rn] 26)
  clear hn
  by_cases h1 : 1 ≤ nr
  case neg =>
    obtain rfl : nr = 0 := by omega
    clear hbad a0 a1
    go_enter Tryz.func23, Tryz.ntmps23
    go_wp2_with fail
    go_ret2
    exact ⟨⟨3, .inl rfl, rfl⟩, q0⟩
  by_cases h2 : nr ≤ 7
  case neg =>
    have i1 : ¬ ((nr : Int) < 1) := by omega
    have i2 : (nr : Int) > 7 := by omega
    clear hbad a0 a1
    go_enter Tryz.func23, Tryz.ntmps23
    go_wp2_with fail
    go_ret2
    exact ⟨⟨3, .inl rfl, rfl⟩, q0⟩
  have i1 : ¬ ((nr : Int) < 1) := by omega
  have i2 : ¬ ((nr : Int) > 7) := by omega
  have c2 := block_cell a0 (i := 2) (v := .int .i64 q) rfl
  have e0 := block_cell a1 (i := 0) (v := .int .i64 rk) rfl
  have e1 := block_cell a1 (i := 1) (v := .int .i64 rn) rfl
  by_cases h3 : 1 ≤ q
  case neg =>
    have i3 : q < 1 := by omega
    clear hbad a0 a1
    go_enter Tryz.func23, Tryz.ntmps23
    go_wp2_with fail
    go_ret2
    exact ⟨⟨3, .inl rfl, rfl⟩, q0⟩
  have i3 : ¬ q < 1 := by omega
  by_cases h4 : q ≤ (nr : Int)
  case neg =>
    have i4 : q > (nr : Int) := by omega
    clear hbad a0 a1
    go_enter Tryz.func23, Tryz.ntmps23
    go_wp2_with fail
    go_ret2
    exact ⟨⟨3, .inl rfl, rfl⟩, q0⟩
  have i4 : ¬ q > (nr : Int) := by omega
  have hch2 : chkF (rk, rn) nr q = 81 := by
    rcases hbad with hb | hb
    · simp [cfgB, h1, h2, h3, h4] at hb
    · exact hch.resolve_left hb
  have HC := Lib.hid hch2
  clear hbad a0 a1 hch hch2 h1 h2 h3 h4
  go_enter Tryz.func23, Tryz.ntmps23
  go_wp2_with (go_at_call 44; refine (chk_calls (rk, rn) _ q _).mono ?_; rintro x V1 ⟨rfl, b1⟩; rw [HC.out])
  go_ret2
  exact ⟨⟨81, .inr rfl, rfl⟩, bl_trans q0 b1⟩
end Go.Proofs.YtcbfpdenjdgnlaaGreat
/- Package mootlaw22: alive, and the walk of LearnerTakes. No claim of its own; no condition. -/
namespace Go.Proofs.YtcbfpdenjdgnlaaGreat
open Go.ChangeShapes Go.WideShapes Go.ChangeAt Go.RowKit
set_option linter.unusedVariables false
set_option linter.unusedSimpArgs false
theorem blocks_at (N M m : Nat) (C : LCfg) (bs : List Block) (vs : List Vote) (w : World) (h : LrnAt w N M m C bs vs) :
    Calls Tryz.prog 25 #[.pointer (some ⟨N, 0, none⟩)] w fun x w' => x = .returned (.int .i64 (bs.length : Int)) ∧ w' = w := by
  obtain ⟨T, A1, c1, A2, c2, es, h1, h2, h3, h4, h5, h6, h7, h8, h9⟩ := h
  have := lblocks_calls N T M m (entsV es) w (block_cell h1 (i := 0) (v := .pointer (some ⟨T, 0, none⟩)) rfl) (block_cell h1 (i := 8) (v := .map (some m)) rfl) h2 h4
  rwa [show (entsV es).length = bs.length by rw [← h9]; simp [entsV]] at this
theorem rowR2 (w : World) (B : Nat) : Kd.str.Row 9 B (w.alloc (.cells #[.string ⟨#[114]⟩] 9)) (some ⟨w.heap.size, 0, none⟩) [⟨#[114]⟩] := Kd.row_fresh1 (show Kd.str.K _ _ ⟨#[114]⟩ [.string ⟨#[114]⟩] from ⟨rfl, by decide⟩)
theorem lnewR (w : World) : Calls Tryz.prog 23 #[.agg #[.slice (some ⟨w.heap.size, 0, none⟩) 1 1, .slice none 0 0, .int .i64 1, .int .i64 0, .int .i64 0], .agg #[.int .i64 1, .int .i64 1]] (w.alloc (.cells #[.string ⟨#[114]⟩] 9))
    fun x w' => (∃ N M m, x = .returned (.tuple #[.pointer (some ⟨N, 0, none⟩), .int .i64 0]) ∧ LrnAt w' N M m ⟨[⟨#[114]⟩], [], 1, 0, 0, 1, 1⟩ [] []) ∧ Below w.heap.size w w' := by
  refine (lnew_ok [⟨#[114]⟩] [] (some ⟨w.heap.size, 0, none⟩) none 1 0 1 0 0 1 1 (w.alloc (.cells #[.string ⟨#[114]⟩] 9)) 0 (rowR2 w 0) (Kd.row_nil _ _ _ _ _) (by decide) (by decide) (by decide) (by decide) (by decide) (by decide)).mono ?_
  rintro x w' ⟨⟨N, rfl, h⟩, b⟩
  obtain ⟨M, m, _, _, h2⟩ := lrnat_new h
  exact ⟨⟨N, M, m, rfl, h2⟩, (bl_alloc (Below.refl _ _) _).trans (b.mono (by rw [World.size_alloc]; omega))⟩
set_option maxHeartbeats 1600000 in
set_option maxRecDepth 100000 in
theorem alive22_calls (w : World) : Calls Tryz.prog 22 #[] w fun e w' => e = .returned (.bool true) ∧ Below w.heap.size w w' := by
  have HN := Lib.hid (lnewR w)
  go_enter Tryz.func22, Tryz.ntmps22
  go_wp2_with first
    | (go_at_call 23; refine Calls.mono (HN.out) ?_; rintro x w1 ⟨⟨N, M, m, rfl, hL⟩, b1⟩; have F1 := Lib.hid (ledger0 N M m _ w1 hL); have HL1 := Lib.hid hL; clear hL)
    | (go_at_call 27; refine Calls.mono (F1.out) ?_; rintro x w2 ⟨⟨A, c, rfl⟩, b2⟩; have G1 := Lib.hid (blocks_at N M m _ [] [] w2 (lrnat_below HL1.out b2)))
    | (go_at_call 25; refine Calls.mono (G1.out) ?_; rintro x w3 ⟨rfl, hw3⟩; obtain rfl := hw3.symm)
  go_ret
  exact ⟨rfl, bl_trans b1 b2⟩
theorem any_snoc {α β : Type} [DecidableEq β] (f : α → β) (l : List α) (a : α) : ((l ++ [a]).any fun x => decide (f a = f x)) = true := by simp
/-- What was told is not taken again. -/
theorem hear_again (C : LCfg) (bs : List Block) (vs : List Vote) (o : List UInt8) : hearF C (hearF C bs vs o).2.1 (hearF C bs vs o).2.2 o = (false, (hearF C bs vs o).2.1, (hearF C bs vs o).2.2) := by
  cases hf : readF o with
  | none => simp [hearF, hf]
  | some K =>
    by_cases h1 : K.kind = 1
    · by_cases h2 : (bs.any fun b => decide (bname K.block = bname b)) = true ∨ validB K.block C.roots C.clients C.q = false
      · simp only [hearF, hf, if_pos h1, if_pos h2]
      · simp only [hearF, hf, if_pos h1, if_neg h2]
        rw [if_pos (.inl (any_snoc bname bs K.block))]
    · by_cases h2 : K.kind = 2
      · by_cases h3 : (vs.any fun v => decide (bareV K.vote = bareV v)) = true ∨ (K.vote.kind ≠ 2 ∧ K.vote.kind ≠ 3) ∨ validV K.vote C.roots = false
        · simp only [hearF, hf, if_neg h1, if_pos h2, if_pos h3]
        · simp only [hearF, hf, if_neg h1, if_pos h2, if_neg h3]
          rw [if_pos (.inl (any_snoc bareV vs K.vote))]
      · simp only [hearF, hf, if_neg h1, if_neg h2]
theorem hear_count (C : LCfg) (bs : List Block) (vs : List Vote) (o : List UInt8) : (hearF C bs vs o).2.1.length + (hearF C bs vs o).2.2.length = bs.length + vs.length + (if (hearF C bs vs o).1 = true then 1 else 0) := by
  unfold hearF
  cases hf : readF o with
  | none => simp
  | some K =>
    dsimp only
    split
    · split
      · simp
      · simp; omega
    · split
      · split
        · simp
        · simp; omega
      · simp
theorem sum_ge {α : Type} (f : α → Nat) (h : ∀ x, 1 ≤ f x) : ∀ l : List α, l.length ≤ (l.map f).sum
  | [] => Nat.le_refl _
  | a :: l => by
    have := sum_ge f h l
    have := h a
    simp only [List.length_cons, List.map_cons, List.sum_cons]
    omega
theorem cfg_ok {x : Config} {a b : Int} (h : kConfig.bulk x ≤ 1048576) : LCfg.ok ⟨x.roots, x.clients, x.quorum, x.base, x.cap, a, b⟩ := by
  have h1 := sum_ge Kd.str.bulk (fun s => Nat.le_add_left 1 _) x.roots
  have h2 := sum_ge Kd.str.bulk (fun s => Nat.le_add_left 1 _) x.clients
  simp only [kConfig, Kd.iso, Kd.pair, Kd.slice, Kd.int] at h
  exact ⟨by show x.roots.length ≤ _; omega, by show x.clients.length ≤ _; omega⟩
abbrev kOct : Kd (List UInt8) := Kd.slice 5 Kd.u8
theorem kOct_at {B e : Nat} {w : World} {A : Option Addr} {xs : List (List UInt8)} (h : Kd.Row kOct e B w A xs) {i : Nat} {x : List UInt8} (hx : xs[i]? = some x) : ∃ ad, A = some ad ∧ ∃ A5 c5, w.cell? (ad.add i) = some (.slice A5 x.length c5) ∧ x.length ≤ c5 ∧ c5 ≤ maxLen ∧ Kd.Row Kd.u8 5 B w A5 x := by
  obtain ⟨ad, cs, rfl, _, ⟨A5, c5, rfl, hl, hm, hr⟩, hc⟩ := Kd.row_at h hx
  have h0 := hc 0 _ rfl
  exact ⟨ad, rfl, A5, c5, by simpa [Kd.slice] using h0, hl, hm, hr⟩
set_option maxHeartbeats 6400000 in
set_option maxRecDepth 100000 in
theorem takes_walk (C : LCfg) (l : List (List UInt8)) (Ar Ac Al : Option Addr) (nr cr nc cc nl cl : Nat) (w : World) (hnr : nr = C.roots.length) (hnc : nc = C.clients.length) (hnl : nl = l.length) (hC : C.ok)
    (hrr : Kd.str.Row 9 w.heap.size w Ar C.roots) (hrc : Kd.str.Row 9 w.heap.size w Ac C.clients) (hrl : kOct.Row 60 w.heap.size w Al l) (hll : l.length ≤ 1048576) :
    Calls Tryz.prog 5 #[.agg #[.slice Ar nr cr, .slice Ac nc cc, .int .i64 C.q, .int .i64 C.base, .int .i64 C.cap], .agg #[.int .i64 C.rk, .int .i64 C.rn], .slice Al nl cl] w fun e w' => e = .returned (.bool true) ∧ Below w.heap.size w w' := by
  subst hnr hnc hnl
  have HAL := Lib.hid (fun W => alive22_calls W)
  have a0 := alloc_old (alloc_new w (.cells #[.slice Ar C.roots.length cr, .slice Ac C.clients.length cc, .int .i64 C.q, .int .i64 C.base, .int .i64 C.cap] 24)) (.cells #[.int .i64 C.rk, .int .i64 C.rn] 26)
  have a1 : ((w.alloc (.cells #[.slice Ar C.roots.length cr, .slice Ac C.clients.length cc, .int .i64 C.q, .int .i64 C.base, .int .i64 C.cap] 24)).alloc (.cells #[.int .i64 C.rk, .int .i64 C.rn] 26)).heap[w.heap.size + 1]? = some (.cells #[.int .i64 C.rk, .int .i64 C.rn] 26 (0, 0)) := by
    have := alloc_new (w.alloc (.cells #[.slice Ar C.roots.length cr, .slice Ac C.clients.length cc, .int .i64 C.q, .int .i64 C.base, .int .i64 C.cap] 24)) (.cells #[.int .i64 C.rk, .int .i64 C.rn] 26)
    rwa [World.size_alloc] at this
  have q0 := bl_alloc (bl_alloc (Below.refl w.heap.size w) (.cells #[.slice Ar C.roots.length cr, .slice Ac C.clients.length cc, .int .i64 C.q, .int .i64 C.base, .int .i64 C.cap] 24)) (.cells #[.int .i64 C.rk, .int .i64 C.rn] 26)
  have HCK := Lib.hid hC
  have HRR := Lib.hid hrr
  have HRC := Lib.hid hrc
  have HRL := Lib.hid hrl
  have HLL := Lib.hid hll
  clear hrr hrc hrl hll hC
  by_cases hok : cfgB C.roots.length C.q = true ∧ chkF (C.rk, C.rn) C.roots.length C.q = 0
  case neg =>
    have hbad : cfgB C.roots.length C.q = false ∨ chkF (C.rk, C.rn) C.roots.length C.q ≠ 0 := by
      by_cases h : cfgB C.roots.length C.q = true
      · exact .inr fun h2 => hok ⟨h, h2⟩
      · exact .inl (by simpa using h)
    have HNB := Lib.hid (fun W => lnew_bad C.roots C.clients Ar Ac C.roots.length cr C.clients.length cc C.q C.base C.cap C.rk C.rn W rfl hbad (by have := HCK.out.1; omega))
    clear hbad hok
    go_enter Tryz.func5, Tryz.ntmps5
    go_wp2_with first
      | (go_at_call 22; refine Calls.mono (HAL.out _) ?_; rintro x w1 ⟨rfl, b1⟩; have x0 := block_below b1 a0; have x1 := block_below b1 a1; have c0 := block_cell x0 (i := 0) rfl; have c1 := block_cell x0 (i := 1) rfl; have c2 := block_cell x0 (i := 2) rfl; have c3 := block_cell x0 (i := 3) rfl; have c4 := block_cell x0 (i := 4) rfl; have d0 := block_cell x1 (i := 0) rfl; have d1 := block_cell x1 (i := 1) rfl; have Q1 := Lib.hid (bl_trans q0 b1); clear a0 a1 x0 x1 q0 b1)
      | (go_at_call 23; refine Calls.mono (HNB.out _) ?_; rintro x w2 ⟨⟨e, rfl | rfl, rfl⟩, b2⟩)
    all_goals
      go_ret
      exact ⟨rfl, bl_trans Q1.out b2⟩
  case pos =>
    obtain ⟨hcf, hck⟩ := hok
    simp only [cfgB, Bool.and_eq_true, decide_eq_true_eq] at hcf
    obtain ⟨k1, k7, kq1, kq2⟩ := hcf
    have HNW := Lib.hid (fun W (h1 : Kd.str.Row 9 w.heap.size W Ar C.roots) (h2 : Kd.str.Row 9 w.heap.size W Ac C.clients) => lnew_ok C.roots C.clients Ar Ac cr cc C.q C.base C.cap C.rk C.rn W w.heap.size h1 h2 k1 k7 kq1 kq2 (by have := HCK.out.2; omega) hck)
    clear hck k1 k7 kq1 kq2
    go_enter Tryz.func5, Tryz.ntmps5
    go_upto_region 8 with first
      | (go_at_call 22; refine Calls.mono (HAL.out _) ?_; rintro x w1 ⟨rfl, b1⟩; have x0 := block_below b1 a0; have x1 := block_below b1 a1; have c0 := block_cell x0 (i := 0) rfl; have c1 := block_cell x0 (i := 1) rfl; have c2 := block_cell x0 (i := 2) rfl; have c3 := block_cell x0 (i := 3) rfl; have c4 := block_cell x0 (i := 4) rfl; have d0 := block_cell x1 (i := 0) rfl; have d1 := block_cell x1 (i := 1) rfl; have Q1 := Lib.hid (bl_trans q0 b1); clear a0 a1 x0 x1 q0 b1)
      | (go_at_call 23; refine Calls.mono (HNW.out _ (Kd.row_below Q1.out HRR.out) (Kd.row_below Q1.out HRC.out)) ?_; rintro x w2 ⟨⟨N, rfl, hnew⟩, b2⟩; obtain ⟨M, m, hM, hm, hL0⟩ := lrnat_new hnew; have Q2 := Lib.hid (bl_trans Q1.out b2); have HM := Lib.hid (show w.heap.size ≤ M from Nat.le_trans Q1.out.size hM); have Hm := Lib.hid (show w.heap.size ≤ m from Nat.le_trans Q1.out.size hm); clear hnew b2 hM hm c0 c1 c2 c3 c4 d0 d1 Q1)
    have HL0 := Lib.hid hL0
    clear hL0 HNW
    have hll := HLL.out
    go_loopw [9, 10] (fun nv iv wr => ∃ (k : Nat) (bs : List Block) (vs : List Vote), k ≤ l.length ∧ k ≤ 60 ∧ iv = .int .i64 k ∧ nv = .int .i64 ((bs.length + vs.length : Nat) : Int) ∧ Hid (LrnAt wr N M m C bs vs) ∧ Hid (StOk C bs vs) ∧ bs.length + vs.length ≤ k ∧ Hid (Below w.heap.size w wr)) (fun _ iv _ => 60 - (intOf iv).toNat)
    case atStart => exact ⟨0, [], [], by omega, by omega, rfl, rfl, HL0, Lib.hid (stok_nil C), by simp, Q2⟩
    case round =>
      obtain ⟨k, bs, vs, hk1, hk2, rfl, rfl, hL, hS, hcnt, bel⟩ := hrel
      clear HL0 Q2
      by_cases g1 : k < l.length
      · have g1i : (k : Int) < (l.length : Int) := by omega
        by_cases g2 : k < 60
        · have g2i : (k : Int) < 60 := by omega
          have g3i : (0 : Int) ≤ (k : Int) := by omega
          obtain ⟨o, ho⟩ : ∃ o, l[k]? = some o := ⟨_, List.getElem?_eq_getElem g1⟩
          obtain ⟨ad, rfl, A5, c5, e0, _, _, r5⟩ := kOct_at HRL.out ho
          have e1 := cell_below bel.out e0
          have E0 := Lib.hid e0
          have HA := Lib.hid (hear_at o A5 o.length c5 w.heap.size N M m C bs vs wr rfl (Kd.row_below bel.out r5) HCK.out hL.out)
          have R5 := Lib.hid r5
          obtain ⟨r, hr⟩ : ∃ r, hearF C bs vs o = r := ⟨_, rfl⟩
          obtain ⟨rb, bs2, vs2⟩ := r
          have hag := hear_again C bs vs o
          have hco := hear_count C bs vs o
          have hso := stok_hear hS.out o
          rw [hr] at hag hco hso
          dsimp only at hag hco hso
          have HAG := Lib.hid hag
          have HSO := Lib.hid hso
          have HR := Lib.hid hr
          clear hag hso hr r5 ho e0
          have hadd : ∀ (a b : Nat), bs2.length = a → True := fun _ _ _ => trivial
          clear hadd
          obtain ⟨nb, hnb⟩ : ∃ nb, bs2.length = nb := ⟨_, rfl⟩
          obtain ⟨nv, hnv⟩ : ∃ nv, vs2.length = nv := ⟨_, rfl⟩
          obtain ⟨n0, hn0⟩ : ∃ n0, bs.length + vs.length = n0 := ⟨_, rfl⟩
          rw [hnb, hnv, hn0] at hco
          rw [hn0] at hcnt
          simp only [hn0]
          have hco : nb + nv = n0 + (if rb = true then 1 else 0) := hco
          have HNB := Lib.hid hnb
          have HNV := Lib.hid hnv
          clear hnb hnv hn0
          cases rb with
          | true =>
            have hco : nb + nv = n0 + 1 := hco
            have HCO := Lib.hid hco
            have b0 : n0 ≤ 61 := by omega
            have bb : nb ≤ 61 := by omega
            have bv : nv ≤ 61 := by omega
            have hs1 : ((nb : Int) + (nv : Int) == (n0 : Int) + 1) = true := by rw [beq_iff_eq]; omega
            have hs2 : ((nb : Int) + (nv : Int) != (n0 : Int) + 1) = false := by rw [bne_eq_false_iff_eq]; omega
            clear hco
            go_wp2_with first
              | (go_at_call 24; (with_reducible refine Calls.mono (HA.out) ?_); rintro x w3 ⟨hx3, hL3, off3⟩; rw [HR.out] at hx3 hL3; obtain rfl := hx3; have bw3 := below_off off3 (by have := bel.out.size; exact this) (by rintro i (rfl | rfl); exact HM.out; exact Hm.out); have bel3 := bel.out.trans bw3; have e3 := cell_below bel3 E0.out; have L3 := Lib.hid hL3; have B3 := Lib.hid bel3; have HB := Lib.hid (hear_at o A5 o.length c5 w.heap.size N M m C bs2 vs2 w3 rfl (Kd.row_below bel3 R5.out) HCK.out hL3); clear hL3 off3 bw3 bel3)
              | (go_at_call 24; (with_reducible refine Calls.mono (HB.out) ?_); rintro x w4 ⟨hx4, hL4, off4⟩; rw [HAG.out] at hx4 hL4; obtain rfl := hx4; have bel4 := B3.out.trans (below_off off4 B3.out.size (by rintro i (rfl | rfl); exact HM.out; exact Hm.out)); have L4 := Lib.hid hL4; have B4 := Lib.hid bel4; have HBL := Lib.hid (blocks_at N M m C bs2 vs2 w4 hL4); have HST := Lib.hid (stmts_calls N M m C bs2 vs2 w4 (by have := HNV.out; omega) HSO.out hL4); clear hL4 off4 bel4)
              | (go_at_call 25; (with_reducible refine Calls.mono (HBL.out) ?_); rintro x w5 ⟨rfl, hw5⟩; obtain rfl := hw5.symm; rw [HNB.out])
              | (go_at_call 26; (with_reducible refine Calls.mono (HST.out) ?_); rintro x w6 ⟨⟨A6, c6, rfl, _⟩, b6⟩; rw [(stmts_perm vs2).length_eq, HNV.out])
            exact ⟨⟨k + 1, bs2, vs2, by omega, by omega, by go_num, (by rw [HNB.out, HNV.out]; congr 1; have := HCO.out; omega), Lib.hid (lrnat_below L4.out b6), HSO, (by rw [HNB.out, HNV.out]; have := HCO.out; omega), Lib.hid (bl_trans B4.out b6)⟩, by simp [intOf]; omega⟩
          | false =>
            have hco : nb + nv = n0 := hco
            have HCO := Lib.hid hco
            have b0 : n0 ≤ 61 := by omega
            have bb : nb ≤ 61 := by omega
            have bv : nv ≤ 61 := by omega
            have hs1 : ((nb : Int) + (nv : Int) == (n0 : Int)) = true := by rw [beq_iff_eq]; omega
            have hs2 : ((nb : Int) + (nv : Int) != (n0 : Int)) = false := by rw [bne_eq_false_iff_eq]; omega
            clear hco
            go_wp2_with first
              | (go_at_call 24; (with_reducible refine Calls.mono (HA.out) ?_); rintro x w3 ⟨hx3, hL3, off3⟩; rw [HR.out] at hx3 hL3; obtain rfl := hx3; have bw3 := below_off off3 (by have := bel.out.size; exact this) (by rintro i (rfl | rfl); exact HM.out; exact Hm.out); have bel3 := bel.out.trans bw3; have e3 := cell_below bel3 E0.out; have L3 := Lib.hid hL3; have B3 := Lib.hid bel3; have HB := Lib.hid (hear_at o A5 o.length c5 w.heap.size N M m C bs2 vs2 w3 rfl (Kd.row_below bel3 R5.out) HCK.out hL3); clear hL3 off3 bw3 bel3)
              | (go_at_call 24; (with_reducible refine Calls.mono (HB.out) ?_); rintro x w4 ⟨hx4, hL4, off4⟩; rw [HAG.out] at hx4 hL4; obtain rfl := hx4; have bel4 := B3.out.trans (below_off off4 B3.out.size (by rintro i (rfl | rfl); exact HM.out; exact Hm.out)); have L4 := Lib.hid hL4; have B4 := Lib.hid bel4; have HBL := Lib.hid (blocks_at N M m C bs2 vs2 w4 hL4); have HST := Lib.hid (stmts_calls N M m C bs2 vs2 w4 (by have := HNV.out; omega) HSO.out hL4); clear hL4 off4 bel4)
              | (go_at_call 25; (with_reducible refine Calls.mono (HBL.out) ?_); rintro x w5 ⟨rfl, hw5⟩; obtain rfl := hw5.symm; rw [HNB.out])
              | (go_at_call 26; (with_reducible refine Calls.mono (HST.out) ?_); rintro x w6 ⟨⟨A6, c6, rfl, _⟩, b6⟩; rw [(stmts_perm vs2).length_eq, HNV.out])
            exact ⟨⟨k + 1, bs2, vs2, by omega, by omega, by go_num, (by rw [HNB.out, HNV.out]; congr 1; have := HCO.out; omega), Lib.hid (lrnat_below L4.out b6), HSO, (by rw [HNB.out, HNV.out]; have := HCO.out; omega), Lib.hid (bl_trans B4.out b6)⟩, by simp [intOf]; omega⟩
        · have g2i : ¬ (k : Int) < 60 := by omega
          go_wp2_with first
            | (go_at_call 27; (with_reducible refine Calls.mono (ledger_none _) ?_); rintro x w3 ⟨rfl, hw3⟩; obtain rfl := hw3.symm)
            | (go_at_call 24; (with_reducible refine Calls.mono (hearz_none none 0 0 _) ?_); rintro x w4 ⟨rfl, b4⟩; have B4 := Lib.hid (bl_trans bel.out b4); clear b4)
            | (go_at_call 25; (with_reducible refine Calls.mono (blocks_none _) ?_); rintro x w5 ⟨rfl, hw5⟩; obtain rfl := hw5.symm)
            | (go_at_call 28; (with_reducible refine Calls.mono (tips_none _) ?_); rintro x w6 ⟨⟨A6, c6, rfl⟩, b6⟩; have B6 := Lib.hid (bl_trans B4.out b6); clear b6)
            | (go_at_call 26; (with_reducible refine Calls.mono (stmts_none _) ?_); rintro x w7 ⟨rfl, hw7⟩; obtain rfl := hw7.symm)
          go_ret
          exact ⟨rfl, B6.out⟩
      · have g1i : ¬ (k : Int) < (l.length : Int) := by omega
        go_wp2_with first
          | (go_at_call 27; (with_reducible refine Calls.mono (ledger_none _) ?_); rintro x w3 ⟨rfl, hw3⟩; obtain rfl := hw3.symm)
          | (go_at_call 24; (with_reducible refine Calls.mono (hearz_none none 0 0 _) ?_); rintro x w4 ⟨rfl, b4⟩; have B4 := Lib.hid (bl_trans bel.out b4); clear b4)
          | (go_at_call 25; (with_reducible refine Calls.mono (blocks_none _) ?_); rintro x w5 ⟨rfl, hw5⟩; obtain rfl := hw5.symm)
          | (go_at_call 28; (with_reducible refine Calls.mono (tips_none _) ?_); rintro x w6 ⟨⟨A6, c6, rfl⟩, b6⟩; have B6 := Lib.hid (bl_trans B4.out b6); clear b6)
          | (go_at_call 26; (with_reducible refine Calls.mono (stmts_none _) ?_); rintro x w7 ⟨rfl, hw7⟩; obtain rfl := hw7.symm)
        go_ret
        exact ⟨rfl, B6.out⟩
end Go.Proofs.YtcbfpdenjdgnlaaGreat
