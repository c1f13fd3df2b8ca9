/- Package tree: at, Get, Len. No claim of its own; no condition. -/
import Derived.Test.YtcbfpdenjdgnlaaGreatQt40
namespace Go.Proofs.YtcbfpdenjdgnlaaGreat
open Go.ChangeShapes Go.WideShapes Go.ChangeAt Go.RowKit
set_option linter.unusedVariables false
set_option linter.unusedSimpArgs false
set_option maxHeartbeats 1600000 in
set_option maxRecDepth 100000 in
theorem at_calls (T M : Nat) (s : ByteArray) (b : Block) (v1 v2 : Value) (is : Bool) (w : World) (hone : ((bcs b v1 v2).all fun x => x.oneCell') = true) (hT : w.heap[T]? = some (.cells #[.map (some M)] 169 (0, 0)))
    (hlk : ∀ W, Below w.heap.size w W → (Instr.lookup 167 (.map (some M)) (.string s) true).run Tryz.prog W = .ok (.tuple #[.agg (bcs b v1 v2), .bool is]) W) :
    Calls Tryz.prog 122 #[.pointer (some ⟨T, 0, none⟩), .string s] w fun x w' => x = .returned (.tuple #[.agg (bcs b v1 v2), .bool is]) ∧ Below w.heap.size w w' := by
  have q0 := bl_alloc (Below.refl w.heap.size w) (.cells bzC 40)
  have d0 := alloc_new w (.cells bzC 40)
  have a0 := alloc_old hT (.cells bzC 40)
  have hl := hlk _ q0
  obtain ⟨G, hG⟩ : ∃ G, w.heap.size = G := ⟨_, rfl⟩
  have leG : w.heap.size ≤ G := by omega
  rw [hG] at d0
  have HGG := Lib.hid hG
  have HONE := Lib.hid hone
  clear hlk hT hone
  go_enter Tryz.func122, Tryz.ntmps122
  go_upto_region 1 with fail
  change Code.wp _ _ _ _ (w.alloc (.cells bzC 40))
  generalize w.alloc (.cells bzC 40) = W at *
  clear hG
  have c0 := block_cell a0 (i := 0) (v := .map (some M)) rfl
  go_upto_region 4 with first
    | (refine wpList_allocTo rfl _ rfl (.pointer (some ⟨_, 0, none⟩)) (.cells bzC 40) (by kernel_rfl) ?_)
    | (refine wpList_store_new bzC 40 _ rfl rfl 40 (.tmp 6) (.tmp 18) rfl rfl (bcs b v1 v2) rfl size40 rfl HONE.out ?_)
  have f1 := alloc_new W (.cells (bcs b v1 v2) 40)
  have d1 := alloc_old d0 (.cells (bcs b v1 v2) 40)
  have q1 := bl_alloc q0 (.cells (bcs b v1 v2) 40)
  obtain ⟨G1, hG1⟩ : ∃ G, W.heap.size = G := ⟨_, rfl⟩
  simp only [hG1] at f1 ⊢
  clear hG1 hl c0 q0
  generalize W.alloc (.cells (bcs b v1 v2) 40) = W1 at *
  go_wp2_with first
    | (refine wpList_load_row rfl 40 (.tmp 6) rfl G1 rfl 40 _ (0, 0) _ f1 Tryz.underlying40 rfl size40 ?_)
    | (refine wpList_store_rowOf rfl 40 (.tmp 4) (.tmp 20) rfl G rfl rfl 40 _ d1 size40 rfl HONE.out ?_)
  refine bodyPost_ret (results_cell_row2 rfl _ _ G 40 _ (0, 0) _ rfl (setRow_same d1) Tryz.underlying40 rfl size40) rfl ?_
  exact ⟨rfl, bl_setRow q1 leG⟩
set_option maxHeartbeats 1600000 in
set_option maxRecDepth 100000 in
theorem tget_calls (T M : Nat) (s : ByteArray) (b : Block) (A1 A : Option Addr) (n1 c1 n c B : Nat) (is : Bool) (w : World) (hT : w.heap[T]? = some (.cells #[.map (some M)] 169 (0, 0)))
    (hlk : ∀ W, Below w.heap.size w W → (Instr.lookup 167 (.map (some M)) (.string s) true).run Tryz.prog W = .ok (.tuple #[.agg (bcs b (.slice A1 n1 c1) (.slice A n c)), .bool is]) W)
    (hn1 : n1 = b.justify.votes.length) (hn : n = b.txs.length) (hl1 : b.justify.votes.length ≤ 1048576) (hl : b.txs.length ≤ 1048576) (hr1 : kVote.Row 52 B w A1 b.justify.votes) (hr : kTx.Row 77 B w A b.txs) :
    Calls Tryz.prog 60 #[.pointer (some ⟨T, 0, none⟩), .string s] w fun x w' => (∃ A1' c1' A' c', x = .returned (.tuple #[.agg (bcs b (.slice A1' b.justify.votes.length c1') (.slice A' b.txs.length c')), .bool is])) ∧ Below w.heap.size w w' := by
  have q0 := bl_alloc (Below.refl w.heap.size w) (.cells bzC 40)
  have d0 := alloc_new w (.cells bzC 40)
  have a0 := alloc_old hT (.cells bzC 40)
  have hone : ((bcs b (.slice A1 n1 c1) (.slice A n c)).all fun x => x.oneCell') = true := by kernel_rfl
  have hat := at_calls T M s b (.slice A1 n1 c1) (.slice A n c) is _ hone a0 (fun W hW => hlk W (bl_trans q0 hW))
  have R1 := Lib.hid (Kd.row_below q0 hr1)
  have R2 := Lib.hid (Kd.row_below q0 hr)
  have HCP := Lib.hid (fun W (h1 : kVote.Row 52 B W A1 b.justify.votes) (h2 : kTx.Row 77 B W A b.txs) => copied_calls b A1 A n1 c1 n c B W hn1 hn hl1 hl h1 h2)
  obtain ⟨v1, hv1⟩ : ∃ v, Value.slice A1 n1 c1 = v := ⟨_, rfl⟩
  obtain ⟨v2, hv2⟩ : ∃ v, Value.slice A n c = v := ⟨_, rfl⟩
  rw [hv1, hv2] at hat HCP hone
  have HONE := Lib.hid hone
  obtain ⟨G, hG⟩ : ∃ G, w.heap.size = G := ⟨_, rfl⟩
  have leG : w.heap.size ≤ G := by omega
  rw [hG] at d0
  have HGG := Lib.hid hG
  have HAT := Lib.hid hat
  clear hone hlk hT hat hv1 hv2 hr1 hr hl1 hl hn hn1
  go_enter Tryz.func60, Tryz.ntmps60
  go_upto_region 1 with fail
  change Code.wp _ _ _ _ (w.alloc (.cells bzC 40))
  generalize w.alloc (.cells bzC 40) = W at *
  clear hG
  go_upto_region 2 with first
    | (refine wpList_allocTo rfl _ rfl (.pointer (some ⟨_, 0, none⟩)) (.cells bzC 40) (by kernel_rfl) ?_)
    | (go_at_call 122; refine (HAT.out).mono ?_; rintro x w1 ⟨rfl, b1⟩)
    | (refine wpList_store_new bzC 40 _ rfl rfl 40 (.tmp 6) (.tmp 12) rfl rfl (bcs b v1 v2) rfl size40 rfl HONE.out ?_)
  have f1 := alloc_new w1 (.cells (bcs b v1 v2) 40)
  have d1 := alloc_old (block_below b1 d0) (.cells (bcs b v1 v2) 40)
  have q1 := bl_alloc (bl_trans q0 b1) (.cells (bcs b v1 v2) 40)
  have k1 := bl_alloc b1 (.cells (bcs b v1 v2) 40)
  have R1' := Lib.hid (Kd.row_below k1 R1.out)
  have R2' := Lib.hid (Kd.row_below k1 R2.out)
  obtain ⟨G1, hG1⟩ : ∃ G, w1.heap.size = G := ⟨_, rfl⟩
  simp only [hG1] at f1 ⊢
  clear hG1 q0 R1 R2 k1 HAT a0 d0
  generalize w1.alloc (.cells (bcs b v1 v2) 40) = W1 at *
  go_wp2_with first
    | (refine wpList_load_row rfl 40 (.tmp 6) rfl G1 rfl 40 _ (0, 0) _ f1 Tryz.underlying40 rfl size40 ?_)
    | (go_at_call 123; refine (HCP.out _ R1'.out R2'.out).mono ?_; rintro x w2 ⟨⟨A1', c1', A', c', rfl, o1, o2⟩, b2⟩; have d2 := block_below b2 d1)
    | (refine wpList_store_rowOf rfl 40 (.tmp 4) (.tmp 15) rfl G rfl rfl 40 _ d2 size40 rfl (by kernel_rfl) ?_)
  refine bodyPost_ret (results_cell_row2 rfl _ _ G 40 _ (0, 0) _ rfl (setRow_same d2) Tryz.underlying40 rfl size40) rfl ?_
  exact ⟨⟨A1', c1', A', c', rfl⟩, bl_setRow (bl_trans q1 b2) leG⟩
end Go.Proofs.YtcbfpdenjdgnlaaGreat
/- Package tree: Put of a new block. No claim of its own; no condition. Printed by a program of this session. -/
namespace Go.Proofs.YtcbfpdenjdgnlaaGreat
open Go.ChangeShapes Go.WideShapes Go.ChangeAt Go.RowKit
set_option linter.unusedVariables false
set_option linter.unusedSimpArgs false
section
variable {κ : Type} [DecidableEq κ] {kt : TypeId} (D : KeyD κ kt)
theorem update_at {w : World} {b t e : Nat} {m : List (κ × Value)} (h : SMap D w b m) (ht : Tryz.prog.underlying t = some (.map kt e)) (s : κ) (v : Value) :
    ∃ w', (Instr.mapUpdate t (.map (some b)) (D.val s) v).run Tryz.prog w = .ok () w' ∧ SMap D w' b (putS s v m) ∧ (∀ N, N ≤ b → Below N w w') ∧ ∀ k, k ≠ b → w'.heap[k]? = w.heap[k]? := by
  obtain ⟨o, h1, h2⟩ := update_ok D h ht s v
  exact ⟨_, h1, h2, fun N hN => setB_below o hN, fun k hk => setB_other o hk⟩
theorem smap_below {w w' : World} {b : Nat} {m : List (κ × Value)} (h : SMap D w b m) (k : Below w.heap.size w w') : SMap D w' b m :=
  smap_same D h (k.block b (smap_lt D h))
theorem lookS_none {s : κ} {v : Value} {m : List (κ × Value)} (h : lookS s m = none) : putS s v m = m ++ [(s, v)] := by
  unfold lookS at h
  rw [Option.map_eq_none_iff] at h
  exact put_none s v m 0 h
end
theorem zero40 : ∀ w, (zeroValue 40).run Tryz.prog w = .ok (.agg bzC) w := fun w => by kernel_rfl
def puA (G T M : Nat) (nm : ByteArray) (b : Block) (v1 v2 : Value) (V : Nat) : Nat → Value → World → Prop
  | 0, y, _ => y = .pointer (some ⟨T, 0, none⟩)
  | 1, y, _ => y = .pointer (some ⟨T, 0, none⟩)
  | 2, y, _ => y = .pointer (some ⟨T, 0, none⟩)
  | 3, y, _ => y = .map (some M)
  | 4, y, _ => y = .string nm
  | 5, y, _ => y = .agg (bcs b v1 v2)
  | 6, y, w => ∃ A1' c1' A' c', y = .agg (bcs b (.slice A1' b.justify.votes.length c1') (.slice A' b.txs.length c')) ∧ kVote.Own 52 V w V (.slice A1' b.justify.votes.length c1') b.justify.votes ∧ kTx.Own 77 V w V (.slice A' b.txs.length c') b.txs
  | _, _, _ => True
set_option maxHeartbeats 3200000 in
set_option maxRecDepth 100000 in
theorem tputb_calls (T M : Nat) (es : List (ByteArray × Value)) (b : Block) (A1 A : Option Addr) (n1 c1 n c B : Nat) (w : World) (hT : w.heap[T]? = some (.cells #[.map (some M)] 169 (0, 0))) (hM : SMap keyStr w M es) (hnew : lookS (bname b) es = none) (hok : blockOk b = true)
    (hn1 : n1 = b.justify.votes.length) (hn : n = b.txs.length) (hl1 : b.justify.votes.length ≤ 1048576) (hr1 : kVote.Row 52 B w A1 b.justify.votes) (hr : kTx.Row 77 B w A b.txs) :
    Calls Tryz.prog 63 #[.pointer (some ⟨T, 0, none⟩), .agg (bcs b (.slice A1 n1 c1) (.slice A n c))] w fun x w' => x = .returned (.bool true) ∧ ∃ W A1' c1' A' c', Below w.heap.size w W ∧ (∀ N, N ≤ M → Below N W w') ∧ (∀ k, k ≠ M → w'.heap[k]? = W.heap[k]?) ∧
      SMap keyStr w' M (es ++ [(bname b, .agg (bcs b (.slice A1' b.justify.votes.length c1') (.slice A' b.txs.length c')))]) ∧ kVote.Own 52 w.heap.size W w.heap.size (.slice A1' b.justify.votes.length c1') b.justify.votes ∧ kTx.Own 77 w.heap.size W w.heap.size (.slice A' b.txs.length c') b.txs := by
  obtain ⟨_, htl, _, _, _, _⟩ := blockOk_bd hok
  have hn32 : (bname b).size = 32 := by unfold bname; rw [if_pos hok, sb_size, shaB_len]
  have q0 := bl_alloc (Below.refl w.heap.size w) (.cells (bcs b (.slice A1 n1 c1) (.slice A n c)) 40)
  have a0 := alloc_new w (.cells (bcs b (.slice A1 n1 c1) (.slice A n c)) 40)
  have t0 := alloc_old hT (.cells (bcs b (.slice A1 n1 c1) (.slice A n c)) 40)
  have m0 := smap_below keyStr hM q0
  have R1 := Lib.hid (Kd.row_below q0 hr1)
  have R2 := Lib.hid (Kd.row_below q0 hr)
  have HCP := Lib.hid (fun W (h1 : kVote.Row 52 B W A1 b.justify.votes) (h2 : kTx.Row 77 B W A b.txs) => copied_calls b A1 A n1 c1 n c B W hn1 hn hl1 (by omega) h1 h2)
  have HNM := Lib.hid (fun W (h2 : kTx.Row 77 B W A b.txs) => bName_calls b A1 A n1 c1 n c B W hn (by omega) h2)
  have hone : (bzC.all fun x => x.oneCell') = true := by kernel_rfl
  obtain ⟨v1, hv1⟩ : ∃ v, Value.slice A1 n1 c1 = v := ⟨_, rfl⟩
  obtain ⟨v2, hv2⟩ : ∃ v, Value.slice A n c = v := ⟨_, rfl⟩
  obtain ⟨nm, hnm⟩ : ∃ v, bname b = v := ⟨_, rfl⟩
  rw [hv1, hv2] at q0 a0 t0 m0 R1 R2 HCP HNM ⊢
  rw [hnm] at hn32 hnew HNM ⊢
  have hne : (nm.toList == ([] : List UInt8)) = false := by
    rw [beq_eq_false_iff_ne]
    intro h
    rw [ByteArray.toList_eq] at h
    have := congrArg List.length h
    simp at this
    have h2 : nm.size = 0 := by simpa using this
    omega
  obtain ⟨G, hG⟩ : ∃ G, w.heap.size = G := ⟨_, rfl⟩
  rw [hG] at a0
  have HGG := Lib.hid hG
  have HQ := Lib.hid q0
  have HNEW := Lib.hid hnew
  clear hv1 hv2 hr1 hr hnm hn32 hok hn hn1 hl1 htl hT hM hnew q0
  go_enter Tryz.func63, Tryz.ntmps63
  go_upto_region 1 with fail
  change Code.wp _ _ _ _ (w.alloc (.cells (bcs b v1 v2) 40))
  generalize w.alloc (.cells (bcs b v1 v2) 40) = W at *
  clear hG
  obtain ⟨r0, r1, r2, r3, r4, r5, r6, r7, r8⟩ := bcells a0
  go_upto_region 2 with (go_at_call 61; refine (HNM.out _ R2.out).mono ?_; rintro x w1 ⟨rfl, b1⟩)
  have a1 := block_below b1 a0
  have t1 := block_below b1 t0
  have m1 := smap_below keyStr m0 b1
  have HB1 := Lib.hid (bl_trans HQ.out b1)
  have R1' := Lib.hid (Kd.row_below b1 R1.out)
  have R2' := Lib.hid (Kd.row_below b1 R2.out)
  clear r0 r1 r2 r3 r4 r5 r6 r7 r8 a0 t0 m0 R1 R2 HNM HQ b1
  have z0 := block_cell t1 (i := 0) (v := .map (some M)) rfl
  have hlk := lookup_ok keyStr m1 Tryz.underlying167 (zero40 _) nm
  rw [HNEW.out] at hlk
  have hlk2 : (Instr.lookup 167 (.map (some M)) (.string nm) true).run Tryz.prog w1 = .ok (.tuple #[.agg bzC, .bool false]) w1 := hlk
  clear hlk
  have hmn : (binOp .eql 167 (.map (some M)) (.map none)).run Tryz.prog w1 = .ok (.bool false) w1 := by kernel_rfl
  have HONE := Lib.hid hone
  clear hone
  go_upto_region 5 with first
    | (refine wpList_allocTo rfl _ rfl (.pointer (some ⟨_, 0, none⟩)) (.cells bzC 40) (by kernel_rfl) ?_)
    | (refine wpList_store_new bzC 40 _ rfl rfl 40 (.tmp 6) (.tmp 30) rfl rfl bzC rfl size40 rfl HONE.out ?_)
  have k4 := bl_alloc (Below.refl w1.heap.size w1) (.cells bzC 40)
  have HG := Lib.hid (alloc_old a1 (.cells bzC 40))
  have HT := Lib.hid (alloc_old t1 (.cells bzC 40))
  have HM4 := Lib.hid (smap_below keyStr m1 k4)
  have HB4 := Lib.hid (bl_trans HB1.out k4)
  have R1 := Lib.hid (Kd.row_below k4 R1'.out)
  have R2 := Lib.hid (Kd.row_below k4 R2'.out)
  clear z0 hlk2 hmn a1 t1 m1 HB1 R1' R2' k4
  generalize w1.alloc (.cells bzC 40) = W4 at *
  go_upto_region 7 with fail
  refine wp_region_any (by kernel_rfl) ?_
  refine wpAny_invtA [true, true, true, true, true, true, true, false] [7] (by kernel_rfl) (by kernel_rfl) Rb (puA G T M nm b v1 v2 W4.heap.size) rb_refl rb_trans ⟨?_, ?_, ?_, ?_, ?_, ?_, ?_, trivial⟩ ?_
  · intro Fr u hN hO w1 hR hdep K hK
    rw [if_pos (by rfl)]
    have y0 : Fr.tmps[0]? = some (.pointer (some ⟨T, 0, none⟩)) := hO 0 _ rfl rfl
    clear hN hO hdep
    go_simp
    refine hK _ _ (rb_refl _) fun w3 h3 => ?_
    exact rfl
  · intro Fr u hN hO w1 hR hdep K hK
    rw [if_pos (by rfl)]
    have x0 : Fr.tmps[33]? = some (u 0) := hN 0 _ 33 rfl rfl rfl
    rw [show u 0 = .pointer (some ⟨T, 0, none⟩) from hdep 0 (by kernel_rfl) w1 (rb_refl _)] at x0
    clear hN hO hdep
    go_simp
    refine hK _ _ (rb_refl _) fun w3 h3 => ?_
    exact rfl
  · intro Fr u hN hO w1 hR hdep K hK
    rw [if_pos (by rfl)]
    have x1 : Fr.tmps[34]? = some (u 1) := hN 1 _ 34 rfl rfl rfl
    rw [show u 1 = .pointer (some ⟨T, 0, none⟩) from hdep 1 (by kernel_rfl) w1 (rb_refl _)] at x1
    clear hN hO hdep
    go_simp
    refine hK _ _ (rb_refl _) fun w3 h3 => ?_
    exact rfl
  · intro Fr u hN hO w1 hR hdep K hK
    rw [if_pos (by rfl)]
    have x2 : Fr.tmps[35]? = some (u 2) := hN 2 _ 35 rfl rfl rfl
    rw [show u 2 = .pointer (some ⟨T, 0, none⟩) from hdep 2 (by kernel_rfl) w1 (rb_refl _)] at x2
    clear hN hO hdep
    have z0 := block_cell (block_below hR HT.out) (i := 0) (v := .map (some M)) rfl
    go_simp
    refine hK _ _ (rb_refl _) fun w3 h3 => ?_
    exact rfl
  · intro Fr u hN hO w1 hR hdep K hK
    rw [if_pos (by rfl)]
    have y5 : Fr.tmps[5]? = some (.string nm) := hO 5 _ rfl rfl
    clear hN hO hdep
    go_simp
    refine hK _ _ (rb_refl _) fun w3 h3 => ?_
    exact rfl
  · intro Fr u hN hO w1 hR hdep K hK
    rw [if_pos (by rfl)]
    have y3 : Fr.tmps[3]? = some (.pointer (some ⟨G, 0, none⟩)) := hO 3 _ rfl rfl
    clear hN hO hdep
    obtain ⟨z0, z1, z2, z3, z4, z5, z6, z7, z8⟩ := bcells (block_below hR HG.out)
    go_simp
    refine hK _ _ (rb_refl _) fun w3 h3 => ?_
    exact rfl
  · intro Fr u hN hO w1 hR hdep K hK
    rw [if_pos (by rfl)]
    have x5 : Fr.tmps[38]? = some (u 5) := hN 5 _ 38 rfl rfl rfl
    rw [show u 5 = .agg (bcs b v1 v2) from hdep 5 (by kernel_rfl) w1 (rb_refl _)] at x5
    clear hN hO hdep
    go_simp
    refine (HCP.out w1 (Kd.row_below hR R1.out) (Kd.row_below hR R2.out)).mono ?_
    rintro x w2 ⟨⟨A1', c1', A', c', rfl, o1, o2⟩, b2⟩
    refine hK _ _ b2 fun w3 h3 => ?_
    exact ⟨A1', c1', A', c', rfl, Kd.own_flat flatVote (Kd.own_below o1 h3) hR.size, Kd.own_flat flatTx (Kd.own_below o2 h3) hR.size⟩
  · intro u w1 hR hall
    obtain ⟨A6, c6, A7, c7, e6, o6, o7⟩ := hall 6 rfl
    have e3 : u 3 = .map (some M) := hall 3 rfl
    have e4 : u 4 = .string nm := hall 4 rfl
    have bw : Below W4.heap.size W4 w1 := bl_trans (bl_drew (Below.refl _ _)) hR
    have m5 := smap_below keyStr HM4.out bw
    obtain ⟨W8, hup, s3, bW, oW⟩ := update_at keyStr m5 Tryz.underlying167 nm (.agg (bcs b (.slice A6 b.justify.votes.length c6) (.slice A7 b.txs.length c7)))
    rw [lookS_none HNEW.out] at s3
    have hup2 : (Instr.mapUpdate 167 (.map (some M)) (.string nm) (.agg (bcs b (.slice A6 b.justify.votes.length c6) (.slice A7 b.txs.length c7)))).run Tryz.prog w1 = .ok () W8 := hup
    change wpList _ _ _ ([_]) _ _
    simp only [frameM, frameM_nil, Act.put, List.setIfInBounds_toArray, List.set_cons_zero, List.set_cons_succ, Nat.reduceAdd, e3, e4, e6]
    have leW := HB4.out.size
    have p6 := Kd.own_flat (B' := w.heap.size) flatVote o6 leW
    have p7 := Kd.own_flat (B' := w.heap.size) flatTx o7 leW
    have bz := bl_trans HB4.out bw
    clear hall e3 e4 e6 hR HM4 m5 hup bw o6 o7 HB4
    go_wp2_with fail
    go_ret
    exact ⟨rfl, w1, A6, c6, A7, c7, bz, bW, oW, s3, p6, p7⟩
end Go.Proofs.YtcbfpdenjdgnlaaGreat
