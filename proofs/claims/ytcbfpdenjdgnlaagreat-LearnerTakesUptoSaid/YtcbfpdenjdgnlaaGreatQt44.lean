/- Package learner: Hear of a block. No claim of its own; no condition. Printed by a program of this session. -/
import Derived.Test.YtcbfpdenjdgnlaaGreatQt43
namespace Go.Proofs.YtcbfpdenjdgnlaaGreat
open Go.ChangeShapes Go.WideShapes Go.ChangeAt Go.RowKit
set_option linter.unusedVariables false
set_option linter.unusedSimpArgs false
theorem mbcells {W : World} {g : Nat} {m : Msg} {v1 v2 v3 v4 : Value} {t : TypeId} {f : Nat × Nat} (h : W.heap[g]? = some (.cells (mcs m v1 v2 v3 v4) t f)) :
    W.cell? ⟨g, 1, none⟩ = some (.int .i64 m.block.view) ∧ W.cell? ⟨g, 2, none⟩ = some (.int .i64 m.block.height) ∧ W.cell? ⟨g, 3, none⟩ = some (.string m.block.parent) ∧ W.cell? ⟨g, 4, none⟩ = some (.int .i64 m.block.justify.view) ∧ W.cell? ⟨g, 5, none⟩ = some (.int .i64 m.block.justify.height) ∧
    W.cell? ⟨g, 6, none⟩ = some (.string m.block.justify.block) ∧ W.cell? ⟨g, 7, none⟩ = some v1 ∧ W.cell? ⟨g, 8, none⟩ = some v2 ∧ W.cell? ⟨g, 9, none⟩ = some (.string m.block.sig) :=
  ⟨block_cell h (by kernel_rfl), block_cell h (by kernel_rfl), block_cell h (by kernel_rfl), block_cell h (by kernel_rfl), block_cell h (by kernel_rfl), block_cell h (by kernel_rfl), block_cell h (by kernel_rfl), block_cell h (by kernel_rfl), block_cell h (by kernel_rfl)⟩
def heA (G N T : Nat) (M : Msg) (v1 v2 : Value) (nm : ByteArray) (bo : Block) (is : Bool) (V : Nat) : Nat → Value → World → Prop
  | 0, y, _ => y = .pointer (some ⟨N, 0, none⟩)
  | 1, y, _ => y = .pointer (some ⟨N, 0, none⟩)
  | 2, y, _ => y = .pointer (some ⟨N, 0, none⟩)
  | 3, y, _ => y = .pointer (some ⟨T, 0, none⟩)
  | 4, y, _ => y = .pointer (some ⟨G, 1, none⟩)
  | 5, y, _ => y = .agg (bcs M.block v1 v2)
  | 6, y, _ => y = .string nm
  | 7, y, w => ∃ A1' c1' A' c', y = .tuple #[.agg (bcs bo (.slice A1' bo.justify.votes.length c1') (.slice A' bo.txs.length c')), .bool is]
  | 8, y, w => ∃ A1' c1' A' c', y = .tuple #[.agg (bcs bo (.slice A1' bo.justify.votes.length c1') (.slice A' bo.txs.length c')), .bool is]
  | 9, y, w => ∃ A1' c1' A' c', y = .agg (bcs bo (.slice A1' bo.justify.votes.length c1') (.slice A' bo.txs.length c'))
  | 10, y, _ => y = .bool is
  | 11, y, w => ∃ X, y = .pointer (some ⟨X, 0, none⟩) ∧ w.heap[X]? = some (.cells bzC 40 (0, 0)) ∧ V ≤ X
  | _, _, _ => True

def HBPost (Mp : Nat) (es : List (ByteArray × Value)) (b : Block) (is val : Bool) (w : World) (x : Ending) (w' : World) : Prop :=
  ((is = true ∨ val = false) ∧ x = .returned (.bool false) ∧ Below w.heap.size w w') ∨
  (is = false ∧ val = true ∧ x = .returned (.bool true) ∧ ∃ W0, Below w.heap.size w W0 ∧ ∃ W A1' c1' A' c', Below W0.heap.size W0 W ∧ (∀ N, N ≤ Mp → Below N W w') ∧ (∀ k, k ≠ Mp → w'.heap[k]? = W.heap[k]?) ∧
      SMap keyStr w' Mp (es ++ [(bname b, .agg (bcs b (.slice A1' b.justify.votes.length c1') (.slice A' b.txs.length c')))]) ∧ kVote.Own 52 W0.heap.size W W0.heap.size (.slice A1' b.justify.votes.length c1') b.justify.votes ∧ kTx.Own 77 W0.heap.size W W0.heap.size (.slice A' b.txs.length c') b.txs)
def heA8 (G N T : Nat) (M : Msg) (v1 v2 : Value) (Ar Ac : Option Addr) (L cr Lc cc : Nat) (q base cap : Int) : Nat → Value → World → Prop
  | 0, y, _ => y = .bool true
  | 1, y, _ => y = .bool false
  | 2, y, _ => y = .bool false
  | 3, y, _ => y = undef
  | 4, y, _ => y = undef
  | 5, y, _ => y = undef
  | 6, y, _ => y = undef
  | 7, y, _ => y = undef
  | 8, y, _ => y = undef
  | 9, y, _ => y = undef
  | 10, y, _ => y = .bool false
  | 11, y, _ => y = .bool false
  | 12, y, _ => y = undef
  | 13, y, _ => y = undef
  | 14, y, _ => y = undef
  | 15, y, _ => y = undef
  | 16, y, _ => y = undef
  | 17, y, _ => y = undef
  | 18, y, _ => y = undef
  | 19, y, _ => y = .bool false
  | 20, y, _ => y = .bool false
  | _, _, _ => True
def heB8 (G N T : Nat) (M : Msg) (v1 v2 : Value) (Ar Ac : Option Addr) (L cr Lc cc : Nat) (q base cap : Int) : Nat → Value → World → Prop
  | 0, y, _ => y = .bool false
  | 1, y, _ => y = .bool true
  | 2, y, _ => y = .bool true
  | 3, y, _ => y = .pointer (some ⟨G, 1, none⟩)
  | 4, y, _ => y = .agg (bcs M.block v1 v2)
  | 5, y, _ => y = .pointer (some ⟨N, 0, none⟩)
  | 6, y, _ => y = .pointer (some ⟨N, 0, none⟩)
  | 7, y, _ => y = .pointer (some ⟨N, 1, none⟩)
  | 8, y, _ => y = .agg #[.slice Ar L cr, .slice Ac Lc cc, .int .i64 q, .int .i64 base, .int .i64 cap]
  | 9, y, _ => y = .bool false
  | 10, y, _ => y = .bool false
  | 11, y, _ => y = .bool false
  | 12, y, _ => y = undef
  | 13, y, _ => y = undef
  | 14, y, _ => y = undef
  | 15, y, _ => y = undef
  | 16, y, _ => y = undef
  | 17, y, _ => y = undef
  | 18, y, _ => y = undef
  | 19, y, _ => y = .bool false
  | 20, y, _ => y = .bool false
  | _, _, _ => True
def heC (G N T : Nat) (M : Msg) (v1 v2 : Value) (Ar Ac : Option Addr) (L cr Lc cc : Nat) (q base cap : Int) : Nat → Value → World → Prop
  | 0, y, _ => y = .bool false
  | 1, y, _ => y = .bool true
  | 2, y, _ => y = .bool true
  | 3, y, _ => y = .pointer (some ⟨G, 1, none⟩)
  | 4, y, _ => y = .agg (bcs M.block v1 v2)
  | 5, y, _ => y = .pointer (some ⟨N, 0, none⟩)
  | 6, y, _ => y = .pointer (some ⟨N, 0, none⟩)
  | 7, y, _ => y = .pointer (some ⟨N, 1, none⟩)
  | 8, y, _ => y = .agg #[.slice Ar L cr, .slice Ac Lc cc, .int .i64 q, .int .i64 base, .int .i64 cap]
  | 9, y, _ => y = .bool true
  | 10, y, _ => y = .bool true
  | 11, y, _ => y = .bool true
  | 12, y, _ => y = .pointer (some ⟨N, 0, none⟩)
  | 13, y, _ => y = .pointer (some ⟨N, 0, none⟩)
  | 14, y, _ => y = .pointer (some ⟨N, 0, none⟩)
  | 15, y, _ => y = .pointer (some ⟨T, 0, none⟩)
  | 16, y, _ => y = .pointer (some ⟨G, 1, none⟩)
  | 17, y, _ => y = .agg (bcs M.block v1 v2)
  | _, _, _ => True
set_option maxHeartbeats 6400000 in
set_option maxRecDepth 100000 in
theorem hear_block (o : List UInt8) (A : Option Addr) (n c B N m T Mp : Nat) (M : Msg) (es : List (ByteArray × Value)) (bo : Block) (B1 B2 : Option Addr) (k1 k2 l1 l2 Bo : Nat) (is val : Bool) (Ar Ac : Option Addr) (L cr Lc cc Br : Nat) (q base cap : Int) (roots clients : List ByteArray) (w : World) (hn : n = o.length) (hr : Kd.u8.Row 5 B w A o)
    (hm : w.cell? ⟨N, 8, none⟩ = some (.map (some m))) (h0 : w.cell? ⟨N, 0, none⟩ = some (.pointer (some ⟨T, 0, none⟩))) (hT : w.heap[T]? = some (.cells #[.map (some Mp)] 169 (0, 0))) (hM : SMap keyStr w Mp es)
    (g1 : w.cell? ⟨N, 1, none⟩ = some (.slice Ar L cr)) (g2 : w.cell? ⟨N, 2, none⟩ = some (.slice Ac Lc cc)) (g3 : w.cell? ⟨N, 3, none⟩ = some (.int .i64 q)) (g4 : w.cell? ⟨N, 4, none⟩ = some (.int .i64 base)) (g5 : w.cell? ⟨N, 5, none⟩ = some (.int .i64 cap))
    (hf : readF o = some M) (hk : M.kind = 1) (hl1 : M.block.justify.votes.length ≤ 1048576) (hl2 : M.block.txs.length ≤ 1048576)
    (hlk : ∀ W, Below w.heap.size w W → (Instr.lookup 167 (.map (some Mp)) (.string (bname M.block)) true).run Tryz.prog W = .ok (.tuple #[.agg (bcs bo (.slice B1 k1 l1) (.slice B2 k2 l2)), .bool is]) W)
    (hk1 : k1 = bo.justify.votes.length) (hk2 : k2 = bo.txs.length) (hb1 : bo.justify.votes.length ≤ 1048576) (hb2 : bo.txs.length ≤ 1048576) (hbr1 : kVote.Row 52 Bo w B1 bo.justify.votes) (hbr2 : kTx.Row 77 Bo w B2 bo.txs) (hnew : is = false → lookS (bname M.block) es = none)
    (hL : L = roots.length) (hLc : Lc = clients.length) (hlr : roots.length ≤ 1048576) (hlc : clients.length ≤ 1048576) (hrr : Kd.str.Row 9 Br w Ar roots) (hrc : Kd.str.Row 9 Br w Ac clients) (hval : validB M.block roots clients q = val) :
    Calls Tryz.prog 24 #[.pointer (some ⟨N, 0, none⟩), .slice A n c] w fun x w' => HBPost Mp es M.block is val w x w' := by
  have HI := Lib.hid (lis_at w N (some m) hm)
  have hrd := mRead_calls o A n c w B hn hr
  rw [hf] at hrd
  have HR := Lib.hid (show Calls Tryz.prog 59 #[.slice A n c] w fun x w' => (∃ v1 v2 v3 v4, x = .returned (.tuple #[.agg (mcs M v1 v2 v3 v4), .int .i64 0]) ∧ MsgOwn w.heap.size w' M v1 v2 v3 v4) ∧ Below w.heap.size w w' from hrd)
  have e1 : (M.kind == 1) = true := by rw [hk]; rfl
  have hok : val = true → blockOk M.block = true := fun h => by
    rw [h] at hval
    unfold validB at hval
    exact (Bool.and_eq_true _ _ ▸ hval).1
  have HNM0 := Lib.hid (fun (A1 A2 : Option Addr) (c1 c2 : Nat) W BB (hW : kTx.Row 77 BB W A2 M.block.txs) => bName_calls M.block A1 A2 M.block.justify.votes.length c1 M.block.txs.length c2 BB W rfl (by omega) hW)
  have HGET0 := Lib.hid (fun W (hW : Below w.heap.size w W) => tget_calls T Mp (bname M.block) bo B1 B2 k1 l1 k2 l2 Bo is W (block_below hW hT) (fun W' hW' => hlk W' (bl_trans hW hW')) hk1 hk2 hb1 hb2 (Kd.row_below hW hbr1) (Kd.row_below hW hbr2))
  have HVAL0 := Lib.hid (fun (A1 A2 : Option Addr) (c1 c2 : Nat) W BB (h1 : kVote.Row 52 BB W A1 M.block.justify.votes) (h2 : kTx.Row 77 BB W A2 M.block.txs) (h3 : Kd.str.Row 9 BB W Ar roots) (h4 : Kd.str.Row 9 BB W Ac clients) => hval ▸ bvalid_calls M.block A1 A2 Ar Ac M.block.justify.votes.length c1 M.block.txs.length c2 L cr Lc cc BB roots clients q base cap W rfl rfl hL hLc hl1 hl2 hlr hlc h1 h2 h3 h4)
  have HPUT0 := Lib.hid (fun (hi : is = false) (hv : val = true) (A1 A2 : Option Addr) (c1 c2 : Nat) BB W (hW : Below w.heap.size w W) (h1 : kVote.Row 52 BB W A1 M.block.justify.votes) (h2 : kTx.Row 77 BB W A2 M.block.txs) => tputb_calls T Mp es M.block A1 A2 M.block.justify.votes.length c1 M.block.txs.length c2 BB W (block_below hW hT) (smap_below keyStr hM hW) (hnew hi) (hok hv) rfl rfl hl1 h1 h2)
  have HC := Lib.hid (And.intro h0 (And.intro g1 (And.intro g2 (And.intro g3 (And.intro g4 g5)))))
  have HRR := Lib.hid (And.intro hrr hrc)
  clear hrd hf hr hn hm hk hlk hT hM hnew hval hok hrr hrc hbr1 hbr2 hL hLc hlr hlc hk1 hk2 hb1 hb2 hl1 hl2 h0 g1 g2 g3 g4 g5
  go_enter Tryz.func24, Tryz.ntmps24
  go_upto_region 4 with first
    | (refine wpList_allocTo rfl _ rfl (.pointer (some ⟨_, 0, none⟩)) (.cells msgC 79) (by kernel_rfl) ?_)
    | (go_at_call 58; refine Calls.mono (HI.out) ?_; rintro x w1 ⟨rfl, rfl⟩)
    | (go_at_call 59; refine Calls.mono (HR.out) ?_; rintro x w2 ⟨⟨v1, v2, v3, v4, rfl, ho⟩, b2⟩; obtain ⟨A1, c1, rfl, p1⟩ := own_open ho.1; obtain ⟨A2, c2, rfl, p2⟩ := own_open ho.2.1; obtain ⟨A3, c3, rfl, p3⟩ := own_open ho.2.2.1; obtain ⟨A4, c4, rfl, p4⟩ := own_open ho.2.2.2)
    | (refine wpList_store_new msgC 79 _ rfl rfl 79 (.tmp 5) (.tmp 15) rfl rfl (mcs M _ _ _ _) rfl size79 rfl (by kernel_rfl) ?_)
  have f := alloc_new w2 (.cells (mcs M (.slice A1 M.block.justify.votes.length c1) (.slice A2 M.block.txs.length c2) (.slice A3 M.cert.votes.length c3) (.slice A4 M.blames.length c4)) 79)
  have al := bl_alloc (Below.refl w2.heap.size w2) (.cells (mcs M (.slice A1 M.block.justify.votes.length c1) (.slice A2 M.block.txs.length c2) (.slice A3 M.cert.votes.length c3) (.slice A4 M.blames.length c4)) 79)
  have HQ := Lib.hid (bl_trans b2 al)
  obtain ⟨_, _, hq1, _, _, hrow1, _⟩ := Kd.own_row p1
  cases hq1
  obtain ⟨_, _, hq2, _, _, hrow2, _⟩ := Kd.own_row p2
  cases hq2
  have RV := Lib.hid (Kd.row_below al (Kd.row_flat (B' := w2.heap.size) flatVote hrow1 (Nat.le_refl _)))
  have RT := Lib.hid (Kd.row_below al (Kd.row_flat (B' := w2.heap.size) flatTx hrow2 (Nat.le_refl _)))
  have RR := Lib.hid (Kd.row_below al (Kd.row_flat (B' := w2.heap.size) Kd.flat_str (Kd.row_below b2 HRR.out.1) (Nat.le_refl _)))
  have RC := Lib.hid (Kd.row_below al (Kd.row_flat (B' := w2.heap.size) Kd.flat_str (Kd.row_below b2 HRR.out.2) (Nat.le_refl _)))
  obtain ⟨c0, c1x, c2x, c3x, c4x, c5x⟩ := HC.out
  have H0 := Lib.hid (cell_below HQ.out c0)
  have C1 := Lib.hid (cell_below HQ.out c1x)
  have C2 := Lib.hid (cell_below HQ.out c2x)
  have C3 := Lib.hid (cell_below HQ.out c3x)
  have C4 := Lib.hid (cell_below HQ.out c4x)
  have C5 := Lib.hid (cell_below HQ.out c5x)
  have HNM := Lib.hid (HNM0.out A1 A2 c1 c2)
  have HVAL1 := Lib.hid (HVAL0.out A1 A2 c1 c2)
  have HPUT1 := Lib.hid (fun hi hv => HPUT0.out hi hv A1 A2 c1 c2)
  obtain ⟨v1, hv1⟩ : ∃ v, Value.slice A1 M.block.justify.votes.length c1 = v := ⟨_, rfl⟩
  obtain ⟨v2, hv2⟩ : ∃ v, Value.slice A2 M.block.txs.length c2 = v := ⟨_, rfl⟩
  obtain ⟨v3, hv3⟩ : ∃ v, Value.slice A3 M.cert.votes.length c3 = v := ⟨_, rfl⟩
  obtain ⟨v4, hv4⟩ : ∃ v, Value.slice A4 M.blames.length c4 = v := ⟨_, rfl⟩
  obtain ⟨nm, hnm⟩ : ∃ v, bname M.block = v := ⟨_, rfl⟩
  have HNB := Lib.hid hnm
  rw [hv1, hv2] at HNM HVAL1 HPUT1
  rw [hv1, hv2, hv3, hv4] at f HQ RV RT RR RC H0 C1 C2 C3 C4 C5 ⊢
  rw [hnm] at HNM HGET0
  obtain ⟨G, hG⟩ : ∃ G, w2.heap.size = G := ⟨_, rfl⟩
  rw [hG] at f
  simp only [hG]
  have HG := Lib.hid f
  have HE1 := Lib.hid e1
  have z0 := (mcells f).1
  clear hv1 hv2 hv3 hv4 hnm al hrow1 hrow2 p1 p2 p3 p4 ho b2 HR HI c0 c1x c2x c3x c4x c5x HC HRR f HNM0 HVAL0 HPUT0
  generalize w2.alloc (.cells (mcs M v1 v2 v3 v4) 79) = W3 at *
  go_upto_region 7 with fail
  clear z0 e1
  refine wp_region_any (by kernel_rfl) ?_
  refine wpAny_invlA [true, true, true, true, true, true, true, true, true, true, true, true, false, false] [false, false, false, false, false, false, false, false, false, false, true, false, false, false] [12, 13] (by kernel_rfl) (by kernel_rfl) Rb (heA G N T M v1 v2 nm bo is W3.heap.size) rb_refl rb_trans (fun c a d v w h => by cases d <;> exact h) ⟨?_, ?_, ?_, ?_, ?_, ?_, ?_, ?_, ?_, ?_, ?_, ?_, trivial⟩ ?_
  · intro Fr u w1 hTold K hK
    obtain ⟨hN, hO, hR, hdep⟩ := hTold
    rw [if_pos (by rfl)]
    have y0 : Fr.tmps[0]? = some (.pointer (some ⟨N, 0, none⟩)) := hO 0 _ rfl rfl
    clear hN hO hdep
    go_simp
    refine hK _ _ (rb_refl _) fun w3 h3 => ?_
    exact rfl
  · intro Fr u w1 hTold K hK
    obtain ⟨hN, hO, hR, hdep⟩ := hTold
    rw [if_pos (by rfl)]
    have x0 : Fr.tmps[25]? = some (u 0) := hN 0 _ 25 rfl rfl rfl
    rw [show u 0 = .pointer (some ⟨N, 0, none⟩) from hdep 0 (by kernel_rfl) w1 (rb_refl _)] at x0
    clear hN hO hdep
    go_simp
    refine hK _ _ (rb_refl _) fun w3 h3 => ?_
    exact rfl
  · intro Fr u w1 hTold K hK
    obtain ⟨hN, hO, hR, hdep⟩ := hTold
    rw [if_pos (by rfl)]
    have x1 : Fr.tmps[26]? = some (u 1) := hN 1 _ 26 rfl rfl rfl
    rw [show u 1 = .pointer (some ⟨N, 0, none⟩) from hdep 1 (by kernel_rfl) w1 (rb_refl _)] at x1
    clear hN hO hdep
    go_simp
    refine hK _ _ (rb_refl _) fun w3 h3 => ?_
    exact rfl
  · intro Fr u w1 hTold K hK
    obtain ⟨hN, hO, hR, hdep⟩ := hTold
    rw [if_pos (by rfl)]
    have x2 : Fr.tmps[27]? = some (u 2) := hN 2 _ 27 rfl rfl rfl
    rw [show u 2 = .pointer (some ⟨N, 0, none⟩) from hdep 2 (by kernel_rfl) w1 (rb_refl _)] at x2
    clear hN hO hdep
    have z := cell_below hR H0.out
    go_simp
    refine hK _ _ (rb_refl _) fun w3 h3 => ?_
    exact rfl
  · intro Fr u w1 hTold K hK
    obtain ⟨hN, hO, hR, hdep⟩ := hTold
    rw [if_pos (by rfl)]
    have y5 : Fr.tmps[5]? = some (.pointer (some ⟨G, 0, none⟩)) := hO 5 _ rfl rfl
    clear hN hO hdep
    go_simp
    refine hK _ _ (rb_refl _) fun w3 h3 => ?_
    exact rfl
  · intro Fr u w1 hTold K hK
    obtain ⟨hN, hO, hR, hdep⟩ := hTold
    rw [if_pos (by rfl)]
    have x4 : Fr.tmps[29]? = some (u 4) := hN 4 _ 29 rfl rfl rfl
    rw [show u 4 = .pointer (some ⟨G, 1, none⟩) from hdep 4 (by kernel_rfl) w1 (rb_refl _)] at x4
    clear hN hO hdep
    obtain ⟨z1, z2, z3, z4, z5, z6, z7, z8, z9⟩ := mbcells (block_below hR HG.out)
    go_simp
    refine hK _ _ (rb_refl _) fun w3 h3 => ?_
    exact rfl
  · intro Fr u w1 hTold K hK
    obtain ⟨hN, hO, hR, hdep⟩ := hTold
    rw [if_pos (by rfl)]
    have x5 : Fr.tmps[30]? = some (u 5) := hN 5 _ 30 rfl rfl rfl
    rw [show u 5 = .agg (bcs M.block v1 v2) from hdep 5 (by kernel_rfl) w1 (rb_refl _)] at x5
    clear hN hO hdep
    go_simp
    refine (HNM.out w1 _ (Kd.row_below hR RT.out)).mono ?_
    rintro x w2 ⟨rfl, b2⟩
    refine hK _ _ b2 fun w3 h3 => ?_
    exact rfl
  · intro Fr u w1 hTold K hK
    obtain ⟨hN, hO, hR, hdep⟩ := hTold
    rw [if_pos (by rfl)]
    have x3 : Fr.tmps[28]? = some (u 3) := hN 3 _ 28 rfl rfl rfl
    rw [show u 3 = .pointer (some ⟨T, 0, none⟩) from hdep 3 (by kernel_rfl) w1 (rb_refl _)] at x3
    have x6 : Fr.tmps[31]? = some (u 6) := hN 6 _ 31 rfl rfl rfl
    rw [show u 6 = .string nm from hdep 6 (by kernel_rfl) w1 (rb_refl _)] at x6
    clear hN hO hdep
    go_simp
    refine (HGET0.out w1 (bl_trans (bl_drew HQ.out) hR)).mono ?_
    rintro x w2 ⟨⟨A1', c1', A', c', rfl⟩, b2⟩
    refine hK _ _ b2 fun w3 h3 => ?_
    exact ⟨A1', c1', A', c', rfl⟩
  · intro Fr u w1 hTold K hK
    obtain ⟨hN, hO, hR, hdep⟩ := hTold
    rw [if_pos (by rfl)]
    have x7 : Fr.tmps[32]? = some (u 7) := hN 7 _ 32 rfl rfl rfl
    obtain ⟨A1', c1', A', c', hu7⟩ := hdep 7 (by kernel_rfl) w1 (rb_refl _)
    rw [hu7] at x7
    clear hN hO hdep
    go_simp
    refine hK _ _ (rb_refl _) fun w3 h3 => ?_
    exact ⟨A1', c1', A', c', rfl⟩
  · intro Fr u w1 hTold K hK
    obtain ⟨hN, hO, hR, hdep⟩ := hTold
    rw [if_pos (by rfl)]
    have x8 : Fr.tmps[24]? = some (u 8) := hN 8 _ 24 rfl rfl rfl
    obtain ⟨A1', c1', A', c', hu8⟩ := hdep 8 (by kernel_rfl) w1 (rb_refl _)
    rw [hu8] at x8
    clear hN hO hdep
    go_simp
    refine hK _ _ (rb_refl _) fun w3 h3 => ?_
    exact ⟨A1', c1', A', c', rfl⟩
  · intro Fr u w1 hTold
    obtain ⟨hN, hO, hR, hdep⟩ := hTold
    have x8 : Fr.tmps[24]? = some (u 8) := hN 8 _ 24 rfl rfl rfl
    obtain ⟨A1', c1', A', c', hu8⟩ := hdep 8 (by kernel_rfl) w1 (rb_refl _)
    rw [hu8] at x8
    clear hN hO hdep
    refine ⟨.bool is, fun w2 h2 => ?_, Or.inl ⟨by rfl, fun w => by go_simp⟩⟩
    exact rfl
  · intro Fr u w1 hTold K hK
    obtain ⟨hN, hO, hR, hdep⟩ := hTold
    rw [if_pos (by rfl)]
    clear hN hO hdep
    go_simp
    refine hK _ _ (bl_alloc (Below.refl _ _) _) fun w3 h3 => ?_
    exact ⟨w1.heap.size, rfl, block_below h3 (alloc_new w1 _), hR.size⟩
  · intro u w1 hR hall
    obtain ⟨A1', c1', A', c', e9⟩ := hall 9 rfl
    have e10 : u 10 = .bool is := hall 10 rfl
    obtain ⟨X, e11, gX, leX⟩ := hall 11 rfl
    have bw : Below W3.heap.size W3 w1 := bl_trans (bl_drew (Below.refl _ _)) hR
    change wpList _ _ _ ([_, _]) _ _
    simp only [frameM, frameM_nil, Act.put, List.setIfInBounds_toArray, List.set_cons_zero, List.set_cons_succ, Nat.reduceAdd, e9, e10, e11]
    clear hall e9 e10 e11
    have b4 : Below W3.heap.size W3 (w1.setRow X (bcs bo (.slice A1' bo.justify.votes.length c1') (.slice A' bo.txs.length c'))) := bl_setRow bw leX
    go_upto_region 8 with (refine wpList_store_rowOf rfl 40 (.tmp 7) (.tmp 33) rfl X rfl rfl 40 _ gX size40 rfl (by kernel_rfl) ?_)
    have HG := Lib.hid (block_below b4 HG.out)
    have H0 := Lib.hid (cell_below b4 H0.out)
    have C1 := Lib.hid (cell_below b4 C1.out)
    have C2 := Lib.hid (cell_below b4 C2.out)
    have C3 := Lib.hid (cell_below b4 C3.out)
    have C4 := Lib.hid (cell_below b4 C4.out)
    have C5 := Lib.hid (cell_below b4 C5.out)
    have RV := Lib.hid (Kd.row_below b4 RV.out)
    have RT := Lib.hid (Kd.row_below b4 RT.out)
    have RR := Lib.hid (Kd.row_below b4 RR.out)
    have RC := Lib.hid (Kd.row_below b4 RC.out)
    have HQ4 := Lib.hid (bl_trans HQ.out b4)
    clear HQ b4 bw hR gX leX HGET0 HNM
    generalize w1.setRow X _ = W4 at *
    cases is with
    | true =>
      refine wp_region_invA (by kernel_rfl) (by kernel_rfl) Rb (heA8 G N T M v1 v2 Ar Ac L cr Lc cc q base cap) rb_refl rb_trans ⟨?_, ?_, ?_, ?_, ?_, ?_, ?_, ?_, ?_, ?_, ?_, ?_, ?_, ?_, ?_, ?_, ?_, ?_, ?_, ?_, ?_, trivial⟩ ?_
      · intro Fr u hN hO w1 hR hdep K hK
        rw [if_pos (by rfl)]
        have y8 : Fr.tmps[8]? = some (.bool true) := hO 8 _ rfl rfl
        clear hN hO hdep
        go_simp
        refine hK _ _ (rb_refl _) fun w3 h3 => ?_
        exact rfl
      · intro Fr u hN hO w1 hR hdep K hK
        rw [if_pos (by rfl)]
        have x0 : Fr.tmps[35]? = some (u 0) := hN 0 _ 35 rfl rfl rfl
        rw [show u 0 = .bool true from hdep 0 (by kernel_rfl) w1 (rb_refl _)] at x0
        clear hN hO hdep
        go_simp
        refine hK _ _ (rb_refl _) fun w3 h3 => ?_
        exact rfl
      · intro Fr u hN hO w1 hR hdep K hK
        rw [if_pos (by rfl)]
        have x1 : Fr.tmps[36]? = some (u 1) := hN 1 _ 36 rfl rfl rfl
        rw [show u 1 = .bool false from hdep 1 (by kernel_rfl) w1 (rb_refl _)] at x1
        clear hN hO hdep
        go_simp
        refine hK _ _ (rb_refl _) fun w3 h3 => ?_
        exact rfl
      · intro Fr u hN hO w1 hR hdep K hK
        have gx : Fr.tmps[37]? = some (u 2) := hN 2 _ 37 rfl rfl rfl
        rw [show u 2 = .bool false from hdep 2 (by kernel_rfl) w1 (rb_refl _)] at gx
        rw [if_neg (wanted_off (s := 37) rfl (by kernel_rfl) gx (by decide))]
        exact hK _ _ (rb_refl _) fun w3 h3 => rfl
      · intro Fr u hN hO w1 hR hdep K hK
        have gx : Fr.tmps[37]? = some (u 2) := hN 2 _ 37 rfl rfl rfl
        rw [show u 2 = .bool false from hdep 2 (by kernel_rfl) w1 (rb_refl _)] at gx
        rw [if_neg (wanted_off (s := 37) rfl (by kernel_rfl) gx (by decide))]
        exact hK _ _ (rb_refl _) fun w3 h3 => rfl
      · intro Fr u hN hO w1 hR hdep K hK
        have gx : Fr.tmps[37]? = some (u 2) := hN 2 _ 37 rfl rfl rfl
        rw [show u 2 = .bool false from hdep 2 (by kernel_rfl) w1 (rb_refl _)] at gx
        rw [if_neg (wanted_off (s := 37) rfl (by kernel_rfl) gx (by decide))]
        exact hK _ _ (rb_refl _) fun w3 h3 => rfl
      · intro Fr u hN hO w1 hR hdep K hK
        have gx : Fr.tmps[37]? = some (u 2) := hN 2 _ 37 rfl rfl rfl
        rw [show u 2 = .bool false from hdep 2 (by kernel_rfl) w1 (rb_refl _)] at gx
        rw [if_neg (wanted_off (s := 37) rfl (by kernel_rfl) gx (by decide))]
        exact hK _ _ (rb_refl _) fun w3 h3 => rfl
      · intro Fr u hN hO w1 hR hdep K hK
        have gx : Fr.tmps[37]? = some (u 2) := hN 2 _ 37 rfl rfl rfl
        rw [show u 2 = .bool false from hdep 2 (by kernel_rfl) w1 (rb_refl _)] at gx
        rw [if_neg (wanted_off (s := 37) rfl (by kernel_rfl) gx (by decide))]
        exact hK _ _ (rb_refl _) fun w3 h3 => rfl
      · intro Fr u hN hO w1 hR hdep K hK
        have gx : Fr.tmps[37]? = some (u 2) := hN 2 _ 37 rfl rfl rfl
        rw [show u 2 = .bool false from hdep 2 (by kernel_rfl) w1 (rb_refl _)] at gx
        rw [if_neg (wanted_off (s := 37) rfl (by kernel_rfl) gx (by decide))]
        exact hK _ _ (rb_refl _) fun w3 h3 => rfl
      · intro Fr u hN hO w1 hR hdep K hK
        have gx : Fr.tmps[37]? = some (u 2) := hN 2 _ 37 rfl rfl rfl
        rw [show u 2 = .bool false from hdep 2 (by kernel_rfl) w1 (rb_refl _)] at gx
        rw [if_neg (wanted_off (s := 37) rfl (by kernel_rfl) gx (by decide))]
        exact hK _ _ (rb_refl _) fun w3 h3 => rfl
      · intro Fr u hN hO w1 hR hdep K hK
        rw [if_pos (by rfl)]
        have x2 : Fr.tmps[37]? = some (u 2) := hN 2 _ 37 rfl rfl rfl
        rw [show u 2 = .bool false from hdep 2 (by kernel_rfl) w1 (rb_refl _)] at x2
        have x9 : Fr.tmps[44]? = some (u 9) := hN 9 _ 44 rfl rfl rfl
        rw [show u 9 = undef from hdep 9 (by kernel_rfl) w1 (rb_refl _)] at x9
        clear hN hO hdep
        go_simp
        refine hK _ _ (rb_refl _) fun w3 h3 => ?_
        exact rfl
      · intro Fr u hN hO w1 hR hdep K hK
        rw [if_pos (by rfl)]
        have x10 : Fr.tmps[45]? = some (u 10) := hN 10 _ 45 rfl rfl rfl
        rw [show u 10 = .bool false from hdep 10 (by kernel_rfl) w1 (rb_refl _)] at x10
        clear hN hO hdep
        go_simp
        refine hK _ _ (rb_refl _) fun w3 h3 => ?_
        exact rfl
      · intro Fr u hN hO w1 hR hdep K hK
        have gx : Fr.tmps[46]? = some (u 11) := hN 11 _ 46 rfl rfl rfl
        rw [show u 11 = .bool false from hdep 11 (by kernel_rfl) w1 (rb_refl _)] at gx
        rw [if_neg (wanted_off (s := 46) rfl (by kernel_rfl) gx (by decide))]
        exact hK _ _ (rb_refl _) fun w3 h3 => rfl
      · intro Fr u hN hO w1 hR hdep K hK
        have gx : Fr.tmps[46]? = some (u 11) := hN 11 _ 46 rfl rfl rfl
        rw [show u 11 = .bool false from hdep 11 (by kernel_rfl) w1 (rb_refl _)] at gx
        rw [if_neg (wanted_off (s := 46) rfl (by kernel_rfl) gx (by decide))]
        exact hK _ _ (rb_refl _) fun w3 h3 => rfl
      · intro Fr u hN hO w1 hR hdep K hK
        have gx : Fr.tmps[46]? = some (u 11) := hN 11 _ 46 rfl rfl rfl
        rw [show u 11 = .bool false from hdep 11 (by kernel_rfl) w1 (rb_refl _)] at gx
        rw [if_neg (wanted_off (s := 46) rfl (by kernel_rfl) gx (by decide))]
        exact hK _ _ (rb_refl _) fun w3 h3 => rfl
      · intro Fr u hN hO w1 hR hdep K hK
        have gx : Fr.tmps[46]? = some (u 11) := hN 11 _ 46 rfl rfl rfl
        rw [show u 11 = .bool false from hdep 11 (by kernel_rfl) w1 (rb_refl _)] at gx
        rw [if_neg (wanted_off (s := 46) rfl (by kernel_rfl) gx (by decide))]
        exact hK _ _ (rb_refl _) fun w3 h3 => rfl
      · intro Fr u hN hO w1 hR hdep K hK
        have gx : Fr.tmps[46]? = some (u 11) := hN 11 _ 46 rfl rfl rfl
        rw [show u 11 = .bool false from hdep 11 (by kernel_rfl) w1 (rb_refl _)] at gx
        rw [if_neg (wanted_off (s := 46) rfl (by kernel_rfl) gx (by decide))]
        exact hK _ _ (rb_refl _) fun w3 h3 => rfl
      · intro Fr u hN hO w1 hR hdep K hK
        have gx : Fr.tmps[46]? = some (u 11) := hN 11 _ 46 rfl rfl rfl
        rw [show u 11 = .bool false from hdep 11 (by kernel_rfl) w1 (rb_refl _)] at gx
        rw [if_neg (wanted_off (s := 46) rfl (by kernel_rfl) gx (by decide))]
        exact hK _ _ (rb_refl _) fun w3 h3 => rfl
      · intro Fr u hN hO w1 hR hdep K hK
        have gx : Fr.tmps[46]? = some (u 11) := hN 11 _ 46 rfl rfl rfl
        rw [show u 11 = .bool false from hdep 11 (by kernel_rfl) w1 (rb_refl _)] at gx
        rw [if_neg (wanted_off (s := 46) rfl (by kernel_rfl) gx (by decide))]
        exact hK _ _ (rb_refl _) fun w3 h3 => rfl
      · intro Fr u hN hO w1 hR hdep K hK
        rw [if_pos (by rfl)]
        have x11 : Fr.tmps[46]? = some (u 11) := hN 11 _ 46 rfl rfl rfl
        rw [show u 11 = .bool false from hdep 11 (by kernel_rfl) w1 (rb_refl _)] at x11
        have x18 : Fr.tmps[53]? = some (u 18) := hN 18 _ 53 rfl rfl rfl
        rw [show u 18 = undef from hdep 18 (by kernel_rfl) w1 (rb_refl _)] at x18
        clear hN hO hdep
        go_simp
        refine hK _ _ (rb_refl _) fun w3 h3 => ?_
        exact rfl
      · intro Fr u hN hO w1 hR hdep K hK
        rw [if_pos (by rfl)]
        have x19 : Fr.tmps[54]? = some (u 19) := hN 19 _ 54 rfl rfl rfl
        rw [show u 19 = .bool false from hdep 19 (by kernel_rfl) w1 (rb_refl _)] at x19
        clear hN hO hdep
        go_simp
        refine hK _ _ (rb_refl _) fun w3 h3 => ?_
        exact rfl
      · intro u w' hR hall
        have e20 : u 20 = .bool false := hall 20 (by decide)
        have bw : Below W4.heap.size W4 w' := bl_trans (bl_drew (Below.refl _ _)) hR
        clear hall
        simp only [frameF, Act.put, List.setIfInBounds_toArray, List.set_cons_zero, List.set_cons_succ, Nat.reduceAdd, e20]
        clear e20
        go_wp2_with fail
        go_ret
        exact .inl ⟨.inl rfl, rfl, bl_trans HQ4.out bw⟩
    | false =>
      cases val with
      | false =>
        refine wp_region_invA (by kernel_rfl) (by kernel_rfl) Rb (heB8 G N T M v1 v2 Ar Ac L cr Lc cc q base cap) rb_refl rb_trans ⟨?_, ?_, ?_, ?_, ?_, ?_, ?_, ?_, ?_, ?_, ?_, ?_, ?_, ?_, ?_, ?_, ?_, ?_, ?_, ?_, ?_, trivial⟩ ?_
        · intro Fr u hN hO w1 hR hdep K hK
          rw [if_pos (by rfl)]
          have y8 : Fr.tmps[8]? = some (.bool false) := hO 8 _ rfl rfl
          clear hN hO hdep
          go_simp
          refine hK _ _ (rb_refl _) fun w3 h3 => ?_
          exact rfl
        · intro Fr u hN hO w1 hR hdep K hK
          rw [if_pos (by rfl)]
          have x0 : Fr.tmps[35]? = some (u 0) := hN 0 _ 35 rfl rfl rfl
          rw [show u 0 = .bool false from hdep 0 (by kernel_rfl) w1 (rb_refl _)] at x0
          clear hN hO hdep
          go_simp
          refine hK _ _ (rb_refl _) fun w3 h3 => ?_
          exact rfl
        · intro Fr u hN hO w1 hR hdep K hK
          rw [if_pos (by rfl)]
          have x1 : Fr.tmps[36]? = some (u 1) := hN 1 _ 36 rfl rfl rfl
          rw [show u 1 = .bool true from hdep 1 (by kernel_rfl) w1 (rb_refl _)] at x1
          clear hN hO hdep
          go_simp
          refine hK _ _ (rb_refl _) fun w3 h3 => ?_
          exact rfl
        · intro Fr u hN hO w1 hR hdep K hK
          have gx : Fr.tmps[37]? = some (u 2) := hN 2 _ 37 rfl rfl rfl
          rw [show u 2 = .bool true from hdep 2 (by kernel_rfl) w1 (rb_refl _)] at gx
          rw [if_pos (wanted_on (s := 37) rfl (by kernel_rfl) gx)]
          have y5 : Fr.tmps[5]? = some (.pointer (some ⟨G, 0, none⟩)) := hO 5 _ rfl rfl
          clear hN hO hdep gx
          go_simp
          refine hK _ _ (rb_refl _) fun w3 h3 => ?_
          exact rfl
        · intro Fr u hN hO w1 hR hdep K hK
          have gx : Fr.tmps[37]? = some (u 2) := hN 2 _ 37 rfl rfl rfl
          rw [show u 2 = .bool true from hdep 2 (by kernel_rfl) w1 (rb_refl _)] at gx
          rw [if_pos (wanted_on (s := 37) rfl (by kernel_rfl) gx)]
          have x3 : Fr.tmps[38]? = some (u 3) := hN 3 _ 38 rfl rfl rfl
          rw [show u 3 = .pointer (some ⟨G, 1, none⟩) from hdep 3 (by kernel_rfl) w1 (rb_refl _)] at x3
          clear hN hO hdep gx
          obtain ⟨z1, z2, z3, z4, z5, z6, z7, z8, z9⟩ := mbcells (block_below hR HG.out)
          go_simp
          refine hK _ _ (rb_refl _) fun w3 h3 => ?_
          exact rfl
        · intro Fr u hN hO w1 hR hdep K hK
          have gx : Fr.tmps[37]? = some (u 2) := hN 2 _ 37 rfl rfl rfl
          rw [show u 2 = .bool true from hdep 2 (by kernel_rfl) w1 (rb_refl _)] at gx
          rw [if_pos (wanted_on (s := 37) rfl (by kernel_rfl) gx)]
          have y0 : Fr.tmps[0]? = some (.pointer (some ⟨N, 0, none⟩)) := hO 0 _ rfl rfl
          clear hN hO hdep gx
          go_simp
          refine hK _ _ (rb_refl _) fun w3 h3 => ?_
          exact rfl
        · intro Fr u hN hO w1 hR hdep K hK
          have gx : Fr.tmps[37]? = some (u 2) := hN 2 _ 37 rfl rfl rfl
          rw [show u 2 = .bool true from hdep 2 (by kernel_rfl) w1 (rb_refl _)] at gx
          rw [if_pos (wanted_on (s := 37) rfl (by kernel_rfl) gx)]
          have x5 : Fr.tmps[40]? = some (u 5) := hN 5 _ 40 rfl rfl rfl
          rw [show u 5 = .pointer (some ⟨N, 0, none⟩) from hdep 5 (by kernel_rfl) w1 (rb_refl _)] at x5
          clear hN hO hdep gx
          go_simp
          refine hK _ _ (rb_refl _) fun w3 h3 => ?_
          exact rfl
        · intro Fr u hN hO w1 hR hdep K hK
          have gx : Fr.tmps[37]? = some (u 2) := hN 2 _ 37 rfl rfl rfl
          rw [show u 2 = .bool true from hdep 2 (by kernel_rfl) w1 (rb_refl _)] at gx
          rw [if_pos (wanted_on (s := 37) rfl (by kernel_rfl) gx)]
          have x6 : Fr.tmps[41]? = some (u 6) := hN 6 _ 41 rfl rfl rfl
          rw [show u 6 = .pointer (some ⟨N, 0, none⟩) from hdep 6 (by kernel_rfl) w1 (rb_refl _)] at x6
          clear hN hO hdep gx
          go_simp
          refine hK _ _ (rb_refl _) fun w3 h3 => ?_
          exact rfl
        · intro Fr u hN hO w1 hR hdep K hK
          have gx : Fr.tmps[37]? = some (u 2) := hN 2 _ 37 rfl rfl rfl
          rw [show u 2 = .bool true from hdep 2 (by kernel_rfl) w1 (rb_refl _)] at gx
          rw [if_pos (wanted_on (s := 37) rfl (by kernel_rfl) gx)]
          have x7 : Fr.tmps[42]? = some (u 7) := hN 7 _ 42 rfl rfl rfl
          rw [show u 7 = .pointer (some ⟨N, 1, none⟩) from hdep 7 (by kernel_rfl) w1 (rb_refl _)] at x7
          clear hN hO hdep gx
          have z1 := cell_below hR C1.out
          have z2 := cell_below hR C2.out
          have z3 := cell_below hR C3.out
          have z4 := cell_below hR C4.out
          have z5 := cell_below hR C5.out
          go_simp
          refine hK _ _ (rb_refl _) fun w3 h3 => ?_
          exact rfl
        · intro Fr u hN hO w1 hR hdep K hK
          have gx : Fr.tmps[37]? = some (u 2) := hN 2 _ 37 rfl rfl rfl
          rw [show u 2 = .bool true from hdep 2 (by kernel_rfl) w1 (rb_refl _)] at gx
          rw [if_pos (wanted_on (s := 37) rfl (by kernel_rfl) gx)]
          have x4 : Fr.tmps[39]? = some (u 4) := hN 4 _ 39 rfl rfl rfl
          rw [show u 4 = .agg (bcs M.block v1 v2) from hdep 4 (by kernel_rfl) w1 (rb_refl _)] at x4
          have x8 : Fr.tmps[43]? = some (u 8) := hN 8 _ 43 rfl rfl rfl
          rw [show u 8 = .agg #[.slice Ar L cr, .slice Ac Lc cc, .int .i64 q, .int .i64 base, .int .i64 cap] from hdep 8 (by kernel_rfl) w1 (rb_refl _)] at x8
          clear hN hO hdep gx
          go_simp
          refine (HVAL1.out w1 _ (Kd.row_below hR RV.out) (Kd.row_below hR RT.out) (Kd.row_below hR RR.out) (Kd.row_below hR RC.out)).mono ?_
          rintro x w2 ⟨rfl, b2⟩
          refine hK _ _ b2 fun w3 h3 => ?_
          exact rfl
        · intro Fr u hN hO w1 hR hdep K hK
          rw [if_pos (by rfl)]
          have x2 : Fr.tmps[37]? = some (u 2) := hN 2 _ 37 rfl rfl rfl
          rw [show u 2 = .bool true from hdep 2 (by kernel_rfl) w1 (rb_refl _)] at x2
          have x9 : Fr.tmps[44]? = some (u 9) := hN 9 _ 44 rfl rfl rfl
          rw [show u 9 = .bool false from hdep 9 (by kernel_rfl) w1 (rb_refl _)] at x9
          clear hN hO hdep
          go_simp
          refine hK _ _ (rb_refl _) fun w3 h3 => ?_
          exact rfl
        · intro Fr u hN hO w1 hR hdep K hK
          rw [if_pos (by rfl)]
          have x10 : Fr.tmps[45]? = some (u 10) := hN 10 _ 45 rfl rfl rfl
          rw [show u 10 = .bool false from hdep 10 (by kernel_rfl) w1 (rb_refl _)] at x10
          clear hN hO hdep
          go_simp
          refine hK _ _ (rb_refl _) fun w3 h3 => ?_
          exact rfl
        · intro Fr u hN hO w1 hR hdep K hK
          have gx : Fr.tmps[46]? = some (u 11) := hN 11 _ 46 rfl rfl rfl
          rw [show u 11 = .bool false from hdep 11 (by kernel_rfl) w1 (rb_refl _)] at gx
          rw [if_neg (wanted_off (s := 46) rfl (by kernel_rfl) gx (by decide))]
          exact hK _ _ (rb_refl _) fun w3 h3 => rfl
        · intro Fr u hN hO w1 hR hdep K hK
          have gx : Fr.tmps[46]? = some (u 11) := hN 11 _ 46 rfl rfl rfl
          rw [show u 11 = .bool false from hdep 11 (by kernel_rfl) w1 (rb_refl _)] at gx
          rw [if_neg (wanted_off (s := 46) rfl (by kernel_rfl) gx (by decide))]
          exact hK _ _ (rb_refl _) fun w3 h3 => rfl
        · intro Fr u hN hO w1 hR hdep K hK
          have gx : Fr.tmps[46]? = some (u 11) := hN 11 _ 46 rfl rfl rfl
          rw [show u 11 = .bool false from hdep 11 (by kernel_rfl) w1 (rb_refl _)] at gx
          rw [if_neg (wanted_off (s := 46) rfl (by kernel_rfl) gx (by decide))]
          exact hK _ _ (rb_refl _) fun w3 h3 => rfl
        · intro Fr u hN hO w1 hR hdep K hK
          have gx : Fr.tmps[46]? = some (u 11) := hN 11 _ 46 rfl rfl rfl
          rw [show u 11 = .bool false from hdep 11 (by kernel_rfl) w1 (rb_refl _)] at gx
          rw [if_neg (wanted_off (s := 46) rfl (by kernel_rfl) gx (by decide))]
          exact hK _ _ (rb_refl _) fun w3 h3 => rfl
        · intro Fr u hN hO w1 hR hdep K hK
          have gx : Fr.tmps[46]? = some (u 11) := hN 11 _ 46 rfl rfl rfl
          rw [show u 11 = .bool false from hdep 11 (by kernel_rfl) w1 (rb_refl _)] at gx
          rw [if_neg (wanted_off (s := 46) rfl (by kernel_rfl) gx (by decide))]
          exact hK _ _ (rb_refl _) fun w3 h3 => rfl
        · intro Fr u hN hO w1 hR hdep K hK
          have gx : Fr.tmps[46]? = some (u 11) := hN 11 _ 46 rfl rfl rfl
          rw [show u 11 = .bool false from hdep 11 (by kernel_rfl) w1 (rb_refl _)] at gx
          rw [if_neg (wanted_off (s := 46) rfl (by kernel_rfl) gx (by decide))]
          exact hK _ _ (rb_refl _) fun w3 h3 => rfl
        · intro Fr u hN hO w1 hR hdep K hK
          have gx : Fr.tmps[46]? = some (u 11) := hN 11 _ 46 rfl rfl rfl
          rw [show u 11 = .bool false from hdep 11 (by kernel_rfl) w1 (rb_refl _)] at gx
          rw [if_neg (wanted_off (s := 46) rfl (by kernel_rfl) gx (by decide))]
          exact hK _ _ (rb_refl _) fun w3 h3 => rfl
        · intro Fr u hN hO w1 hR hdep K hK
          rw [if_pos (by rfl)]
          have x11 : Fr.tmps[46]? = some (u 11) := hN 11 _ 46 rfl rfl rfl
          rw [show u 11 = .bool false from hdep 11 (by kernel_rfl) w1 (rb_refl _)] at x11
          have x18 : Fr.tmps[53]? = some (u 18) := hN 18 _ 53 rfl rfl rfl
          rw [show u 18 = undef from hdep 18 (by kernel_rfl) w1 (rb_refl _)] at x18
          clear hN hO hdep
          go_simp
          refine hK _ _ (rb_refl _) fun w3 h3 => ?_
          exact rfl
        · intro Fr u hN hO w1 hR hdep K hK
          rw [if_pos (by rfl)]
          have x19 : Fr.tmps[54]? = some (u 19) := hN 19 _ 54 rfl rfl rfl
          rw [show u 19 = .bool false from hdep 19 (by kernel_rfl) w1 (rb_refl _)] at x19
          clear hN hO hdep
          go_simp
          refine hK _ _ (rb_refl _) fun w3 h3 => ?_
          exact rfl
        · intro u w' hR hall
          have e20 : u 20 = .bool false := hall 20 (by decide)
          have bw : Below W4.heap.size W4 w' := bl_trans (bl_drew (Below.refl _ _)) hR
          clear hall
          simp only [frameF, Act.put, List.setIfInBounds_toArray, List.set_cons_zero, List.set_cons_succ, Nat.reduceAdd, e20]
          clear e20
          go_wp2_with fail
          go_ret
          exact .inl ⟨.inr rfl, rfl, bl_trans HQ4.out bw⟩
      | true =>
        have HPUT := Lib.hid (HPUT1.out rfl rfl)
        refine wp_region_any (by kernel_rfl) ?_
        refine wpAny_invtA [true, true, true, true, true, true, true, true, true, true, true, true, true, true, true, true, true, true, false, false, false] [18, 19, 20] (by kernel_rfl) (by kernel_rfl) Rb (heC G N T M v1 v2 Ar Ac L cr Lc cc q base cap) rb_refl rb_trans ⟨?_, ?_, ?_, ?_, ?_, ?_, ?_, ?_, ?_, ?_, ?_, ?_, ?_, ?_, ?_, ?_, ?_, ?_, trivial⟩ ?_
        · intro Fr u hN hO w1 hR hdep K hK
          rw [if_pos (by rfl)]
          have y8 : Fr.tmps[8]? = some (.bool false) := hO 8 _ rfl rfl
          clear hN hO hdep
          go_simp
          refine hK _ _ (rb_refl _) fun w3 h3 => ?_
          exact rfl
        · intro Fr u hN hO w1 hR hdep K hK
          rw [if_pos (by rfl)]
          have x0 : Fr.tmps[35]? = some (u 0) := hN 0 _ 35 rfl rfl rfl
          rw [show u 0 = .bool false from hdep 0 (by kernel_rfl) w1 (rb_refl _)] at x0
          clear hN hO hdep
          go_simp
          refine hK _ _ (rb_refl _) fun w3 h3 => ?_
          exact rfl
        · intro Fr u hN hO w1 hR hdep K hK
          rw [if_pos (by rfl)]
          have x1 : Fr.tmps[36]? = some (u 1) := hN 1 _ 36 rfl rfl rfl
          rw [show u 1 = .bool true from hdep 1 (by kernel_rfl) w1 (rb_refl _)] at x1
          clear hN hO hdep
          go_simp
          refine hK _ _ (rb_refl _) fun w3 h3 => ?_
          exact rfl
        · intro Fr u hN hO w1 hR hdep K hK
          have gx : Fr.tmps[37]? = some (u 2) := hN 2 _ 37 rfl rfl rfl
          rw [show u 2 = .bool true from hdep 2 (by kernel_rfl) w1 (rb_refl _)] at gx
          rw [if_pos (wanted_on (s := 37) rfl (by kernel_rfl) gx)]
          have y5 : Fr.tmps[5]? = some (.pointer (some ⟨G, 0, none⟩)) := hO 5 _ rfl rfl
          clear hN hO hdep gx
          go_simp
          refine hK _ _ (rb_refl _) fun w3 h3 => ?_
          exact rfl
        · intro Fr u hN hO w1 hR hdep K hK
          have gx : Fr.tmps[37]? = some (u 2) := hN 2 _ 37 rfl rfl rfl
          rw [show u 2 = .bool true from hdep 2 (by kernel_rfl) w1 (rb_refl _)] at gx
          rw [if_pos (wanted_on (s := 37) rfl (by kernel_rfl) gx)]
          have x3 : Fr.tmps[38]? = some (u 3) := hN 3 _ 38 rfl rfl rfl
          rw [show u 3 = .pointer (some ⟨G, 1, none⟩) from hdep 3 (by kernel_rfl) w1 (rb_refl _)] at x3
          clear hN hO hdep gx
          obtain ⟨z1, z2, z3, z4, z5, z6, z7, z8, z9⟩ := mbcells (block_below hR HG.out)
          go_simp
          refine hK _ _ (rb_refl _) fun w3 h3 => ?_
          exact rfl
        · intro Fr u hN hO w1 hR hdep K hK
          have gx : Fr.tmps[37]? = some (u 2) := hN 2 _ 37 rfl rfl rfl
          rw [show u 2 = .bool true from hdep 2 (by kernel_rfl) w1 (rb_refl _)] at gx
          rw [if_pos (wanted_on (s := 37) rfl (by kernel_rfl) gx)]
          have y0 : Fr.tmps[0]? = some (.pointer (some ⟨N, 0, none⟩)) := hO 0 _ rfl rfl
          clear hN hO hdep gx
          go_simp
          refine hK _ _ (rb_refl _) fun w3 h3 => ?_
          exact rfl
        · intro Fr u hN hO w1 hR hdep K hK
          have gx : Fr.tmps[37]? = some (u 2) := hN 2 _ 37 rfl rfl rfl
          rw [show u 2 = .bool true from hdep 2 (by kernel_rfl) w1 (rb_refl _)] at gx
          rw [if_pos (wanted_on (s := 37) rfl (by kernel_rfl) gx)]
          have x5 : Fr.tmps[40]? = some (u 5) := hN 5 _ 40 rfl rfl rfl
          rw [show u 5 = .pointer (some ⟨N, 0, none⟩) from hdep 5 (by kernel_rfl) w1 (rb_refl _)] at x5
          clear hN hO hdep gx
          go_simp
          refine hK _ _ (rb_refl _) fun w3 h3 => ?_
          exact rfl
        · intro Fr u hN hO w1 hR hdep K hK
          have gx : Fr.tmps[37]? = some (u 2) := hN 2 _ 37 rfl rfl rfl
          rw [show u 2 = .bool true from hdep 2 (by kernel_rfl) w1 (rb_refl _)] at gx
          rw [if_pos (wanted_on (s := 37) rfl (by kernel_rfl) gx)]
          have x6 : Fr.tmps[41]? = some (u 6) := hN 6 _ 41 rfl rfl rfl
          rw [show u 6 = .pointer (some ⟨N, 0, none⟩) from hdep 6 (by kernel_rfl) w1 (rb_refl _)] at x6
          clear hN hO hdep gx
          go_simp
          refine hK _ _ (rb_refl _) fun w3 h3 => ?_
          exact rfl
        · intro Fr u hN hO w1 hR hdep K hK
          have gx : Fr.tmps[37]? = some (u 2) := hN 2 _ 37 rfl rfl rfl
          rw [show u 2 = .bool true from hdep 2 (by kernel_rfl) w1 (rb_refl _)] at gx
          rw [if_pos (wanted_on (s := 37) rfl (by kernel_rfl) gx)]
          have x7 : Fr.tmps[42]? = some (u 7) := hN 7 _ 42 rfl rfl rfl
          rw [show u 7 = .pointer (some ⟨N, 1, none⟩) from hdep 7 (by kernel_rfl) w1 (rb_refl _)] at x7
          clear hN hO hdep gx
          have z1 := cell_below hR C1.out
          have z2 := cell_below hR C2.out
          have z3 := cell_below hR C3.out
          have z4 := cell_below hR C4.out
          have z5 := cell_below hR C5.out
          go_simp
          refine hK _ _ (rb_refl _) fun w3 h3 => ?_
          exact rfl
        · intro Fr u hN hO w1 hR hdep K hK
          have gx : Fr.tmps[37]? = some (u 2) := hN 2 _ 37 rfl rfl rfl
          rw [show u 2 = .bool true from hdep 2 (by kernel_rfl) w1 (rb_refl _)] at gx
          rw [if_pos (wanted_on (s := 37) rfl (by kernel_rfl) gx)]
          have x4 : Fr.tmps[39]? = some (u 4) := hN 4 _ 39 rfl rfl rfl
          rw [show u 4 = .agg (bcs M.block v1 v2) from hdep 4 (by kernel_rfl) w1 (rb_refl _)] at x4
          have x8 : Fr.tmps[43]? = some (u 8) := hN 8 _ 43 rfl rfl rfl
          rw [show u 8 = .agg #[.slice Ar L cr, .slice Ac Lc cc, .int .i64 q, .int .i64 base, .int .i64 cap] from hdep 8 (by kernel_rfl) w1 (rb_refl _)] at x8
          clear hN hO hdep gx
          go_simp
          refine (HVAL1.out w1 _ (Kd.row_below hR RV.out) (Kd.row_below hR RT.out) (Kd.row_below hR RR.out) (Kd.row_below hR RC.out)).mono ?_
          rintro x w2 ⟨rfl, b2⟩
          refine hK _ _ b2 fun w3 h3 => ?_
          exact rfl
        · intro Fr u hN hO w1 hR hdep K hK
          rw [if_pos (by rfl)]
          have x2 : Fr.tmps[37]? = some (u 2) := hN 2 _ 37 rfl rfl rfl
          rw [show u 2 = .bool true from hdep 2 (by kernel_rfl) w1 (rb_refl _)] at x2
          have x9 : Fr.tmps[44]? = some (u 9) := hN 9 _ 44 rfl rfl rfl
          rw [show u 9 = .bool true from hdep 9 (by kernel_rfl) w1 (rb_refl _)] at x9
          clear hN hO hdep
          go_simp
          refine hK _ _ (rb_refl _) fun w3 h3 => ?_
          exact rfl
        · intro Fr u hN hO w1 hR hdep K hK
          rw [if_pos (by rfl)]
          have x10 : Fr.tmps[45]? = some (u 10) := hN 10 _ 45 rfl rfl rfl
          rw [show u 10 = .bool true from hdep 10 (by kernel_rfl) w1 (rb_refl _)] at x10
          clear hN hO hdep
          go_simp
          refine hK _ _ (rb_refl _) fun w3 h3 => ?_
          exact rfl
        · intro Fr u hN hO w1 hR hdep K hK
          have gx : Fr.tmps[46]? = some (u 11) := hN 11 _ 46 rfl rfl rfl
          rw [show u 11 = .bool true from hdep 11 (by kernel_rfl) w1 (rb_refl _)] at gx
          rw [if_pos (wanted_on (s := 46) rfl (by kernel_rfl) gx)]
          have y0 : Fr.tmps[0]? = some (.pointer (some ⟨N, 0, none⟩)) := hO 0 _ rfl rfl
          clear hN hO hdep gx
          go_simp
          refine hK _ _ (rb_refl _) fun w3 h3 => ?_
          exact rfl
        · intro Fr u hN hO w1 hR hdep K hK
          have gx : Fr.tmps[46]? = some (u 11) := hN 11 _ 46 rfl rfl rfl
          rw [show u 11 = .bool true from hdep 11 (by kernel_rfl) w1 (rb_refl _)] at gx
          rw [if_pos (wanted_on (s := 46) rfl (by kernel_rfl) gx)]
          have x12 : Fr.tmps[47]? = some (u 12) := hN 12 _ 47 rfl rfl rfl
          rw [show u 12 = .pointer (some ⟨N, 0, none⟩) from hdep 12 (by kernel_rfl) w1 (rb_refl _)] at x12
          clear hN hO hdep gx
          go_simp
          refine hK _ _ (rb_refl _) fun w3 h3 => ?_
          exact rfl
        · intro Fr u hN hO w1 hR hdep K hK
          have gx : Fr.tmps[46]? = some (u 11) := hN 11 _ 46 rfl rfl rfl
          rw [show u 11 = .bool true from hdep 11 (by kernel_rfl) w1 (rb_refl _)] at gx
          rw [if_pos (wanted_on (s := 46) rfl (by kernel_rfl) gx)]
          have x13 : Fr.tmps[48]? = some (u 13) := hN 13 _ 48 rfl rfl rfl
          rw [show u 13 = .pointer (some ⟨N, 0, none⟩) from hdep 13 (by kernel_rfl) w1 (rb_refl _)] at x13
          clear hN hO hdep gx
          go_simp
          refine hK _ _ (rb_refl _) fun w3 h3 => ?_
          exact rfl
        · intro Fr u hN hO w1 hR hdep K hK
          have gx : Fr.tmps[46]? = some (u 11) := hN 11 _ 46 rfl rfl rfl
          rw [show u 11 = .bool true from hdep 11 (by kernel_rfl) w1 (rb_refl _)] at gx
          rw [if_pos (wanted_on (s := 46) rfl (by kernel_rfl) gx)]
          have x14 : Fr.tmps[49]? = some (u 14) := hN 14 _ 49 rfl rfl rfl
          rw [show u 14 = .pointer (some ⟨N, 0, none⟩) from hdep 14 (by kernel_rfl) w1 (rb_refl _)] at x14
          clear hN hO hdep gx
          have z := cell_below hR H0.out
          go_simp
          refine hK _ _ (rb_refl _) fun w3 h3 => ?_
          exact rfl
        · intro Fr u hN hO w1 hR hdep K hK
          have gx : Fr.tmps[46]? = some (u 11) := hN 11 _ 46 rfl rfl rfl
          rw [show u 11 = .bool true from hdep 11 (by kernel_rfl) w1 (rb_refl _)] at gx
          rw [if_pos (wanted_on (s := 46) rfl (by kernel_rfl) gx)]
          have y5 : Fr.tmps[5]? = some (.pointer (some ⟨G, 0, none⟩)) := hO 5 _ rfl rfl
          clear hN hO hdep gx
          go_simp
          refine hK _ _ (rb_refl _) fun w3 h3 => ?_
          exact rfl
        · intro Fr u hN hO w1 hR hdep K hK
          have gx : Fr.tmps[46]? = some (u 11) := hN 11 _ 46 rfl rfl rfl
          rw [show u 11 = .bool true from hdep 11 (by kernel_rfl) w1 (rb_refl _)] at gx
          rw [if_pos (wanted_on (s := 46) rfl (by kernel_rfl) gx)]
          have x16 : Fr.tmps[51]? = some (u 16) := hN 16 _ 51 rfl rfl rfl
          rw [show u 16 = .pointer (some ⟨G, 1, none⟩) from hdep 16 (by kernel_rfl) w1 (rb_refl _)] at x16
          clear hN hO hdep gx
          obtain ⟨z1, z2, z3, z4, z5, z6, z7, z8, z9⟩ := mbcells (block_below hR HG.out)
          go_simp
          refine hK _ _ (rb_refl _) fun w3 h3 => ?_
          exact rfl
        · intro u w1 hR hall
          have e15 : u 15 = .pointer (some ⟨T, 0, none⟩) := hall 15 rfl
          have e17 : u 17 = .agg (bcs M.block v1 v2) := hall 17 rfl
          have e11 : u 11 = .bool true := hall 11 rfl
          have bw : Below W4.heap.size W4 w1 := bl_trans (bl_drew (Below.refl _ _)) hR
          have bz := bl_trans HQ4.out bw
          have hput := HPUT.out _ w1 bz (Kd.row_below bw RV.out) (Kd.row_below bw RT.out)
          change wpList _ _ _ ([_, _, _]) _ _
          simp only [frameM, frameM_nil, Act.put, List.setIfInBounds_toArray, List.set_cons_zero, List.set_cons_succ, Nat.reduceAdd, e11, e15, e17]
          have HP := Lib.hid hput
          clear hall e11 e15 e17 hput hR bw
          go_wp2_with (go_at_call 63; refine (HP.out).mono ?_; rintro x w5 ⟨rfl, W5, B1', c1'', B2', c2'', hh, h2, h3, h4, h5, h6⟩)
          go_ret
          exact .inr ⟨rfl, rfl, rfl, w1, bz, W5, B1', c1'', B2', c2'', hh, h2, h3, h4, h5, h6⟩
end Go.Proofs.YtcbfpdenjdgnlaaGreat
