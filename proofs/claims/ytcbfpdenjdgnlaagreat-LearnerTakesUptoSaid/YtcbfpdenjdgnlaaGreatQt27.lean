/- Package message: read. No claim of its own; no condition. Printed by a program of this session. -/
import Derived.Test.YtcbfpdenjdgnlaaGreatQt26
import Derived.Deep.MidRow
namespace Go.Proofs.YtcbfpdenjdgnlaaGreat
open Go.ChangeShapes Go.WideShapes Go.ChangeAt Go.RowKit
set_option linter.unusedVariables false
set_option linter.unusedSimpArgs false
/-! cells in a row's middle -/
def setL : Array Value → Nat → List Value → Array Value
  | cs, _, [] => cs
  | cs, o, v :: r => setL (cs.setIfInBounds o v) (o + 1) r
theorem cells_block : ∀ (vs : List Value) (o : Nat) (w : World) {g : Nat} {cs : Array Value} {t : TypeId} {f : Nat × Nat}, w.heap[g]? = some (.cells cs t f) → (w.setCells g o vs).heap[g]? = some (.cells (setL cs o vs) t f)
  | [], _, _, _, _, _, _, h => h
  | v :: r, o, w, g, cs, t, f, h => cells_block r (o + 1) (w.setCell ⟨g, o, none⟩ v) (block_set (i := o) (u := v) h)
theorem cells_far : ∀ (vs : List Value) (o : Nat) (w : World) {g b : Nat}, b ≠ g → (w.setCells g o vs).heap[b]? = w.heap[b]?
  | [], _, _, _, _, _ => rfl
  | v :: r, o, w, g, b, h => (cells_far r (o + 1) (w.setCell ⟨g, o, none⟩ v) h).trans (Below.heap_setCell w ⟨g, o, none⟩ v b h)
theorem cells_rk {N g : Nat} : ∀ (vs : List Value) (o : Nat) {a w : World}, RK N a w → a.heap.size ≤ g → RK N a (w.setCells g o vs)
  | [], _, _, _, h, _ => h
  | v :: r, o, a, w, h, hg => cells_rk r (o + 1) (rk_cell h hg) hg
theorem cells_rds {N g : Nat} {rr : Rst} {t : TypeId} (h1 : t ≠ 239) (h2 : t ≠ 5) : ∀ (vs : List Value) (o : Nat) {w : World} {cs : Array Value}, RdS w N rr → w.heap[g]? = some (.cells cs t (0, 0)) → RdS (w.setCells g o vs) N rr
  | [], _, _, _, h, _ => h
  | v :: r, o, w, cs, h, hg => cells_rds h1 h2 r (o + 1) (rds_farc h hg h1 h2) (block_set (i := o) (u := v) hg)
theorem cells_keeps {B g : Nat} {E : List TypeId} {t : TypeId} (hB : B ≤ g) (ht : t ∉ E) : ∀ (vs : List Value) (o : Nat) {w : World} {cs : Array Value}, w.heap[g]? = some (.cells cs t (0, 0)) → Keeps B E w (w.setCells g o vs)
  | [], _, _, _, _ => Keeps.refl _ _ _
  | v :: r, o, w, cs, hg => (Keeps.set (p := ⟨g, o, none⟩) hg hB ht v).trans (cells_keeps hB ht r (o + 1) (block_set (i := o) (u := v) hg))
theorem block_there {w : World} {g o n : Nat} {cs : Array Value} {t : TypeId} (h : w.heap[g]? = some (.cells cs t (0, 0))) (hn : o + n ≤ cs.size) : w.there g o n := fun j hj => by
  have : o + j < cs.size := by omega
  exact ⟨by rw [block_cell h (Array.getElem?_eq_getElem this)]; rfl, block_free h⟩
def mcs (m : Msg) (v1 v2 v3 v4 : Value) : Array Value := #[.int .i64 m.kind, .int .i64 m.block.view, .int .i64 m.block.height, .string m.block.parent, .int .i64 m.block.justify.view, .int .i64 m.block.justify.height, .string m.block.justify.block, v1, v2, .string m.block.sig,
  .int .i64 m.vote.kind, .int .i64 m.vote.view, .int .i64 m.vote.height, .string m.vote.block, .int .i64 m.vote.ticks, .int .i64 m.vote.signer, .string m.vote.sig, .int .i64 m.cert.view, .int .i64 m.cert.height, .string m.cert.block, v3, v4, .string m.asked,
  .int .i64 m.tx.frm, .int .i64 m.tx.to, .int .i64 m.tx.amount, .int .i64 m.tx.nonce, .string m.tx.sig]
def nS : Value := .slice none 0 0
/-- A message's cells, with rows of the call's own. -/
def MsgOwn (B : Nat) (w : World) (m : Msg) (v1 v2 v3 v4 : Value) : Prop :=
  kVote.Own 52 B w B v1 m.block.justify.votes ∧ kTx.Own 77 B w B v2 m.block.txs ∧ kVote.Own 52 B w B v3 m.cert.votes ∧ kVote.Own 52 B w B v4 m.blames
def kindC (k : Int) : Array Value := mcs { msgZ with kind := k } nS nS nS nS
theorem set1 (b : Block) (v1 v2 : Value) : setL (kindC 1) 1 (bcs b v1 v2).toList = mcs { msgZ with kind := 1, block := b } v1 v2 nS nS := by kernel_rfl
theorem set2 (v : Vote) : setL (kindC 2) 10 (vcs v).toList = mcs { msgZ with kind := 2, vote := v } nS nS nS nS := by kernel_rfl
theorem set3 (c : Cert) (v3 : Value) : setL (kindC 3) 17 (ccs c v3).toList = mcs { msgZ with kind := 3, cert := c } nS nS v3 nS := by kernel_rfl
theorem set5 (a : ByteArray) : (kindC 5).setIfInBounds 22 (.string a) = mcs { msgZ with kind := 5, asked := a } nS nS nS nS := by kernel_rfl
theorem set4 (v v' : Value) : (mcs { msgZ with kind := 4 } nS nS nS v).setIfInBounds 21 v' = mcs { msgZ with kind := 4 } nS nS nS v' := by kernel_rfl
theorem set6 (t : Tx) : setL (kindC 6) 23 (tcs t).toList = mcs { msgZ with kind := 6, tx := t } nS nS nS nS := by kernel_rfl
def crM (N G3 : Nat) (v0 : Value) (cells : Array Value) (s6 : Rst) : Nat → Value → World → Prop
  | 0, y, _ => y = .pointer (some ⟨G3, 21, none⟩)
  | 1, y, _ => y = v0
  | 2, y, _ => y = .pointer (some ⟨N, 0, none⟩)
  | 3, y, w => y = .agg cells ∧ RdS w N s6
  | 4, y, w => ∃ g, y = .slice (some ⟨g, 0, none⟩) 1 1 ∧ w.heap[g]? = some (.cells cells 52 (0, 0)) ∧ g ≠ N
  | _, _, _ => True
set_option maxHeartbeats 6400000 in
set_option maxRecDepth 100000 in
theorem mread_calls (w : World) (N : Nat) (r : Rst) (h : RdS w N r) :
    Calls Tryz.prog 119 #[.pointer (some ⟨N, 0, none⟩)] w fun x w' => (∃ v1 v2 v3 v4, x = .returned (.agg (mcs (rdMsgF r).1 v1 v2 v3 v4)) ∧ MsgOwn w.heap.size w' (rdMsgF r).1 v1 v2 v3 v4) ∧ RdS w' N (rdMsgF r).2 ∧ RK N w w' := by
  have q : RK N w (w.alloc (.cells msgC 79)) := rk_below (bl_alloc (Below.refl _ _) _)
  have h0 : RdS (w.alloc (.cells msgC 79)) N r := rds_below h (bl_alloc (Below.refl _ _) _)
  have g0 := alloc_new w (.cells msgC 79)
  obtain ⟨G2, hG2⟩ : ∃ G2, w.heap.size = G2 := ⟨_, rfl⟩
  rw [hG2] at g0
  have zg : (w.alloc (.cells msgC 79)).heap.size = G2 + 1 := by rw [World.size_alloc, hG2]
  obtain ⟨⟨k, r1⟩, hp⟩ : ∃ p, gN r 6 = p := ⟨_, rfl⟩
  have ht := num_rds (w.alloc (.cells msgC 79)) N r 6 h0
  rw [hp] at ht
  obtain ⟨P, hP⟩ : ∃ P, P = rdMsgF r := ⟨_, rfl⟩
  rw [← hP]
  simp only [rdMsgF, hp] at hP
  have HQ := Lib.hid q
  have HG := Lib.hid g0
  have H0 := Lib.hid h0
  have HT := Lib.hid ht
  have HP := Lib.hid hP
  have sz1 : ∀ (k : Int), kindC k = #[.int .i64 k, .int .i64 0, .int .i64 0, .string ⟨#[]⟩, .int .i64 0, .int .i64 0, .string ⟨#[]⟩, .slice none 0 0, .slice none 0 0, .string ⟨#[]⟩, .int .i64 0, .int .i64 0, .int .i64 0, .string ⟨#[]⟩, .int .i64 0, .int .i64 0, .string ⟨#[]⟩, .int .i64 0, .int .i64 0, .string ⟨#[]⟩, .slice none 0 0, .slice none 0 0, .string ⟨#[]⟩, .int .i64 0, .int .i64 0, .int .i64 0, .int .i64 0, .string ⟨#[]⟩] := fun _ => rfl
  clear q g0 h0 h ht hP hp
  go_enter Tryz.func119, Tryz.ntmps119
  go_upto_region 2 with first
    | (refine wpList_allocTo rfl _ rfl (.pointer (some ⟨_, 0, none⟩)) (.cells msgC 79) (by kernel_rfl) ?_)
    | (go_at_call 181; refine (HT.out).mono ?_; rintro x w1 ⟨rfl, h1, k1⟩; have g1 := rk_block k1 H0.out HG.out (by decide); have q1 := rk_trans HQ.out k1; have z1 := k1.size)
    | (refine wpList_buildTo rfl 79 _ rfl _ rfl (kindC k) (by kernel_rfl) ?_)
    | (refine wpList_store_new msgC 79 _ rfl rfl 79 (.tmp 3) (.tmp 6) rfl rfl (kindC k) rfl size79 rfl (by kernel_rfl) ?_)
  have h2 := rds_below h1 (bl_alloc (Below.refl _ _) (.cells (kindC k) 79))
  have g2 := alloc_old g1 (.cells (kindC k) 79)
  have f2 := alloc_new w1 (.cells (kindC k) 79)
  have q2 := rk_alloc q1 (.cells (kindC k) 79)
  obtain ⟨G3, hG3⟩ : ∃ G3, w1.heap.size = G3 := ⟨_, rfl⟩
  rw [hG3] at f2
  have ne : G2 ≠ G3 := by omega
  have zG : w.heap.size ≤ G3 := by omega
  simp only [hG3]
  clear HQ HG H0 HT h1 g1 q1 k1 zg z1 hG3
  generalize w1.alloc (.cells (kindC k) 79) = W at *
  have c2 := block_cell f2 (i := 0) (v := .int .i64 k) rfl
  clear sz1
  have zW : G2 ≤ W.heap.size := by have := q2.size; omega
  by_cases hk : k = 1
  · subst hk
    have hP := HP.out
    rw [if_pos rfl] at hP
    obtain ⟨⟨b, rb⟩, hx⟩ : ∃ x, rdBlock r1 = x := ⟨_, rfl⟩
    have hb := bread_calls W N r1 h2
    rw [hx] at hP hb
    dsimp only at hP hb
    have HB := Lib.hid hb
    clear hb hx HP
    subst hP
    go_wp2_with first
      | (go_at_call 182; refine (HB.out).mono ?_; rintro x w6 ⟨⟨v1, v2, rfl, own1, own2⟩, h6, k6⟩; have f6 := rk_block k6 h2 f2 (by decide); have g6 := rk_block k6 h2 g2 (by decide); have q6 := rk_trans q2 k6; have z6 := k6.size; have e1 := Kd.own_flat (B' := 0) (base' := G2) flatVote own1 (by omega); have e2 := Kd.own_flat (B' := 0) (base' := G2) flatTx own2 (by omega); obtain ⟨A1, n1, c1, rfl⟩ := k_some (k_own own1); obtain ⟨A2, n2, c3, rfl⟩ := k_some (k_own own2))
      | (refine wpList_store_mid rfl 40 (.tmp 13) (.tmp 12) rfl G3 1 (bcs b (.slice A1 n1 c1) (.slice A2 n2 c3)) rfl rfl (block_there f6 (Nat.le_of_ble_eq_true (by kernel_rfl))) (by kernel_rfl) (by kernel_rfl) ?_; have f7 : (w6.setCells G3 1 (bcs b (.slice A1 n1 c1) (.slice A2 n2 c3)).toList).heap[G3]? = some (.cells (mcs { msgZ with kind := 1, block := b } (.slice A1 n1 c1) (.slice A2 n2 c3) nS nS) 79 (0, 0)) := set1 _ _ _ ▸ cells_block _ 1 w6 f6; have g7 := (cells_far (bcs b (.slice A1 n1 c1) (.slice A2 n2 c3)).toList 1 w6 ne).trans g6; have h7 := cells_rds (by decide) (by decide) (bcs b (.slice A1 n1 c1) (.slice A2 n2 c3)).toList 1 h6 f6; have q7 := cells_rk (bcs b (.slice A1 n1 c1) (.slice A2 n2 c3)).toList 1 q6 zG; have o1 := Kd.own_keep e1 (cells_keeps (Nat.zero_le _) (by decide) (bcs b (.slice A1 n1 c1) (.slice A2 n2 c3)).toList 1 f6); have o2 := Kd.own_keep e2 (cells_keeps (Nat.zero_le _) (by decide) (bcs b (.slice A1 n1 c1) (.slice A2 n2 c3)).toList 1 f6); clear e1 e2; generalize w6.setCells G3 1 (bcs b (.slice A1 n1 c1) (.slice A2 n2 c3)).toList = W7 at *)
      | (refine wpList_load_row rfl 79 (.tmp 3) rfl G3 rfl 79 (mcs { msgZ with kind := 1, block := b } (.slice A1 n1 c1) (.slice A2 n2 c3) nS nS) (0, 0) _ f7 Tryz.underlying79 rfl (by kernel_rfl) ?_)
      | (refine wpList_store_row rfl 79 (.tmp 2) (.tmp 48) rfl G2 rfl (mcs { msgZ with kind := 1, block := b } (.slice A1 n1 c1) (.slice A2 n2 c3) nS nS) rfl 79 msgC g7 (by kernel_rfl) (by kernel_rfl) (by kernel_rfl) ?_)
    refine bodyPost_ret (results_cell_row rfl _ _ G2 79 (mcs { msgZ with kind := 1, block := b } (.slice A1 n1 c1) (.slice A2 n2 c3) nS nS) (0, 0) _ rfl (setRow_same g7) Tryz.underlying79 rfl (by kernel_rfl)) rfl ?_
    exact ⟨⟨.slice A1 n1 c1, .slice A2 n2 c3, nS, nS, rfl, ⟨Kd.own_flat flatVote (Kd.own_keep o1 (keeps_setRow g7 (Nat.zero_le _) (by decide))) (Nat.le_refl _), Kd.own_flat flatTx (Kd.own_keep o2 (keeps_setRow g7 (Nat.zero_le _) (by decide))) (Nat.le_refl _), Kd.own_nil _ _ _ _ _, Kd.own_nil _ _ _ _ _⟩⟩, rds_far h7 g7 (by decide) (by decide), rk_setRow q7 (by omega)⟩
  by_cases hk : k = 2
  · subst hk
    have hP := HP.out
    rw [if_neg (by decide), if_pos rfl] at hP
    obtain ⟨⟨v, rb⟩, hx⟩ : ∃ x, rdVote r1 = x := ⟨_, rfl⟩
    have hb := vread_calls W N r1 h2
    rw [hx] at hP hb
    dsimp only at hP hb
    have HB := Lib.hid hb
    clear hb hx HP
    subst hP
    go_wp2_with first
      | (go_at_call 183; refine (HB.out).mono ?_; rintro x w6 ⟨rfl, h6, k6⟩; have f6 := rk_block k6 h2 f2 (by decide); have g6 := rk_block k6 h2 g2 (by decide); have q6 := rk_trans q2 k6; have z6 := k6.size; skip)
      | (refine wpList_store_mid rfl 52 (.tmp 18) (.tmp 17) rfl G3 10 (vcs v) rfl rfl (block_there f6 (Nat.le_of_ble_eq_true (by kernel_rfl))) (by kernel_rfl) (by kernel_rfl) ?_; have f7 : (w6.setCells G3 10 (vcs v).toList).heap[G3]? = some (.cells (mcs { msgZ with kind := 2, vote := v } nS nS nS nS) 79 (0, 0)) := set2 _ ▸ cells_block _ 10 w6 f6; have g7 := (cells_far (vcs v).toList 10 w6 ne).trans g6; have h7 := cells_rds (by decide) (by decide) (vcs v).toList 10 h6 f6; have q7 := cells_rk (vcs v).toList 10 q6 zG; generalize w6.setCells G3 10 (vcs v).toList = W7 at *)
      | (refine wpList_load_row rfl 79 (.tmp 3) rfl G3 rfl 79 (mcs { msgZ with kind := 2, vote := v } nS nS nS nS) (0, 0) _ f7 Tryz.underlying79 rfl (by kernel_rfl) ?_)
      | (refine wpList_store_row rfl 79 (.tmp 2) (.tmp 48) rfl G2 rfl (mcs { msgZ with kind := 2, vote := v } nS nS nS nS) rfl 79 msgC g7 (by kernel_rfl) (by kernel_rfl) (by kernel_rfl) ?_)
    refine bodyPost_ret (results_cell_row rfl _ _ G2 79 (mcs { msgZ with kind := 2, vote := v } nS nS nS nS) (0, 0) _ rfl (setRow_same g7) Tryz.underlying79 rfl (by kernel_rfl)) rfl ?_
    exact ⟨⟨nS, nS, nS, nS, rfl, ⟨Kd.own_nil _ _ _ _ _, Kd.own_nil _ _ _ _ _, Kd.own_nil _ _ _ _ _, Kd.own_nil _ _ _ _ _⟩⟩, rds_far h7 g7 (by decide) (by decide), rk_setRow q7 (by omega)⟩
  by_cases hk : k = 3
  · subst hk
    have hP := HP.out
    rw [if_neg (by decide), if_neg (by decide), if_pos rfl] at hP
    obtain ⟨⟨c, rb⟩, hx⟩ : ∃ x, rdCert r1 = x := ⟨_, rfl⟩
    have hb := cread_calls W N r1 h2
    rw [hx] at hP hb
    dsimp only at hP hb
    have HB := Lib.hid hb
    clear hb hx HP
    subst hP
    go_wp2_with first
      | (go_at_call 184; refine (HB.out).mono ?_; rintro x w6 ⟨⟨v1, rfl, own1⟩, h6, k6⟩; have f6 := rk_block k6 h2 f2 (by decide); have g6 := rk_block k6 h2 g2 (by decide); have q6 := rk_trans q2 k6; have z6 := k6.size; have e1 := Kd.own_flat (B' := 0) (base' := G2) flatVote own1 (by omega); obtain ⟨A1, n1, c1, rfl⟩ := k_some (k_own own1))
      | (refine wpList_store_mid rfl 37 (.tmp 23) (.tmp 22) rfl G3 17 (ccs c (.slice A1 n1 c1)) rfl rfl (block_there f6 (Nat.le_of_ble_eq_true (by kernel_rfl))) (by kernel_rfl) (by kernel_rfl) ?_; have f7 : (w6.setCells G3 17 (ccs c (.slice A1 n1 c1)).toList).heap[G3]? = some (.cells (mcs { msgZ with kind := 3, cert := c } nS nS (.slice A1 n1 c1) nS) 79 (0, 0)) := set3 _ _ ▸ cells_block _ 17 w6 f6; have g7 := (cells_far (ccs c (.slice A1 n1 c1)).toList 17 w6 ne).trans g6; have h7 := cells_rds (by decide) (by decide) (ccs c (.slice A1 n1 c1)).toList 17 h6 f6; have q7 := cells_rk (ccs c (.slice A1 n1 c1)).toList 17 q6 zG; have o1 := Kd.own_keep e1 (cells_keeps (Nat.zero_le _) (by decide) (ccs c (.slice A1 n1 c1)).toList 17 f6); clear e1; generalize w6.setCells G3 17 (ccs c (.slice A1 n1 c1)).toList = W7 at *)
      | (refine wpList_load_row rfl 79 (.tmp 3) rfl G3 rfl 79 (mcs { msgZ with kind := 3, cert := c } nS nS (.slice A1 n1 c1) nS) (0, 0) _ f7 Tryz.underlying79 rfl (by kernel_rfl) ?_)
      | (refine wpList_store_row rfl 79 (.tmp 2) (.tmp 48) rfl G2 rfl (mcs { msgZ with kind := 3, cert := c } nS nS (.slice A1 n1 c1) nS) rfl 79 msgC g7 (by kernel_rfl) (by kernel_rfl) (by kernel_rfl) ?_)
    refine bodyPost_ret (results_cell_row rfl _ _ G2 79 (mcs { msgZ with kind := 3, cert := c } nS nS (.slice A1 n1 c1) nS) (0, 0) _ rfl (setRow_same g7) Tryz.underlying79 rfl (by kernel_rfl)) rfl ?_
    exact ⟨⟨nS, nS, .slice A1 n1 c1, nS, rfl, ⟨Kd.own_nil _ _ _ _ _, Kd.own_nil _ _ _ _ _, Kd.own_flat flatVote (Kd.own_keep o1 (keeps_setRow g7 (Nat.zero_le _) (by decide))) (Nat.le_refl _), Kd.own_nil _ _ _ _ _⟩⟩, rds_far h7 g7 (by decide) (by decide), rk_setRow q7 (by omega)⟩
  by_cases hk : k = 5
  · subst hk
    have hP := HP.out
    rw [if_neg (by decide), if_neg (by decide), if_neg (by decide), if_neg (by decide), if_pos rfl] at hP
    obtain ⟨⟨a, rb⟩, hx⟩ : ∃ x, gT r1 32 = x := ⟨_, rfl⟩
    have hb := rtext_rds W N r1 32 h2
    rw [hx] at hP hb
    dsimp only at hP hb
    have HB := Lib.hid hb
    clear hb hx HP
    subst hP
    go_wp2_with first
      | (go_at_call 185; refine (HB.out).mono ?_; rintro x w6 ⟨rfl, h6, k6⟩; have f6 := rk_block k6 h2 f2 (by decide); have g6 := rk_block k6 h2 g2 (by decide); have q6 := rk_trans q2 k6; have z6 := k6.size; have c6 := block_cell f6 (i := 22) (v := .string ⟨#[]⟩) rfl; have z6' : w6.frozen? ⟨G3, 22, none⟩ = false := block_free f6; have f7 : (w6.setCell ⟨G3, 22, none⟩ (.string a)).heap[G3]? = some (.cells (mcs { msgZ with kind := 5, asked := a } nS nS nS nS) 79 (0, 0)) := set5 a ▸ block_set (i := 22) (u := .string a) f6; have g7 := block_far (i := 22) (u := .string a) g6 ne; have h7 := rds_farc (i := 22) (u := .string a) h6 f6 (by decide) (by decide); have q7 := rk_cell (i := 22) (u := .string a) q6 zG)
      | (refine wpList_load_row rfl 79 (.tmp 3) rfl G3 rfl 79 (mcs { msgZ with kind := 5, asked := a } nS nS nS nS) (0, 0) _ f7 Tryz.underlying79 rfl (by kernel_rfl) ?_)
      | (refine wpList_store_row rfl 79 (.tmp 2) (.tmp 48) rfl G2 rfl (mcs { msgZ with kind := 5, asked := a } nS nS nS nS) rfl 79 msgC g7 (by kernel_rfl) (by kernel_rfl) (by kernel_rfl) ?_)
    refine bodyPost_ret (results_cell_row rfl _ _ G2 79 (mcs { msgZ with kind := 5, asked := a } nS nS nS nS) (0, 0) _ rfl (setRow_same g7) Tryz.underlying79 rfl (by kernel_rfl)) rfl ?_
    exact ⟨⟨nS, nS, nS, nS, rfl, ⟨Kd.own_nil _ _ _ _ _, Kd.own_nil _ _ _ _ _, Kd.own_nil _ _ _ _ _, Kd.own_nil _ _ _ _ _⟩⟩, rds_far h7 g7 (by decide) (by decide), rk_setRow q7 (by omega)⟩
  by_cases hk : k = 6
  · subst hk
    have hP := HP.out
    rw [if_neg (by decide), if_neg (by decide), if_neg (by decide), if_neg (by decide), if_neg (by decide), if_pos rfl] at hP
    obtain ⟨⟨t, rb⟩, hx⟩ : ∃ x, rdTx r1 = x := ⟨_, rfl⟩
    have hb := tread_calls W N r1 h2
    rw [hx] at hP hb
    dsimp only at hP hb
    have HB := Lib.hid hb
    clear hb hx HP
    subst hP
    go_wp2_with first
      | (go_at_call 186; refine (HB.out).mono ?_; rintro x w6 ⟨rfl, h6, k6⟩; have f6 := rk_block k6 h2 f2 (by decide); have g6 := rk_block k6 h2 g2 (by decide); have q6 := rk_trans q2 k6; have z6 := k6.size; skip)
      | (refine wpList_store_mid rfl 77 (.tmp 47) (.tmp 46) rfl G3 23 (tcs t) rfl rfl (block_there f6 (Nat.le_of_ble_eq_true (by kernel_rfl))) (by kernel_rfl) (by kernel_rfl) ?_; have f7 : (w6.setCells G3 23 (tcs t).toList).heap[G3]? = some (.cells (mcs { msgZ with kind := 6, tx := t } nS nS nS nS) 79 (0, 0)) := set6 _ ▸ cells_block _ 23 w6 f6; have g7 := (cells_far (tcs t).toList 23 w6 ne).trans g6; have h7 := cells_rds (by decide) (by decide) (tcs t).toList 23 h6 f6; have q7 := cells_rk (tcs t).toList 23 q6 zG; generalize w6.setCells G3 23 (tcs t).toList = W7 at *)
      | (refine wpList_load_row rfl 79 (.tmp 3) rfl G3 rfl 79 (mcs { msgZ with kind := 6, tx := t } nS nS nS nS) (0, 0) _ f7 Tryz.underlying79 rfl (by kernel_rfl) ?_)
      | (refine wpList_store_row rfl 79 (.tmp 2) (.tmp 48) rfl G2 rfl (mcs { msgZ with kind := 6, tx := t } nS nS nS nS) rfl 79 msgC g7 (by kernel_rfl) (by kernel_rfl) (by kernel_rfl) ?_)
    refine bodyPost_ret (results_cell_row rfl _ _ G2 79 (mcs { msgZ with kind := 6, tx := t } nS nS nS nS) (0, 0) _ rfl (setRow_same g7) Tryz.underlying79 rfl (by kernel_rfl)) rfl ?_
    exact ⟨⟨nS, nS, nS, nS, rfl, ⟨Kd.own_nil _ _ _ _ _, Kd.own_nil _ _ _ _ _, Kd.own_nil _ _ _ _ _, Kd.own_nil _ _ _ _ _⟩⟩, rds_far h7 g7 (by decide) (by decide), rk_setRow q7 (by omega)⟩
  by_cases hk : k = 4
  · subst hk
    have hP := HP.out
    rw [if_neg (by decide), if_neg (by decide), if_neg (by decide), if_pos rfl] at hP
    obtain ⟨i0, hi, hz0, hz1, hz2⟩ := info_parts vinfo
    have HP := Lib.hid hP
    clear hP
    go_upto_region 11 with (go_at_call 181; with_reducible refine (num_z 7 h2).mono ?_; rintro x w5 ⟨n5, r5, e5, rfl, h5, k5⟩)
    obtain ⟨n, hn, rfl⟩ : ∃ n : Nat, n ≤ 7 ∧ n5 = (n : Int) := by
      have := gN_bd r1 7
      have h7 := gN_le r1 7 (by omega)
      rw [e5] at this h7
      exact ⟨n5.toNat, by simp only at h7; omega, by simp only at this; omega⟩
    have f5 := rk_block k5 h2 f2 (by decide)
    have g5 := rk_block k5 h2 g2 (by decide)
    have q5 := rk_trans q2 k5
    have HN := Lib.hid hn
    have HI := Lib.hid hi
    clear h2 f2 g2 q2 k5 hn c2 zW
    go_loopw [28] (fun kv wr => ∃ k : Nat, k ≤ n ∧ kv = .int .i64 k ∧ ∃ v, wr.heap[G3]? = some (.cells (mcs { msgZ with kind := 4 } nS nS nS v) 79 (0, 0)) ∧ kVote.Own 52 G2 wr G2 v (rdVotes k r5).1 ∧ RdS wr N (rdVotes k r5).2 ∧ RK N w wr ∧ wr.heap[G2]? = some (.cells msgC 79 (0, 0))) (fun kv _ => n - (intOf kv).toNat)
    case atStart => exact ⟨0, by omega, rfl, nS, f5, Kd.own_nil _ _ _ _ _, h5, q5, g5⟩
    case round =>
      obtain ⟨k, hk, rfl, v, f, own, hr, qk, g⟩ := hrel
      have hsz := qk.size
      by_cases hlt : k < n
      · have b1 : decide (k < n) = true := decide_eq_true hlt
        have HKN := Lib.hid hlt
        have hk7 : k < 7 := by have := HN.out; omega
        obtain ⟨A, c, rfl, lc, mc, _, _⟩ := Kd.own_row own
        have hlen := rdVotes_len k r5
        obtain ⟨L, hL⟩ : ∃ L, (rdVotes k r5).1 = L := ⟨_, rfl⟩
        obtain ⟨rk, hrk⟩ : ∃ rk, (rdVotes k r5).2 = rk := ⟨_, rfl⟩
        have hsc := rdVotes_succ k r5
        rw [hL, hrk] at hsc
        rw [hlen] at f
        rw [hL] at own hlen
        rw [hrk] at hr
        rw [hlen] at own
        have own0 := Kd.own_flat (B' := 0) flatVote (Kd.own_below own (bl_drew (Below.refl wr.heap.size wr))) (Nat.le_refl _)
        obtain ⟨x0, hx⟩ : ∃ x0, rdVote rk = x0 := ⟨_, rfl⟩
        have hkv : ∀ (B : Nat) (W : World), kVote.K B W x0.1 (vcs x0.1).toList := fun B W => by rw [← hx]; exact rdVote_k B W rk
        have hrd : RdS wr.drew N rk := rds_below hr (bl_drew (Below.refl wr.heap.size wr))
        have hv := fun W (hW : RdS W N rk) => vread_calls W N rk hW
        rw [hx] at hv hsc
        obtain ⟨⟨y0, y1, y2, y3, y4, y5, y6⟩, s6⟩ := x0
        simp only [vcs] at hv
        have HV := Lib.hid hv
        have HSC := Lib.hid hsc
        have HLEN := Lib.hid hlen
        have HZ := Lib.hid (show G2 ≤ wr.heap.size by omega)
        have HKV := Lib.hid hkv
        have HF := Lib.hid f
        have HG := Lib.hid g
        have HR := Lib.hid hrd
        have HZN := Lib.hid (show N < wr.heap.size from rds_lt hr)
        have HO := Lib.hid own0
        have HQK := Lib.hid qk
        clear hsc hlen hL hrk hx hkv hrd hv own lc f g own0 qk hr
        go_wp2_with fail
        refine wp_region_any (by kernel_rfl) ?_
        refine wpAny_invcA [true, true, true, true, true, false, false, false] [5, 6, 7] (by kernel_rfl) (by kernel_rfl) 3 (by kernel_rfl) Rb (RK N) (crM N G3 (.slice A k c) #[.int .i64 y0, .int .i64 y1, .int .i64 y2, .string y3, .int .i64 y4, .int .i64 y5, .string y6] s6) rb_refl rb_trans (fun _ _ h => rk_below h) (fun _ _ _ h k => rk_trans h k) ⟨?_, ?_, ?_, ?_, ?_, trivial⟩ ?_
        · intro Fr u hN hO w1 hR hdep K hK
          rw [if_pos (by rfl)]
          have x3 : Fr.tmps[3]? = some (.pointer (some ⟨G3, 0, none⟩)) := hO 3 _ rfl rfl
          clear hN hO hdep
          go_simp
          refine hK _ _ (rb_refl _) fun w3 h3 => ?_
          exact rfl
        · intro Fr u hN hO w1 hR hdep K hK
          rw [if_pos (by rfl)]
          have hR : RK N wr.drew w1 := hR
          have x0 : Fr.tmps[30]? = some (u 0) := hN 0 _ 30 rfl rfl rfl
          have hu0 : u 0 = .pointer (some ⟨G3, 21, none⟩) := hdep 0 (by kernel_rfl) w1 (rk_refl _ _)
          rw [hu0] at x0
          have cc := block_cell (rk_block hR HR.out HF.out (by decide)) (i := 21) (v := .slice A k c) rfl
          clear hN hO hdep
          go_simp
          refine hK _ _ (rb_refl _) fun w3 h3 => ?_
          exact rfl
        · intro Fr u hN hO w1 hR hdep K hK
          rw [if_pos (by rfl)]
          have x3 : Fr.tmps[0]? = some (.pointer (some ⟨N, 0, none⟩)) := hO 0 _ rfl rfl
          clear hN hO hdep
          go_simp
          refine hK _ _ (rb_refl _) fun w3 h3 => ?_
          exact rfl
        · intro Fr u hN hO w1 hR hdep K hK
          rw [if_pos (by rfl)]
          have hR : Rb wr.drew w1 := hR
          have x0 : Fr.tmps[32]? = some (u 2) := hN 2 _ 32 rfl rfl rfl
          have hu0 : u 2 = .pointer (some ⟨N, 0, none⟩) := hdep 2 (by kernel_rfl) w1 (rk_refl _ _)
          rw [hu0] at x0
          have hrd := rds_below HR.out hR
          clear hN hO hdep
          go_simp
          refine (HV.out _ hrd).mono ?_
          rintro x w2 ⟨rfl, h2, k2⟩
          refine hK _ _ k2 fun w3 h3 => ?_
          exact ⟨rfl, rds_below h2 h3⟩
        · intro Fr u hN hO w1 hR hdep K hK
          rw [if_pos (by rfl)]
          have hR : RK N wr.drew w1 := hR
          have x0 : Fr.tmps[33]? = some (u 3) := hN 3 _ 33 rfl rfl rfl
          obtain ⟨hu0, hrd⟩ : u 3 = .agg #[.int .i64 y0, .int .i64 y1, .int .i64 y2, .string y3, .int .i64 y4, .int .i64 y5, .string y6] ∧ RdS w1 N s6 := hdep 3 (by kernel_rfl) w1 (rb_refl _)
          rw [hu0] at x0
          have hn : w1.heap.size ≠ N := by have := rds_lt hrd; omega
          clear hN hO hdep
          go_simp
          refine hK _ _ (bl_alloc (Below.refl _ _) _) fun w3 h3 => ?_
          have h3 : RK N _ w3 := h3
          exact ⟨_, rfl, (h3.block _ (by simp) hn).trans (alloc_new w1 _), hn⟩
        · intro u w1 hR hall
          have e1 : u 1 = .slice A k c := hall 1 rfl
          obtain ⟨e3, hrd⟩ : u 3 = .agg _ ∧ RdS w1 N s6 := hall 3 rfl
          obtain ⟨g, e4, hg, hgn⟩ := hall 4 rfl
          have hR : RK N wr.drew w1 := hR
          have own4 := Kd.own_keep HO.out (rds_keeps hR HR.out (Nat.zero_le _) (by decide))
          have f4 := rk_block hR HR.out HF.out (by decide)
          have g4 := rk_block hR HR.out HG.out (by decide)
          have q4 : RK N w w1 := rk_trans HQK.out (rk_trans (rk_below (bl_drew (Below.refl _ _))) hR)
          have hz4 : G2 ≤ w1.heap.size := by have := HZ.out; have z : wr.heap.size ≤ w1.heap.size := hR.size; omega
          have hrow : kVote.Row 52 0 w1 (some ⟨g, 0, none⟩) [⟨y0, y1, y2, y3, y4, y5, y6⟩] := row_block1 (HKV.out 0 w1) hg
          change wpList _ _ _ ([_, _, _]) _ _
          simp only [frameM, frameM_nil, Act.put, List.setIfInBounds_toArray, List.set_cons_zero, List.set_cons_succ, Nat.reduceAdd, e1, e4]
          clear hall e1 e4 e3
          have c4 := block_cell f4 (i := 21) (v := .slice A k c) rfl
          go_wp2_with (at_builtin; refine wpList_append_row _ rfl (.tmp 31) (.tmp 34) 28 rfl kVote 0 G2 52 i0 _ 72 Tryz.underlying28 HI.out hz0 hz1 hz2 rfl (by decide) _ L rfl own4 _ _ _ [⟨y0, y1, y2, y3, y4, y5, y6⟩] rfl rfl hrow (by rw [HLEN.out]; have := HN.out; simp; omega) (by decide) hz4 (Nat.zero_le _) (by decide) ?_; intro v4 w4 own5 grw4 at4; have kp4 : Keeps 0 [79, 5, 239] w1 w4 := Kd.own_keeps own4 grw4 (Nat.zero_le _) (by decide); have f5 := (kp4.2 G3 ⟨blk_lt f4, .inr ⟨_, _, _, f4, by simp⟩⟩).trans f4; have c5 := block_cell f5 (i := 21) (v := .slice A k c) rfl; have z5 : w4.frozen? ⟨G3, 21, none⟩ = false := block_free f5; obtain ⟨A5, n5, c5', rfl⟩ := k_some (k_own own5))
          have g5 := (kp4.2 G2 ⟨blk_lt g4, .inr ⟨_, _, _, g4, by simp⟩⟩).trans g4
          have h5 := rds_keep hrd (kp4.mono (by simp))
          have q5 := rk_grown q4 grw4 (fun m hm => by have := (Kd.own_block own4 m hm).1; omega)
          go_roundw
          case rel =>
            refine ⟨k + 1, by have := HKN.out; omega, by go_num, .slice A5 n5 c5', set4 (.slice A k c) (.slice A5 n5 c5') ▸ block_set (i := 21) (u := .slice A5 n5 c5') f5, ?_, ?_, rk_cell q5 (by omega), block_far g5 ne⟩
            · rw [HSC.out]
              exact Kd.own_flat flatVote (Kd.own_keep own5 (Keeps.set (p := ⟨G3, 21, none⟩) f5 (Nat.zero_le _) (by decide) _)) (Nat.le_refl _)
            · rw [HSC.out]
              exact rds_farc h5 f5 (by decide) (by decide)
          case measure => have := HKN.out; simp [intOf]; omega
      · obtain rfl : k = n := by omega
        have b1 : decide (k < k) = false := by simp
        obtain ⟨A, c, rfl, lc, mc, _, _⟩ := Kd.own_row own
        have hP := HP.out
        rw [e5] at hP
        dsimp only at hP
        rw [Int.toNat_natCast] at hP
        obtain ⟨⟨L, rL⟩, hx⟩ : ∃ x, rdVotes k r5 = x := ⟨_, rfl⟩
        rw [hx] at own f hr hP
        dsimp only at own f hr hP
        have HO := Lib.hid own
        obtain ⟨m, hm⟩ : ∃ m, L.length = m := ⟨_, rfl⟩
        rw [hm] at f
        have HM := Lib.hid hm
        clear hx own lc HP hm
        subst hP
        go_wp2_with first
          | (refine wpList_load_row rfl 79 (.tmp 3) rfl G3 rfl 79 (mcs { msgZ with kind := 4 } nS nS nS (.slice A m c)) (0, 0) _ f Tryz.underlying79 rfl (by kernel_rfl) ?_)
          | (refine wpList_store_row rfl 79 (.tmp 2) (.tmp 48) rfl G2 rfl (mcs { msgZ with kind := 4 } nS nS nS (.slice A m c)) rfl 79 msgC g (by kernel_rfl) (by kernel_rfl) (by kernel_rfl) ?_)
        refine bodyPost_ret (results_cell_row rfl _ _ G2 79 (mcs { msgZ with kind := 4 } nS nS nS (.slice A m c)) (0, 0) _ rfl (setRow_same g) Tryz.underlying79 rfl (by kernel_rfl)) rfl ?_
        refine ⟨⟨nS, nS, nS, .slice A m c, rfl, Kd.own_nil _ _ _ _ _, Kd.own_nil _ _ _ _ _, Kd.own_nil _ _ _ _ _, ?_⟩, rds_far hr g (by decide) (by decide), rk_setRow qk (by omega)⟩
        rw [← HM.out]
        exact Kd.own_flat flatVote (Kd.own_keep (Kd.own_flat (B' := 0) (base' := G2) flatVote HO.out (Nat.le_refl _)) (keeps_setRow g (Nat.zero_le _) (by decide))) (Nat.le_refl _)
  have hP := HP.out
  rw [if_neg (by assumption), if_neg (by assumption), if_neg (by assumption), if_neg (by assumption), if_neg (by assumption), if_neg (by assumption)] at hP
  subst hP
  clear HP
  go_wp2_with first
    | (refine wpList_load_row rfl 79 (.tmp 3) rfl G3 rfl 79 (kindC k) (0, 0) _ f2 Tryz.underlying79 rfl (by kernel_rfl) ?_)
    | (refine wpList_store_row rfl 79 (.tmp 2) (.tmp 48) rfl G2 rfl (kindC k) rfl 79 msgC g2 (by kernel_rfl) (by kernel_rfl) (by kernel_rfl) ?_)
  refine bodyPost_ret (results_cell_row rfl _ _ G2 79 (kindC k) (0, 0) _ rfl (setRow_same g2) Tryz.underlying79 rfl (by kernel_rfl)) rfl ?_
  exact ⟨⟨nS, nS, nS, nS, rfl, Kd.own_nil _ _ _ _ _, Kd.own_nil _ _ _ _ _, Kd.own_nil _ _ _ _ _, Kd.own_nil _ _ _ _ _⟩, rds_far h2 g2 (by decide) (by decide), rk_setRow q2 (by omega)⟩
end Go.Proofs.YtcbfpdenjdgnlaaGreat
