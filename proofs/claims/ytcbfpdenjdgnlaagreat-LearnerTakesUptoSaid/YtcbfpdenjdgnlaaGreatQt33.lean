/- Package message: Read. No claim of its own; no condition. -/
import Derived.Test.YtcbfpdenjdgnlaaGreatQt32
namespace Go.Proofs.YtcbfpdenjdgnlaaGreat
open Go.ChangeShapes Go.WideShapes Go.ChangeAt Go.RowKit
set_option linter.unusedVariables false
set_option linter.unusedSimpArgs false
/-- A message of octets; none: it is none. -/
def readF (b : List UInt8) : Option Msg :=
  if 16384 < b.length then none else if ((rdMsgF (b, 0)).2.2 == 0) = true ∧ (rdMsgF (b, 0)).2.1 = [] ∧ bareOk (rdMsgF (b, 0)).1 = true then some (rdMsgF (b, 0)).1 else none
theorem rdMsg_self (r : Rst) : bareOk (rdMsgF r).1 = true → bareM (rdMsgF r).1 = (rdMsgF r).1 := by
  obtain ⟨⟨k, r1⟩, hk⟩ : ∃ x, gN r 6 = x := ⟨_, rfl⟩
  simp only [rdMsgF, hk]
  by_cases h1 : k = 1
  · subst h1; intro _; rfl
  by_cases h2 : k = 2
  · subst h2; intro _; rfl
  by_cases h3 : k = 3
  · subst h3; intro _; rfl
  by_cases h4 : k = 4
  · subst h4; intro _; rfl
  by_cases h5 : k = 5
  · subst h5; intro _; rfl
  by_cases h6 : k = 6
  · subst h6; intro _; rfl
  rw [if_neg h1, if_neg h2, if_neg h3, if_neg h4, if_neg h5, if_neg h6]
  unfold bareOk
  simp only [if_neg h1, if_neg h2, if_neg h3, if_neg h4, if_neg h5, if_neg h6]
  intro h
  cases h
theorem rdCert_len (r : Rst) : (rdCert r).1.votes.length ≤ 7 := by
  simp only [rdCert]
  split
  · simp only
    rw [rdVotes_len]
    have := gN_le (gT (gN (gN r 1048576).2 1048576).2 32).2 7 (by omega)
    omega
  · simp [certZ]
theorem rdBlock_len (r : Rst) : (rdBlock r).1.justify.votes.length ≤ 7 ∧ (rdBlock r).1.txs.length ≤ 4 := by
  have hz : blockZ.justify.votes.length ≤ 7 ∧ blockZ.txs.length ≤ 4 := by simp [blockZ, certZ]
  simp only [rdBlock]
  split
  · split
    · refine ⟨?_, rdBlockF_txs _⟩
      simp only [rdBlockF]
      exact rdCert_len _
    · exact hz
  · exact hz
theorem rdMsg_len (r : Rst) : MsgLen (rdMsgF r).1 := by
  obtain ⟨⟨k, r1⟩, hk⟩ : ∃ x, gN r 6 = x := ⟨_, rfl⟩
  have hz : ∀ {m : Msg}, m.block = blockZ → m.cert = certZ → m.blames = [] → MsgLen m := by
    rintro m h1 h2 h3
    unfold MsgLen
    rw [h1, h2, h3]
    simp [blockZ, certZ]
  simp only [rdMsgF, hk]
  split
  · have := rdBlock_len r1
    unfold MsgLen
    simp only [msgZ, certZ, List.length_nil]
    omega
  split
  · exact hz rfl rfl rfl
  split
  · have := rdCert_len r1
    unfold MsgLen
    simp only [msgZ, blockZ, certZ, List.length_nil]
    omega
  split
  · have h := gN_le r1 7 (by omega)
    unfold MsgLen
    simp only [msgZ, blockZ, certZ, List.length_nil, rdVotes_len]
    omega
  split
  · exact hz rfl rfl rfl
  split
  · exact hz rfl rfl rfl
  · exact hz rfl rfl rfl
theorem msgown_below {B : Nat} {w w' : World} {m : Msg} {v1 v2 v3 v4 : Value} (h : MsgOwn B w m v1 v2 v3 v4) (k : Below w.heap.size w w') : MsgOwn B w' m v1 v2 v3 v4 :=
  ⟨Kd.own_below h.1 k, Kd.own_below h.2.1 k, Kd.own_below h.2.2.1 k, Kd.own_below h.2.2.2 k⟩
theorem msgown_low {B B' : Nat} {w : World} {m : Msg} {v1 v2 v3 v4 : Value} (h : MsgOwn B w m v1 v2 v3 v4) (hB : B' ≤ B) : MsgOwn B' w m v1 v2 v3 v4 :=
  ⟨Kd.own_flat flatVote h.1 hB, Kd.own_flat flatTx h.2.1 hB, Kd.own_flat flatVote h.2.2.1 hB, Kd.own_flat flatVote h.2.2.2 hB⟩
theorem msgown_keep {B : Nat} {w w' : World} {m : Msg} {v1 v2 v3 v4 : Value} (h : MsgOwn B w m v1 v2 v3 v4) (k : Keeps 0 [52, 77] w w') : MsgOwn B w' m v1 v2 v3 v4 := by
  have hV : ∀ {xs : List Vote} {v : Value}, kVote.Own 52 B w B v xs → kVote.Own 52 B w' B v xs := fun h => Kd.own_flat flatVote (Kd.own_keep (Kd.own_flat (B' := 0) flatVote h (Nat.le_refl _)) (k.mono (by simp [kVote, Kd.iso, Kd.pair, Kd.int, Kd.str]))) (Nat.le_refl _)
  have hT : ∀ {xs : List Tx} {v : Value}, kTx.Own 77 B w B v xs → kTx.Own 77 B w' B v xs := fun h => Kd.own_flat flatTx (Kd.own_keep (Kd.own_flat (B' := 0) flatTx h (Nat.le_refl _)) (k.mono (by simp [kTx, Kd.iso, Kd.pair, Kd.int, Kd.str]))) (Nat.le_refl _)
  exact ⟨hV h.1, hT h.2.1, hV h.2.2.1, hV h.2.2.2⟩
theorem msgown_setRow {B g : Nat} {w : World} {m : Msg} {v1 v2 v3 v4 : Value} {c cs : Array Value} {f : Nat × Nat} (h : MsgOwn B w m v1 v2 v3 v4) (hg : w.heap[g]? = some (.cells c 79 f)) : MsgOwn B (w.setRow g cs) m v1 v2 v3 v4 :=
  msgown_keep h (keeps_setRow hg (Nat.zero_le _) (by decide))
/-- What Read hands back. -/
def ReadPost (B : Nat) (o : Option Msg) (x : Ending) (w' : World) : Prop := match o with
  | some m => ∃ v1 v2 v3 v4, x = .returned (.tuple #[.agg (mcs m v1 v2 v3 v4), .int .i64 0]) ∧ MsgOwn B w' m v1 v2 v3 v4
  | none => x = .returned (.tuple #[.agg msgC, .int .i64 33])
set_option maxHeartbeats 3200000 in
set_option maxRecDepth 100000 in
theorem mRead_calls (b : List UInt8) (A : Option Addr) (n c : Nat) (w : World) (B : Nat) (hn : n = b.length) (hr : Kd.u8.Row 5 B w A b) :
    Calls Tryz.prog 59 #[.slice A n c] w fun x w' => ReadPost w.heap.size (readF b) x w' ∧ Below w.heap.size w w' := by
  have q0 := bl_alloc (Below.refl w.heap.size w) (.cells msgC 79)
  have a0 := alloc_new w (.cells msgC 79)
  obtain ⟨G, hG⟩ : ∃ G, w.heap.size = G := ⟨_, rfl⟩
  rw [hG] at a0
  by_cases hbig : 16384 < b.length
  · have hf : readF b = none := by unfold readF; rw [if_pos hbig]
    rw [hf]
    have h1 : 16384 < n := by omega
    have h2 : decide (16384 < n) = true := decide_eq_true h1
    have HQ := Lib.hid q0
    have HA := Lib.hid a0
    clear hf hbig hn hr q0 a0
    go_enter Tryz.func59, Tryz.ntmps59
    go_upto_region 1 with fail
    change Code.wp _ _ _ _ (w.alloc (.cells msgC 79))
    generalize w.alloc (.cells msgC 79) = V at *
    go_wp2_with first
      | (refine wpList_buildTo rfl 79 _ rfl _ rfl msgC (by kernel_rfl) ?_)
      | (refine wpList_store_row rfl 79 (.tmp 2) (.tmp 9) rfl G rfl msgC rfl 79 msgC HA.out (by kernel_rfl) (by kernel_rfl) (by kernel_rfl) ?_)
    refine bodyPost_ret (results_cell_row2 rfl _ _ G 79 msgC (0, 0) _ rfl (setRow_same HA.out) Tryz.underlying79 rfl (by kernel_rfl)) rfl ?_
    have BF : Below w.heap.size w (V.setRow G msgC) := bl_setRow HQ.out (by omega)
    exact ⟨rfl, by first | exact BF | exact hG ▸ BF⟩
  · have h2 : decide (16384 < n) = false := decide_eq_false (by omega)
    have h3 : ¬ (16384 < n) := by omega
    have h4 : n ≤ 16384 := by omega
    have ho := open_rds b A n c (w.alloc (.cells msgC 79)) B hn (by omega) (Kd.row_below q0 hr)
    obtain ⟨⟨m, ⟨l, t⟩⟩, hx⟩ : ∃ x, rdMsgF (b, 0) = x := ⟨_, rfl⟩
    have hf : readF b = if (t == 0) = true ∧ l = [] ∧ bareOk m = true then some m else none := by unfold readF; rw [if_neg hbig, hx]
    obtain ⟨P, hPP⟩ : ∃ P, P = readF b := ⟨_, rfl⟩
    rw [← hPP]
    rw [← hPP] at hf
    have hmr := fun W N (hW : RdS W N (b, 0)) => mread_calls W N (b, 0) hW
    rw [hx] at hmr
    have hself := rdMsg_self (b, 0)
    have hlen := rdMsg_len (b, 0)
    rw [hx] at hself hlen
    dsimp only at hself hlen
    have hck := fun W v1 v2 v3 v4 (hW : MsgRow W m v1 v2 v3 v4) => mcheck_calls m v1 v2 v3 v4 W hlen hW hself
    have HO := Lib.hid ho
    have HMR := Lib.hid hmr
    have HCK := Lib.hid hck
    have HF := Lib.hid hf
    have HQ := Lib.hid q0
    have HA := Lib.hid a0
    have hz0 : (w.alloc (.cells msgC 79)).heap.size = G + 1 := by rw [World.size_alloc, hG]
    clear hf hbig hn hr q0 a0 ho hmr hck hself hlen hx hPP
    go_enter Tryz.func59, Tryz.ntmps59
    go_upto_region 1 with fail
    change Code.wp _ _ _ _ (w.alloc (.cells msgC 79))
    generalize w.alloc (.cells msgC 79) = V at *
    go_upto_region 5 with first
      | (go_at_call 118; refine (HO.out).mono ?_; rintro x w1 ⟨⟨N, rfl, h1, hN⟩, b1⟩)
      | (go_at_call 119; refine (HMR.out _ _ h1).mono ?_; rintro x w2 ⟨⟨v1, v2, v3, v4, rfl, own⟩, h2', k2⟩)
      | (refine wpList_allocTo rfl _ rfl (.pointer (some ⟨_, 0, none⟩)) (.cells msgC 79) (by kernel_rfl) ?_)
      | (refine wpList_store_new msgC 79 _ rfl rfl 79 (.tmp 5) (.tmp 13) rfl rfl (mcs m v1 v2 v3 v4) rfl (by kernel_rfl) (by kernel_rfl) (mcs_one (msgrow_own own)) ?_)
    have k1 := bl_trans HQ.out b1
    have zN : G ≤ N := by omega
    have k12 : Below w.heap.size w w2 := (k1).trans (rk_to k2 (by omega) k1.size)
    have hNG : N ≠ G := by omega
    have g2 := (k2.block G (by have := b1.size; omega) (by omega)).trans (block_below b1 HA.out)
    have bq := bl_alloc (Below.refl w2.heap.size w2) (.cells (mcs m v1 v2 v3 v4) 79)
    have BQ := bl_alloc k12 (.cells (mcs m v1 v2 v3 v4) 79)
    have g3 := block_below bq g2
    have f3 := alloc_new w2 (.cells (mcs m v1 v2 v3 v4) 79)
    have h3' := rds_below h2' bq
    have zw1 : G ≤ w1.heap.size := by have := b1.size; omega
    have zw2 : G ≤ w2.heap.size := by have := k2.size; omega
    have own3 := msgown_below own bq
    obtain ⟨G2, hG2⟩ : ∃ G2, w2.heap.size = G2 := ⟨_, rfl⟩
    rw [hG2] at f3
    have HOW := Lib.hid own3
    have HGG := Lib.hid zw1
    simp only [hG2]
    clear hG2 bq own k12 k1 g2 h1 h2' k2 b1 own3 hz0
    generalize w2.alloc (.cells (mcs m v1 v2 v3 v4) 79) = V2 at *
    have z0 := block_range (o := 0) (l := (mcs m v1 v2 v3 v4).toList) f3 (by rw [List.drop_zero, List.take_length])
    by_cases ht : t = 0
    case neg =>
      have hP : P = none := by rw [HF.out, if_neg (fun h => ht (by simpa using h.1))]
      subst hP
      clear HF
      go_wp2_with first
        | (go_at_call 120; with_reducible refine (err_z h3').mono ?_; rintro x w13 ⟨rfl, rfl⟩)
        | (refine wpList_buildTo rfl 79 _ rfl _ rfl msgC (by kernel_rfl) ?_)
        | (refine wpList_store_row rfl 79 (.tmp 2) (.tmp 27) rfl G rfl msgC rfl 79 msgC g3 (by kernel_rfl) (by kernel_rfl) (by kernel_rfl) ?_)
      refine bodyPost_ret (results_cell_row2 rfl _ _ G 79 msgC (0, 0) _ rfl (setRow_same g3) Tryz.underlying79 rfl (by kernel_rfl)) rfl ?_
      have BF := bl_setRow (cs := msgC) BQ (show w.heap.size ≤ G by omega)
      exact ⟨rfl, by first | exact BF | exact hG ▸ BF⟩
    case pos =>
      subst ht
      by_cases hl : l = []
      case neg =>
        have hP : P = none := by rw [HF.out, if_neg (fun h => hl h.2.1)]
        subst hP
        have hlp : decide (0 < l.length) = true := decide_eq_true (List.length_pos_iff.2 hl)
        have hlp2 : 0 < l.length := List.length_pos_iff.2 hl
        have HL := left_rds V2 N (l, 0) h3'
        rw [if_pos (by rfl)] at HL
        have HLL := Lib.hid HL
        clear HF HL
        go_wp2_with first
          | (go_at_call 120; with_reducible refine (err_z h3').mono ?_; rintro x w13 ⟨rfl, rfl⟩)
          | (go_at_call 121; refine (HLL.out).mono ?_; rintro x w14 ⟨rfl, rfl⟩)
          | (refine wpList_buildTo rfl 79 _ rfl _ rfl msgC (by kernel_rfl) ?_)
          | (refine wpList_store_row rfl 79 (.tmp 2) (.tmp 27) rfl G rfl msgC rfl 79 msgC g3 (by kernel_rfl) (by kernel_rfl) (by kernel_rfl) ?_)
        refine bodyPost_ret (results_cell_row2 rfl _ _ G 79 msgC (0, 0) _ rfl (setRow_same g3) Tryz.underlying79 rfl (by kernel_rfl)) rfl ?_
        have BF := bl_setRow (cs := msgC) BQ (show w.heap.size ≤ G by omega)
        exact ⟨rfl, by first | exact BF | exact hG ▸ BF⟩
      case pos =>
        subst hl
        have HL := left_rds V2 N ([], 0) h3'
        rw [if_pos (by rfl)] at HL
        have HLL := Lib.hid HL
        clear HL
        cases hok : bareOk m with
        | false =>
          have hP : P = none := by rw [HF.out, if_neg (fun h => by rw [hok] at h; exact absurd h.2.2 (by simp))]
          have hc : chkM m = 9 := by unfold chkM; rw [hok]; rfl
          subst hP
          rw [hc] at HCK
          clear HF hc hok
          go_wp2_with first
            | (go_at_call 120; with_reducible refine (err_z h3').mono ?_; rintro x w13 ⟨rfl, rfl⟩)
            | (go_at_call 121; refine (HLL.out).mono ?_; rintro x w14 ⟨rfl, rfl⟩)
            | (refine wpList_loadg (by rfl) 79 (.tmp 5) rfl G2 0 rfl (mcs m v1 v2 v3 v4) _ z0 Tryz.underlying79 rfl (by kernel_rfl) ?_)
            | (go_at_call 79; refine (HCK.out _ _ _ _ _ (msgrow_own HOW.out)).mono ?_; rintro x w15 ⟨rfl, b15⟩; have g15 := block_below b15 g3)
            | (refine wpList_buildTo rfl 79 _ rfl _ rfl msgC (by kernel_rfl) ?_)
            | (refine wpList_store_row rfl 79 (.tmp 2) (.tmp 27) rfl G rfl msgC rfl 79 msgC g15 (by kernel_rfl) (by kernel_rfl) (by kernel_rfl) ?_)
          refine bodyPost_ret (results_cell_row2 rfl _ _ G 79 msgC (0, 0) _ rfl (setRow_same g15) Tryz.underlying79 rfl (by kernel_rfl)) rfl ?_
          have BF := bl_setRow (cs := msgC) (bl_trans BQ b15) (show w.heap.size ≤ G by omega)
          exact ⟨rfl, by first | exact BF | exact hG ▸ BF⟩
        | true =>
          have hP : P = some m := by rw [HF.out, if_pos ⟨by rfl, rfl, hok⟩]
          have hc : chkM m = 0 := by unfold chkM; rw [hok]; rfl
          subst hP
          rw [hc] at HCK
          clear HF hc hok
          go_wp2_with first
            | (go_at_call 120; with_reducible refine (err_z h3').mono ?_; rintro x w13 ⟨rfl, rfl⟩)
            | (go_at_call 121; refine (HLL.out).mono ?_; rintro x w14 ⟨rfl, rfl⟩)
            | (refine wpList_loadg (by rfl) 79 (.tmp 5) rfl G2 0 rfl (mcs m v1 v2 v3 v4) _ z0 Tryz.underlying79 rfl (by kernel_rfl) ?_)
            | (go_at_call 79; refine (HCK.out _ _ _ _ _ (msgrow_own HOW.out)).mono ?_; rintro x w15 ⟨rfl, b15⟩; have g15 := block_below b15 g3; have f15 := block_below b15 f3)
            | (refine wpList_load_row rfl 79 (.tmp 5) rfl G2 rfl 79 (mcs m v1 v2 v3 v4) (0, 0) _ f15 Tryz.underlying79 rfl (by kernel_rfl) ?_)
            | (refine wpList_store_row rfl 79 (.tmp 2) (.tmp 28) rfl G rfl (mcs m v1 v2 v3 v4) rfl 79 msgC g15 (by kernel_rfl) (by kernel_rfl) (mcs_one (msgrow_own HOW.out)) ?_)
          refine bodyPost_ret (results_cell_row2 rfl _ _ G 79 (mcs m v1 v2 v3 v4) (0, 0) _ rfl (setRow_same g15) Tryz.underlying79 rfl (by kernel_rfl)) rfl ?_
          have BF := bl_setRow (cs := mcs m v1 v2 v3 v4) (bl_trans BQ b15) (show w.heap.size ≤ G by omega)
          refine ⟨⟨v1, v2, v3, v4, rfl, ?_⟩, by first | exact BF | exact hG ▸ BF⟩
          exact msgown_setRow (msgown_low (msgown_below HOW.out b15) (by have := HGG.out; omega)) g15
end Go.Proofs.YtcbfpdenjdgnlaaGreat
/- Package tx: text, Put. No claim of its own; no condition. Printed by a program of this session. -/
namespace Go.Proofs.YtcbfpdenjdgnlaaGreat
open Go.ChangeShapes Go.WideShapes Go.ChangeAt Go.RowKit
set_option linter.unusedVariables false
set_option linter.unusedSimpArgs false
/-- A transaction's fields, but its signature. -/
def tfW (s : List UInt8 × Int) (t : Tx) : List UInt8 × Int := numW (numW (numW (numW (textW s txWord) t.frm) t.to) t.amount) t.nonce
theorem tfW_bd {s : List UInt8 × Int} (h : s.1.length ≤ 20482) (t : Tx) : (tfW s t).1.length ≤ 20482 := numW_bd (numW_bd (numW_bd (numW_bd (textW_bd h _) _) _) _) _
def tpW (s : List UInt8 × Int) (t : Tx) : List UInt8 × Int := textW (tfW s t) t.sig
theorem tpW_bd {s : List UInt8 × Int} (h : s.1.length ≤ 20482) (t : Tx) : (tpW s t).1.length ≤ 20482 := textW_bd (tfW_bd h t) _
def tfS (s : List UInt8 × Int) (t : Tx) : Nat → List UInt8 × Int
  | 0 => textW s txWord
  | 1 => numW (textW s txWord) t.frm
  | 2 => numW (numW (textW s txWord) t.frm) t.to
  | 3 => numW (numW (numW (textW s txWord) t.frm) t.to) t.amount
  | _ => tfW s t
theorem tfS_bd {s : List UInt8 × Int} (h : s.1.length ≤ 20482) (t : Tx) (k : Nat) : (tfS s t k).1.length ≤ 20482 := by
  have h0 := textW_bd h txWord
  unfold tfS
  split
  · exact h0
  · exact numW_bd h0 _
  · exact numW_bd (numW_bd h0 _) _
  · exact numW_bd (numW_bd (numW_bd h0 _) _) _
  · exact tfW_bd h t
set_option maxHeartbeats 1600000 in
set_option maxRecDepth 100000 in
theorem ttext_calls (M N : Nat) (s : List UInt8 × Int) (t : Tx) (w : World) (h : WrS M w N s.1 s.2) (hl : s.1.length ≤ 20482) :
    Calls Tryz.prog 156 #[.pointer (some ⟨N, 0, none⟩), .agg (tcs t)] w fun x w' => (∃ u, x = .returned u) ∧ WrS M w' N (tfW s t).1 (tfW s t).2 ∧ Wk M w w' := by
  have q0 := bl_alloc (Below.refl w.heap.size w) (.cells (tcs t) 77)
  have a0 : (w.alloc (.cells (tcs t) 77)).heap[w.heap.size]? = some (.cells (tcs t) 77 (0, 0)) := alloc_new w _
  have W0 := wrs_below h q0
  have k0 := wk_below q0 (wrs_size h)
  have hb := fun k => tfS_bd hl t k
  have HB := Lib.hid hb
  have hzw : txWord.size ≤ 1048576 := by decide
  have htx := fun W (hW : WrS M W N s.1 s.2) => text_calls M N s txWord W hW (by omega) hzw
  have HTX := Lib.hid htx
  have HS := Lib.hid (show tfS s t 4 = tfW s t from rfl)
  obtain ⟨G, hG⟩ : ∃ G, w.heap.size = G := ⟨_, rfl⟩
  rw [hG] at a0
  clear hb htx hzw hl h
  unfold tcs at a0 W0 k0 q0 ⊢
  go_enter Tryz.func156, Tryz.ntmps156
  go_upto_region 1 with fail
  generalize w.alloc (.cells _ 77) = W at *
  go_upto_region 2 with (go_at_call 85; refine (HTX.out _ W0).mono ?_; rintro x w1 ⟨⟨x1, rfl⟩, W1, k1'⟩)
  have k1 := wk_trans k0 k1'
  have a1 := wk_block k1' a0 (by decide) (by decide)
  have y0 := block_cell a1 (i := 0) rfl
  have y1 := block_cell a1 (i := 1) rfl
  have y2 := block_cell a1 (i := 2) rfl
  have y3 := block_cell a1 (i := 3) rfl
  go_upto_region 3 with fail
  clear y0 y1 y2 y3 a1 a0 k1' k0 W0 q0
  go_loopw [17] (fun kv wr => ∃ k : Nat, k ≤ 4 ∧ kv = .int .i64 k ∧ WrS M wr N (tfS s t k).1 (tfS s t k).2 ∧ Wk M w wr) (fun kv _ => 4 - (intOf kv).toNat)
  case atStart => exact ⟨0, by omega, rfl, W1, k1⟩
  case round =>
    obtain ⟨k, hk, rfl, WS, kk⟩ := hrel
    rename World => wr
    clear W1 k1
    by_cases e0 : k = 4
    · subst e0
      go_wp2_with fail
      go_end0
      rw [HS.out] at WS
      exact ⟨⟨_, rfl⟩, WS, kk⟩
    by_cases e1 : k = 0
    · subst e1
      have hn := num_calls M N (tfS s t 0) t.frm wr WS (by have := HB.out 0; omega)
      have HN := Lib.hid hn
      clear hn
      have hidx : ∀ W, (Instr.index 271 (.agg #[.int .i64 t.frm, .int .i64 t.to, .int .i64 t.amount, .int .i64 t.nonce]) (.int .i64 0)).run Tryz.prog W = .ok (.int .i64 t.frm) W := fun _ => by kernel_rfl
      go_wp2_with (go_at_call 81; refine (HN.out).mono ?_; rintro x w2 ⟨⟨x2, rfl⟩, W2, k2⟩)
      go_roundw
      case rel => exact ⟨1, by omega, by go_num, W2, wk_trans kk k2⟩
      case measure => simp [intOf]
    by_cases e2 : k = 1
    · subst e2
      have hn := num_calls M N (tfS s t 1) t.to wr WS (by have := HB.out 1; omega)
      have HN := Lib.hid hn
      clear hn
      have hidx : ∀ W, (Instr.index 271 (.agg #[.int .i64 t.frm, .int .i64 t.to, .int .i64 t.amount, .int .i64 t.nonce]) (.int .i64 1)).run Tryz.prog W = .ok (.int .i64 t.to) W := fun _ => by kernel_rfl
      go_wp2_with (go_at_call 81; refine (HN.out).mono ?_; rintro x w2 ⟨⟨x2, rfl⟩, W2, k2⟩)
      go_roundw
      case rel => exact ⟨2, by omega, by go_num, W2, wk_trans kk k2⟩
      case measure => simp [intOf]
    by_cases e3 : k = 2
    · subst e3
      have hn := num_calls M N (tfS s t 2) t.amount wr WS (by have := HB.out 2; omega)
      have HN := Lib.hid hn
      clear hn
      have hidx : ∀ W, (Instr.index 271 (.agg #[.int .i64 t.frm, .int .i64 t.to, .int .i64 t.amount, .int .i64 t.nonce]) (.int .i64 2)).run Tryz.prog W = .ok (.int .i64 t.amount) W := fun _ => by kernel_rfl
      go_wp2_with (go_at_call 81; refine (HN.out).mono ?_; rintro x w2 ⟨⟨x2, rfl⟩, W2, k2⟩)
      go_roundw
      case rel => exact ⟨3, by omega, by go_num, W2, wk_trans kk k2⟩
      case measure => simp [intOf]
    by_cases e4 : k = 3
    · subst e4
      have hn := num_calls M N (tfS s t 3) t.nonce wr WS (by have := HB.out 3; omega)
      have HN := Lib.hid hn
      clear hn
      have hidx : ∀ W, (Instr.index 271 (.agg #[.int .i64 t.frm, .int .i64 t.to, .int .i64 t.amount, .int .i64 t.nonce]) (.int .i64 3)).run Tryz.prog W = .ok (.int .i64 t.nonce) W := fun _ => by kernel_rfl
      go_wp2_with (go_at_call 81; refine (HN.out).mono ?_; rintro x w2 ⟨⟨x2, rfl⟩, W2, k2⟩)
      go_roundw
      case rel => exact ⟨4, by omega, by go_num, W2, wk_trans kk k2⟩
      case measure => simp [intOf]
    omega
set_option maxHeartbeats 1600000 in
set_option maxRecDepth 100000 in
theorem tput_calls (M N : Nat) (s : List UInt8 × Int) (t : Tx) (w : World) (h : WrS M w N s.1 s.2) (hl : s.1.length ≤ 20482) (hz2 : t.sig.size ≤ 1048576) :
    Calls Tryz.prog 86 #[.pointer (some ⟨N, 0, none⟩), .agg (tcs t)] w fun x w' => (∃ u, x = .returned u) ∧ WrS M w' N (tpW s t).1 (tpW s t).2 ∧ Wk M w w' := by
  have q0 := bl_alloc (Below.refl w.heap.size w) (.cells (tcs t) 77)
  have a0 : (w.alloc (.cells (tcs t) 77)).heap[w.heap.size]? = some (.cells (tcs t) 77 (0, 0)) := alloc_new w _
  have W0 := wrs_below h q0
  have k0 := wk_below q0 (wrs_size h)
  have hb := tfW_bd hl t
  have hvt := fun W (hW : WrS M W N s.1 s.2) => ttext_calls M N s t W hW hl
  have htx := fun W (hW : WrS M W N (tfW s t).1 (tfW s t).2) => text_calls M N (tfW s t) t.sig W hW (by omega) hz2
  have HVT := Lib.hid hvt
  have HTX := Lib.hid htx
  obtain ⟨G, hG⟩ : ∃ G, w.heap.size = G := ⟨_, rfl⟩
  rw [hG] at a0
  clear hvt htx hb
  unfold tcs at HVT
  unfold tcs
  go_enter Tryz.func86, Tryz.ntmps86
  go_upto_region 1 with fail
  change Code.wp _ _ _ _ (w.alloc (.cells (tcs t) 77))
  generalize w.alloc (.cells (tcs t) 77) = W at *
  obtain ⟨r0, r1, r2, r3, r4⟩ := tcells a0
  go_upto_region 2 with (go_at_call 156; refine (HVT.out _ W0).mono ?_; rintro x w1 ⟨⟨x1, rfl⟩, W1, k1'⟩)
  have k1 := wk_trans k0 k1'
  have a1 := wk_block k1' a0 (by decide) (by decide)
  clear r0 r1 r2 r3 r4 a0
  obtain ⟨r0, r1, r2, r3, r4⟩ := tcells a1
  go_wp2_with (go_at_call 85; refine (HTX.out _ W1).mono ?_; rintro x w2 ⟨⟨x2, rfl⟩, W2, k2'⟩)
  go_end0
  exact ⟨⟨_, rfl⟩, W2, wk_trans k1 k2'⟩
end Go.Proofs.YtcbfpdenjdgnlaaGreat
