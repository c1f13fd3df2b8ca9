/- Packages tree, learner: Len, Blocks of one that is. No claim of its own; no condition. -/
import Derived.Test.YtcbfpdenjdgnlaaGreatQt41
import Derived.Test.YtcbfpdenjdgnlaaGreatQt42
import Derived.Test.YtcbfpdenjdgnlaaGreatQt33
namespace Go.Proofs.YtcbfpdenjdgnlaaGreat
open Go.ChangeShapes Go.WideShapes Go.ChangeAt Go.RowKit
set_option linter.unusedVariables false
set_option linter.unusedSimpArgs false
theorem run_lenM {W : World} {M : Nat} {es : List (ByteArray × Value)} (h : SMap keyStr W M es) : (Builtin.len_ #[167] 3 #[.map (some M)]).run Tryz.prog W = .ok (.int .i64 (es.length : Int)) W := by
  obtain ⟨a, c, h1, h2, _⟩ := h
  have hl : a.size = es.length := by
    have := congrArg List.length h2
    simpa [kvs] using this
  have h3 := Go.run_len_map (P := Tryz.prog) (w := W) 167 3 M a c (by kernel_rfl) h1
  rw [hl] at h3
  exact h3
set_option maxHeartbeats 1600000 in
set_option maxRecDepth 100000 in
theorem tlen_calls (T M : Nat) (es : List (ByteArray × Value)) (w : World) (hT : w.heap[T]? = some (.cells #[.map (some M)] 169 (0, 0))) (hM : SMap keyStr w M es) :
    Calls Tryz.prog 65 #[.pointer (some ⟨T, 0, none⟩)] w fun x w' => x = .returned (.int .i64 (es.length : Int)) ∧ w' = w := by
  have c0 := block_cell hT (i := 0) (v := .map (some M)) rfl
  have hl := run_lenM hM
  clear hT hM
  go_enter Tryz.func65, Tryz.ntmps65
  go_wp2_with fail
  go_ret
  exact ⟨rfl, rfl⟩
set_option maxHeartbeats 1600000 in
set_option maxRecDepth 100000 in
theorem lblocks_calls (N T M m : Nat) (es : List (ByteArray × Value)) (w : World) (h0 : w.cell? ⟨N, 0, none⟩ = some (.pointer (some ⟨T, 0, none⟩))) (h8 : w.cell? ⟨N, 8, none⟩ = some (.map (some m))) (hT : w.heap[T]? = some (.cells #[.map (some M)] 169 (0, 0))) (hM : SMap keyStr w M es) :
    Calls Tryz.prog 25 #[.pointer (some ⟨N, 0, none⟩)] w fun x w' => x = .returned (.int .i64 (es.length : Int)) ∧ w' = w := by
  have HI := Lib.hid (lis_at w N (some m) h8)
  have HL := Lib.hid (tlen_calls T M es w hT hM)
  clear hT hM h8
  go_enter Tryz.func25, Tryz.ntmps25
  go_wp2_with first
    | (go_at_call 58; refine Calls.mono (HI.out) ?_; rintro x w1 ⟨rfl, rfl⟩)
    | (go_at_call 65; refine Calls.mono (HL.out) ?_; rintro x w2 ⟨rfl, rfl⟩)
  go_ret
  exact ⟨rfl, rfl⟩
end Go.Proofs.YtcbfpdenjdgnlaaGreat
/- Package learner: Hear of octets that are no message, or of a message that is neither a block nor a vote. No claim of its own; no condition. -/
namespace Go.Proofs.YtcbfpdenjdgnlaaGreat
open Go.ChangeShapes Go.WideShapes Go.ChangeAt Go.RowKit
set_option linter.unusedVariables false
set_option linter.unusedSimpArgs false
set_option maxHeartbeats 1600000 in
set_option maxRecDepth 100000 in
theorem hear_none (o : List UInt8) (A : Option Addr) (n c B N m : Nat) (w : World) (hn : n = o.length) (hr : Kd.u8.Row 5 B w A o) (hm : w.cell? ⟨N, 8, none⟩ = some (.map (some m))) (hf : readF o = none) :
    Calls Tryz.prog 24 #[.pointer (some ⟨N, 0, none⟩), .slice A n c] w fun x w' => x = .returned (.bool false) ∧ Below w.heap.size w w' := by
  have HI := Lib.hid (lis_at w N (some m) hm)
  have hrd := mRead_calls o A n c w B hn hr
  rw [hf] at hrd
  have HR := Lib.hid (show Calls Tryz.prog 59 #[.slice A n c] w fun x w' => x = .returned (.tuple #[.agg msgC, .int .i64 33]) ∧ Below w.heap.size w w' from hrd)
  clear hrd hf hr hn hm
  go_enter Tryz.func24, Tryz.ntmps24
  go_wp2_with first
    | (refine wpList_allocTo rfl _ rfl (.pointer (some ⟨_, 0, none⟩)) (.cells msgC 79) (by kernel_rfl) ?_)
    | (go_at_call 58; refine Calls.mono (HI.out) ?_; rintro x w1 ⟨rfl, rfl⟩)
    | (go_at_call 59; refine Calls.mono (HR.out) ?_; rintro x w2 ⟨rfl, b2⟩)
    | (refine wpList_store_new msgC 79 _ rfl rfl 79 (.tmp 5) (.tmp 15) rfl rfl msgC rfl size79 rfl (by kernel_rfl) ?_)
  go_ret
  exact ⟨rfl, bl_alloc b2 _⟩
set_option maxHeartbeats 1600000 in
set_option maxRecDepth 100000 in
theorem hear_other (o : List UInt8) (A : Option Addr) (n c B N m : Nat) (M : Msg) (w : World) (hn : n = o.length) (hr : Kd.u8.Row 5 B w A o) (hm : w.cell? ⟨N, 8, none⟩ = some (.map (some m))) (hf : readF o = some M) (h1 : M.kind ≠ 1) (h2 : M.kind ≠ 2) :
    Calls Tryz.prog 24 #[.pointer (some ⟨N, 0, none⟩), .slice A n c] w fun x w' => x = .returned (.bool false) ∧ Below w.heap.size w w' := by
  have HI := Lib.hid (lis_at w N (some m) hm)
  have hrd := mRead_calls o A n c w B hn hr
  rw [hf] at hrd
  have HR := Lib.hid (show Calls Tryz.prog 59 #[.slice A n c] w fun x w' => (∃ v1 v2 v3 v4, x = .returned (.tuple #[.agg (mcs M v1 v2 v3 v4), .int .i64 0]) ∧ MsgOwn w.heap.size w' M v1 v2 v3 v4) ∧ Below w.heap.size w w' from hrd)
  have g1 : (M.kind == 1) = false := by rw [beq_eq_false_iff_ne]; exact h1
  have g2 : (M.kind == 2) = false := by rw [beq_eq_false_iff_ne]; exact h2
  clear hrd hf hr hn hm h1 h2
  go_enter Tryz.func24, Tryz.ntmps24
  go_upto_region 4 with first
    | (refine wpList_allocTo rfl _ rfl (.pointer (some ⟨_, 0, none⟩)) (.cells msgC 79) (by kernel_rfl) ?_)
    | (go_at_call 58; refine Calls.mono (HI.out) ?_; rintro x w1 ⟨rfl, rfl⟩)
    | (go_at_call 59; refine Calls.mono (HR.out) ?_; rintro x w2 ⟨⟨v1, v2, v3, v4, rfl, ho⟩, b2⟩; obtain ⟨A1, c1, rfl, p1⟩ := own_open ho.1; obtain ⟨A2, c2, rfl, p2⟩ := own_open ho.2.1; obtain ⟨A3, c3, rfl, p3⟩ := own_open ho.2.2.1; obtain ⟨A4, c4, rfl, p4⟩ := own_open ho.2.2.2)
    | (refine wpList_store_new msgC 79 _ rfl rfl 79 (.tmp 5) (.tmp 15) rfl rfl (mcs M _ _ _ _) rfl size79 rfl (by kernel_rfl) ?_)
  have f := alloc_new w2 (.cells (mcs M (.slice A1 M.block.justify.votes.length c1) (.slice A2 M.block.txs.length c2) (.slice A3 M.cert.votes.length c3) (.slice A4 M.blames.length c4)) 79)
  have q := bl_alloc b2 (.cells (mcs M (.slice A1 M.block.justify.votes.length c1) (.slice A2 M.block.txs.length c2) (.slice A3 M.cert.votes.length c3) (.slice A4 M.blames.length c4)) 79)
  obtain ⟨G, hG⟩ : ∃ G, w2.heap.size = G := ⟨_, rfl⟩
  simp only [hG] at f ⊢
  clear hG ho p1 p2 p3 p4 b2 HI HR
  generalize w2.alloc (.cells (mcs M _ _ _ _) 79) = W at *
  obtain ⟨z0, _⟩ := mcells f
  clear f
  go_wp2_with fail
  go_ret
  exact ⟨rfl, q⟩
end Go.Proofs.YtcbfpdenjdgnlaaGreat
/- Package learner: Hear of a message that is a vote. No claim of its own; no condition. -/
namespace Go.Proofs.YtcbfpdenjdgnlaaGreat
open Go.ChangeShapes Go.WideShapes Go.ChangeAt Go.RowKit
set_option linter.unusedVariables false
set_option linter.unusedSimpArgs false
theorem stat_ret {m : Nat} {es : List (Vote × Value)} {v : Vote} {is val : Bool} {w w' : World} {x : Ending} (h : StatPost m es v is val w x w') : ∃ b : Bool, x = .returned (.bool b) := by
  rcases h with ⟨_, h, _⟩ | ⟨_, _, _, h, _⟩
  · exact ⟨_, h⟩
  · exact ⟨_, h⟩
set_option maxHeartbeats 1600000 in
set_option maxRecDepth 100000 in
theorem hear_vote (o : List UInt8) (A : Option Addr) (n c B N m : Nat) (M : Msg) (es : List (Vote × Value)) (vo : Vote) (is val : Bool) (Ar : Option Addr) (L cr Br : Nat) (roots : List ByteArray) (w : World) (hn : n = o.length) (hr : Kd.u8.Row 5 B w A o) (hm : w.cell? ⟨N, 8, none⟩ = some (.map (some m))) (hf : readF o = some M) (h2 : M.kind = 2) (hz : M.vote.sig.size ≤ 140737488351232)
    (h1r : w.cell? ⟨N, 1, none⟩ = some (.slice Ar L cr)) (hM : SMap keyVote w m es)
    (hlk : ∀ W, Below w.heap.size w W → (Instr.lookup 106 (.map (some m)) (.agg (vcs (bareV M.vote))) true).run Tryz.prog W = .ok (.tuple #[.agg (vcs vo), .bool is]) W)
    (hL : L = roots.length) (hl : roots.length ≤ 1048576) (hrr : Kd.str.Row 9 Br w Ar roots) (hval : validV M.vote roots = val) :
    Calls Tryz.prog 24 #[.pointer (some ⟨N, 0, none⟩), .slice A n c] w fun x w' => ∃ W, Below w.heap.size w W ∧ StatPost m es M.vote is val W x w' := by
  have HI := Lib.hid (lis_at w N (some m) hm)
  have hrd := mRead_calls o A n c w B hn hr
  rw [hf] at hrd
  have HR := Lib.hid (show Calls Tryz.prog 59 #[.slice A n c] w fun x w' => (∃ v1 v2 v3 v4, x = .returned (.tuple #[.agg (mcs M v1 v2 v3 v4), .int .i64 0]) ∧ MsgOwn w.heap.size w' M v1 v2 v3 v4) ∧ Below w.heap.size w w' from hrd)
  have g1 : (M.kind == 1) = false := by rw [h2]; rfl
  have g2 : (M.kind == 2) = true := by rw [h2]; rfl
  have HS := Lib.hid (fun W (q : Below w.heap.size w W) => stat_calls N m es M.vote vo is val Ar L cr Br roots W (cell_below q h1r) (cell_below q hm) (smap_below keyVote hM q) (fun W' q' => hlk W' (bl_trans q q')) hL hl (Kd.row_below q hrr) hz hval)
  clear hrd hf hr hn hm h2 h1r hM hlk hL hl hrr hval hz
  go_enter Tryz.func24, Tryz.ntmps24
  go_upto_region 4 with first
    | (refine wpList_allocTo rfl _ rfl (.pointer (some ⟨_, 0, none⟩)) (.cells msgC 79) (by kernel_rfl) ?_)
    | (go_at_call 58; refine Calls.mono (HI.out) ?_; rintro x w1 ⟨rfl, rfl⟩)
    | (go_at_call 59; refine Calls.mono (HR.out) ?_; rintro x w2 ⟨⟨v1, v2, v3, v4, rfl, ho⟩, b2⟩; obtain ⟨A1, c1, rfl, p1⟩ := own_open ho.1; obtain ⟨A2, c2, rfl, p2⟩ := own_open ho.2.1; obtain ⟨A3, c3, rfl, p3⟩ := own_open ho.2.2.1; obtain ⟨A4, c4, rfl, p4⟩ := own_open ho.2.2.2)
    | (refine wpList_store_new msgC 79 _ rfl rfl 79 (.tmp 5) (.tmp 15) rfl rfl (mcs M _ _ _ _) rfl size79 rfl (by kernel_rfl) ?_)
  have f := alloc_new w2 (.cells (mcs M (.slice A1 M.block.justify.votes.length c1) (.slice A2 M.block.txs.length c2) (.slice A3 M.cert.votes.length c3) (.slice A4 M.blames.length c4)) 79)
  have q := bl_alloc b2 (.cells (mcs M (.slice A1 M.block.justify.votes.length c1) (.slice A2 M.block.txs.length c2) (.slice A3 M.cert.votes.length c3) (.slice A4 M.blames.length c4)) 79)
  obtain ⟨G, hG⟩ : ∃ G, w2.heap.size = G := ⟨_, rfl⟩
  simp only [hG] at f ⊢
  clear hG ho p1 p2 p3 p4 b2 HI HR
  generalize w2.alloc (.cells (mcs M _ _ _ _) 79) = W at *
  obtain ⟨z0, _, z2, _⟩ := mcells f
  clear f
  have HW := Lib.hid q
  go_wp2_with first
    | (refine wpList_loadg (by rfl) 52 (.tmp 60) rfl G 10 rfl (vcs M.vote) _ z2 Tryz.underlying52 rfl size52s ?_)
    | (go_at_call 64; refine (HS.out W HW.out).mono ?_; intro x w3 h3; obtain ⟨bv, rfl⟩ := stat_ret h3)
  go_ret
  exact ⟨W, HW.out, h3⟩
end Go.Proofs.YtcbfpdenjdgnlaaGreat
