/- Package learner: what one is that heard something; Hear. No claim of its own; no condition. -/
import Derived.Test.YtcbfpdenjdgnlaaGreatQt44
namespace Go.Proofs.YtcbfpdenjdgnlaaGreat
open Go.ChangeShapes Go.WideShapes Go.ChangeAt Go.RowKit
set_option linter.unusedVariables false
set_option linter.unusedSimpArgs false
/-- Of the old blocks those of S alone may have changed. -/
structure Off (S : Nat → Prop) (w w' : World) : Prop where
  os : w'.os = w.os
  tape : w'.tape = w.tape
  output : w'.output = w.output
  size : w.heap.size ≤ w'.heap.size
  block : ∀ k, k < w.heap.size → ¬ S k → w'.heap[k]? = w.heap[k]?
theorem off_refl (S : Nat → Prop) (w : World) : Off S w w := ⟨rfl, rfl, rfl, Nat.le_refl _, fun _ _ _ => rfl⟩
theorem off_trans {S : Nat → Prop} {a b c : World} (h : Off S a b) (k : Off S b c) : Off S a c :=
  ⟨k.os.trans h.os, k.tape.trans h.tape, k.output.trans h.output, Nat.le_trans h.size k.size, fun i hi hs => (k.block i (Nat.lt_of_lt_of_le hi h.size) hs).trans (h.block i hi hs)⟩
theorem off_mono {S S' : Nat → Prop} {a b : World} (h : Off S a b) (hS : ∀ k, S k → S' k) : Off S' a b :=
  ⟨h.os, h.tape, h.output, h.size, fun i hi hs => h.block i hi fun hk => hs (hS i hk)⟩
theorem off_below {S : Nat → Prop} {w w' : World} (h : Below w.heap.size w w') : Off S w w' := ⟨h.os, h.tape, h.output, h.size, fun k hk _ => h.block k hk⟩
theorem below_off {S : Nat → Prop} {B : Nat} {w w' : World} (h : Off S w w') (hB : B ≤ w.heap.size) (hS : ∀ k, S k → B ≤ k) : Below B w w' :=
  ⟨h.os, h.tape, h.output, h.size, fun k hk => h.block k (Nat.lt_of_lt_of_le hk hB) fun hs => by have := hS k hs; omega⟩
theorem keeps_off {S : Nat → Prop} {E : List TypeId} {w w' : World} (h : Off S w w') (hS : ∀ k c t f, S k → w.heap[k]? = some (.cells c t f) → t ∉ E) : Keeps 0 E w w' :=
  ⟨h.size, fun k hk => h.block k hk.1 fun hs => by
    rcases hk.2 with h0 | ⟨c, t, f, h1, h2⟩
    · omega
    · exact hS k c t f hs h1 h2⟩
/-- A block that was taken, and where its lists lie. -/
structure Ent where
  b : Block
  A1 : Option Addr
  c1 : Nat
  A : Option Addr
  c : Nat
def Ent.val (e : Ent) : Value := .agg (bcs e.b (.slice e.A1 e.b.justify.votes.length e.c1) (.slice e.A e.b.txs.length e.c))
def entsV (bs : List Ent) : List (ByteArray × Value) := bs.map fun e => (bname e.b, e.val)
def metV (vs : List Vote) : List (Vote × Value) := vs.map fun v => (bareV v, .agg (vcs v))
def EntOk (w : World) (e : Ent) : Prop :=
  kVote.Own 52 0 w 0 (.slice e.A1 e.b.justify.votes.length e.c1) e.b.justify.votes ∧ kTx.Own 77 0 w 0 (.slice e.A e.b.txs.length e.c) e.b.txs ∧ e.b.justify.votes.length ≤ 1048576 ∧ e.b.txs.length ≤ 1048576
/-- A config, and a rule. -/
structure LCfg where
  roots : List ByteArray
  clients : List ByteArray
  q : Int
  base : Int
  cap : Int
  rk : Int
  rn : Int
def LCfg.ok (C : LCfg) : Prop := C.roots.length ≤ 1048576 ∧ C.clients.length ≤ 1048576
/-- A learner at N, whose maps are M and m, that took these blocks and these statements. -/
def LrnAt (w : World) (N M m : Nat) (C : LCfg) (bs : List Block) (vs : List Vote) : Prop :=
  ∃ T A1 c1 A2 c2 es, w.heap[N]? = some (.cells #[.pointer (some ⟨T, 0, none⟩), .slice A1 C.roots.length c1, .slice A2 C.clients.length c2, .int .i64 C.q, .int .i64 C.base, .int .i64 C.cap, .int .i64 C.rk, .int .i64 C.rn, .map (some m)] 108 (0, 0)) ∧ w.heap[T]? = some (.cells #[.map (some M)] 169 (0, 0)) ∧ M ≠ m ∧
    SMap keyStr w M (entsV es) ∧ SMap keyVote w m (metV vs) ∧ Kd.str.Own 9 0 w 0 (.slice A1 C.roots.length c1) C.roots ∧ Kd.str.Own 9 0 w 0 (.slice A2 C.clients.length c2) C.clients ∧ (∀ e ∈ es, EntOk w e) ∧ es.map Ent.b = bs
theorem entok_keep {w w' : World} {e : Ent} (h : EntOk w e) (k : Keeps 0 [52, 77] w w') : EntOk w' e :=
  ⟨Kd.own_keep h.1 (k.mono (by simp [kVote, Kd.iso, Kd.pair, Kd.int, Kd.str])), Kd.own_keep h.2.1 (k.mono (by simp [kTx, Kd.iso, Kd.pair, Kd.int, Kd.str])), h.2.2⟩
theorem entok_below {w w' : World} {e : Ent} (h : EntOk w e) (k : Below w.heap.size w w') : EntOk w' e := entok_keep h (Keeps.of_below k)
theorem lrnat_off {S : Nat → Prop} {w w' : World} {N M m : Nat} {C : LCfg} {bs : List Block} {vs : List Vote} (h : LrnAt w N M m C bs vs) (k : Off S w w') (hM : ¬ S M) (hm : ¬ S m) (hS : ∀ k c t f, S k → w.heap[k]? = some (.cells c t f) → t ∉ [9, 52, 77, 108, 169]) : LrnAt w' N M m C bs vs := by
  obtain ⟨T, A1, c1, A2, c2, es, h1, h2, h3, h4, h5, h6, h7, h8, h9⟩ := h
  have kk := keeps_off (E := [9, 52, 77]) k fun k c t f a b hc => hS k c t f a b (List.mem_append_left [108, 169] hc)
  refine ⟨T, A1, c1, A2, c2, es, (k.block N (blk_lt h1) fun hs => hS N _ _ _ hs h1 (by simp)).trans h1, (k.block T (blk_lt h2) fun hs => hS T _ _ _ hs h2 (by simp)).trans h2, h3, smap_same keyStr h4 (k.block M (smap_lt keyStr h4) hM), smap_same keyVote h5 (k.block m (smap_lt keyVote h5) hm),
    Kd.own_keep h6 (kk.mono (by simp [Kd.str])), Kd.own_keep h7 (kk.mono (by simp [Kd.str])), fun e he => entok_keep (h8 e he) (kk.mono (by simp)), h9⟩
theorem lrnat_below {w w' : World} {N M m : Nat} {C : LCfg} {bs : List Block} {vs : List Vote} (h : LrnAt w N M m C bs vs) (k : Below w.heap.size w w') : LrnAt w' N M m C bs vs :=
  lrnat_off (S := fun _ => False) h (off_below k) id id fun _ _ _ _ hs => hs.elim
theorem lrnat_new {B : Nat} {w : World} {N : Nat} {roots clients : List ByteArray} {q base cap rk rn : Int} (h : LrnNew B w N roots clients q base cap rk rn) : ∃ M m, B ≤ M ∧ B ≤ m ∧ LrnAt w N M m ⟨roots, clients, q, base, cap, rk, rn⟩ [] [] := by
  obtain ⟨T, M, m, A1, c1, A2, c2, h1, h2, h3, h4, h5, h6, h7, h8, hMm, h9, h10⟩ := h
  exact ⟨M, m, h6, h8, T, A1, c1, A2, c2, [], h1, h3, hMm, ⟨#[], 0, h4, rfl, born_nil⟩, ⟨#[], 0, h7, rfl, born_nil⟩, Kd.own_flat Kd.flat_str h9 (Nat.zero_le _), Kd.own_flat Kd.flat_str h10 (Nat.zero_le _), (fun e he => by cases he), rfl⟩
theorem idx_map {κ α : Type} [DecidableEq κ] (f : α → κ) (g : α → Value) (s : κ) : ∀ (l : List α) (i : Nat), (idxS s (l.map fun a => (f a, g a)) i).map (·.2) = (l.find? fun a => decide (s = f a)).map g
  | [], _ => rfl
  | a :: l, i => by
    rw [List.map_cons]
    unfold idxS
    by_cases h : s = f a
    · simp [h]
    · simp only [h, if_false, List.find?_cons, decide_false]
      exact idx_map f g s l (i + 1)
theorem look_ents (nm : ByteArray) (es : List Ent) : lookS nm (entsV es) = (es.find? fun e => decide (nm = bname e.b)).map Ent.val := idx_map (fun e : Ent => bname e.b) Ent.val nm es 0
theorem look_met (s : Vote) (vs : List Vote) : lookS s (metV vs) = (vs.find? fun v => decide (s = bareV v)).map fun v => .agg (vcs v) := idx_map bareV (fun v => .agg (vcs v)) s vs 0
/-- What a learner makes of octets. -/
def hearF (C : LCfg) (bs : List Block) (vs : List Vote) (o : List UInt8) : Bool × (List Block × List Vote) :=
  match readF o with
  | none => (false, bs, vs)
  | some M =>
    if M.kind = 1 then (if (bs.any fun b => decide (bname M.block = bname b)) = true ∨ validB M.block C.roots C.clients C.q = false then (false, bs, vs) else (true, bs ++ [M.block], vs))
    else if M.kind = 2 then (if (vs.any fun v => decide (bareV M.vote = bareV v)) = true ∨ (M.vote.kind ≠ 2 ∧ M.vote.kind ≠ 3) ∨ validV M.vote C.roots = false then (false, bs, vs) else (true, bs, vs ++ [M.vote]))
    else (false, bs, vs)
def HearPost (N M m : Nat) (C : LCfg) (bs : List Block) (vs : List Vote) (o : List UInt8) (w : World) (x : Ending) (w' : World) : Prop :=
  x = .returned (.bool (hearF C bs vs o).1) ∧ LrnAt w' N M m C (hearF C bs vs o).2.1 (hearF C bs vs o).2.2 ∧ Off (fun k => k = M ∨ k = m) w w'
end Go.Proofs.YtcbfpdenjdgnlaaGreat
/- Package learner: Hear, whole. No claim of its own; no condition. -/
namespace Go.Proofs.YtcbfpdenjdgnlaaGreat
open Go.ChangeShapes Go.WideShapes Go.ChangeAt Go.RowKit
set_option linter.unusedVariables false
set_option linter.unusedSimpArgs false
theorem readF_some {o : List UInt8} {K : Msg} (h : readF o = some K) : K = (rdMsgF (o, 0)).1 ∧ bareOk K = true := by
  unfold readF at h
  split at h
  · cases h
  · split at h
    · rename_i h1 h2
      cases h
      exact ⟨rfl, h2.2.2⟩
    · cases h
theorem readF_block {o : List UInt8} {K : Msg} (h : readF o = some K) : K.block.justify.votes.length ≤ 7 ∧ K.block.txs.length ≤ 4 := by
  obtain ⟨rfl, _⟩ := readF_some h
  obtain ⟨⟨k, r1⟩, hk⟩ : ∃ x, gN (o, 0) 6 = x := ⟨_, rfl⟩
  have hz : ∀ {m : Msg}, m.block = blockZ → m.block.justify.votes.length ≤ 7 ∧ m.block.txs.length ≤ 4 := by
    rintro m h1
    rw [h1]
    simp [blockZ, certZ]
  simp only [rdMsgF, hk]
  split
  · exact rdBlock_len r1
  split
  · exact hz rfl
  split
  · exact hz rfl
  split
  · exact hz rfl
  split
  · exact hz rfl
  split
  · exact hz rfl
  · exact hz rfl
theorem readF_vote {o : List UInt8} {K : Msg} (h : readF o = some K) (h2 : K.kind = 2) : voteOk K.vote = true := by
  obtain ⟨_, hb⟩ := readF_some h
  unfold bareOk at hb
  rw [if_neg (by omega), if_pos h2] at hb
  exact hb
theorem voteOk_sig {v : Vote} (h : voteOk v = true) : v.sig.size ≤ 4096 := by
  simp only [voteOk, Bool.and_eq_true, decide_eq_true_eq] at h
  omega
theorem any_find {α : Type} {l : List α} {p : α → Bool} (h : l.find? p = none) : l.any p = false := by
  rw [List.find?_eq_none] at h
  simpa using h
theorem any_found {α : Type} {l : List α} {p : α → Bool} {a : α} (h : l.find? p = some a) : l.any p = true := by
  have h1 := List.find?_some h
  have h2 := List.mem_of_find?_eq_some h
  exact List.any_eq_true.2 ⟨a, h2, h1⟩
theorem any_ents (nm : ByteArray) (es : List Ent) : ((es.map Ent.b).any fun b => decide (nm = bname b)) = es.any fun e => decide (nm = bname e.b) := by
  rw [List.any_map]; rfl
theorem hear_at (o : List UInt8) (A : Option Addr) (n c B N M m : Nat) (C : LCfg) (bs : List Block) (vs : List Vote) (w : World) (hn : n = o.length) (hr : Kd.u8.Row 5 B w A o) (hC : C.ok) (h : LrnAt w N M m C bs vs) :
    Calls Tryz.prog 24 #[.pointer (some ⟨N, 0, none⟩), .slice A n c] w (HearPost N M m C bs vs o w) := by
  obtain ⟨T, A1, c1, A2, c2, es, h1, h2, h3, h4, h5, h6, h7, h8, h9⟩ := id h
  obtain ⟨hC1, hC2⟩ := hC
  have same : ∀ {x : Ending} {w' : World}, hearF C bs vs o = (false, bs, vs) → x = .returned (.bool false) ∧ Below w.heap.size w w' → HearPost N M m C bs vs o w x w' := by
    rintro x w' e ⟨rfl, b⟩
    unfold HearPost
    rw [e]
    exact ⟨rfl, lrnat_below h b, off_below b⟩
  obtain ⟨B1, k1, e1, l1, l2, r1, _⟩ := Kd.own_row h6
  cases e1
  obtain ⟨B2, k2, e2, l3, l4, r2, _⟩ := Kd.own_row h7
  cases e2
  have g8 := block_cell h1 (i := 8) (v := .map (some m)) rfl
  have g0 := block_cell h1 (i := 0) (v := .pointer (some ⟨T, 0, none⟩)) rfl
  have g1 := block_cell h1 (i := 1) (v := .slice A1 C.roots.length c1) rfl
  have g2 := block_cell h1 (i := 2) (v := .slice A2 C.clients.length c2) rfl
  have g3 := block_cell h1 (i := 3) (v := .int .i64 C.q) rfl
  have g4 := block_cell h1 (i := 4) (v := .int .i64 C.base) rfl
  have g5 := block_cell h1 (i := 5) (v := .int .i64 C.cap) rfl
  cases hf : readF o with
  | none => exact (hear_none o A n c B N m w hn hr g8 hf).mono fun x w' hx => same (by unfold hearF; rw [hf]) hx
  | some K =>
    by_cases hk1 : K.kind = 1
    · obtain ⟨n1, n2⟩ := readF_block hf
      obtain ⟨val, hval⟩ : ∃ b, validB K.block C.roots C.clients C.q = b := ⟨_, rfl⟩
      have hlook := look_ents (bname K.block) es
      have fin : ∀ (is : Bool), (es.any fun e => decide (bname K.block = bname e.b)) = is → ∀ x w', HBPost M (entsV es) K.block is val w x w' → HearPost N M m C bs vs o w x w' := by
        rintro is his x w' (⟨hx, rfl, b⟩ | ⟨rfl, rfl, rfl, W0, b0, W, P1, d1, P2, d2, bW, oB, oK, sm, ow1, ow2⟩)
        · refine same ?_ ⟨rfl, b⟩
          unfold hearF
          rw [hf]
          dsimp only
          rw [if_pos hk1, if_pos]
          rcases hx with rfl | rfl
          · exact .inl (by rw [← h9, any_ents]; exact his)
          · exact .inr hval
        · have e : hearF C bs vs o = (true, bs ++ [K.block], vs) := by
            unfold hearF
            rw [hf]
            dsimp only
            rw [if_pos hk1, if_neg]
            rintro (hh | hh)
            · rw [← h9, any_ents] at hh; exact absurd (his.symm.trans hh) (by decide)
            · rw [hval] at hh; cases hh
          unfold HearPost
          rw [e]
          have bM : M < w.heap.size := smap_lt keyStr h4
          have bb : Below w.heap.size w W := bl_trans b0 bW
          have oo : Off (fun k => k = M) W w' := by
            have := oB 0 (Nat.zero_le _)
            exact ⟨this.os, this.tape, this.output, this.size, fun k _ hk => oK k hk⟩
          obtain ⟨mes, mcl, hmes, _⟩ := h4
          have kk : Keeps 0 [9, 52, 77] W w' := keeps_off oo fun k cc t f a hc => by
            subst a
            rw [bb.block k bM, hmes] at hc
            cases hc
          have nM : ∀ k cc t f, w.heap[k]? = some (Obj.cells cc t f) → w'.heap[k]? = some (Obj.cells cc t f) := fun k cc t f hk => by
            rw [oK k (fun e => by subst e; rw [hmes] at hk; cases hk), bb.block k (blk_lt hk)]
            exact hk
          refine ⟨rfl, ⟨T, A1, c1, A2, c2, es ++ [⟨K.block, P1, d1, P2, d2⟩], nM _ _ _ _ h1, nM _ _ _ _ h2, h3, ?_, ?_, ?_, ?_, ?_, ?_⟩, ?_⟩
          · rw [show entsV (es ++ [⟨K.block, P1, d1, P2, d2⟩]) = entsV es ++ [(bname K.block, .agg (bcs K.block (.slice P1 K.block.justify.votes.length d1) (.slice P2 K.block.txs.length d2)))] by simp [entsV, Ent.val]]
            exact sm
          · exact smap_same keyVote h5 ((oK m (fun e => h3 e.symm)).trans (bb.block m (smap_lt keyVote h5)))
          · exact Kd.own_keep (Kd.own_below h6 bb) (kk.mono (by simp [Kd.str]))
          · exact Kd.own_keep (Kd.own_below h7 bb) (kk.mono (by simp [Kd.str]))
          · intro e' he'
            rcases List.mem_append.1 he' with he | he
            · have q := h8 e' he
              exact entok_keep ⟨Kd.own_below q.1 bb, Kd.own_below q.2.1 bb, q.2.2⟩ (kk.mono (by simp))
            · rw [List.mem_singleton] at he
              subst he
              exact entok_keep ⟨Kd.own_flat flatVote ow1 (Nat.zero_le _), Kd.own_flat flatTx ow2 (Nat.zero_le _), by show K.block.justify.votes.length ≤ _; omega, by show K.block.txs.length ≤ _; omega⟩ (kk.mono (by simp))
          · rw [List.map_append, h9]; rfl
          · exact off_trans (off_below bb) (off_mono oo fun k hk => .inl hk)
      cases hfi : es.find? fun e => decide (bname K.block = bname e.b) with
      | none =>
        rw [hfi] at hlook
        refine (hear_block o A n c B N m T M K (entsV es) blockZ none none 0 0 0 0 0 false val A1 A2 C.roots.length c1 C.clients.length c2 0 C.q C.base C.cap C.roots C.clients w hn hr g8 g0 h2 h4 g1 g2 g3 g4 g5 hf hk1 (by omega) (by omega) (fun W hW => ?_) rfl rfl (by decide) (by decide) (Kd.row_nil _ _ _ _ _) (Kd.row_nil _ _ _ _ _) (fun _ => hlook) rfl rfl hC1 hC2 r1 r2 hval).mono (fin false (any_find hfi))
        have := lookup_ok keyStr (smap_below keyStr h4 hW) Tryz.underlying167 (zero40 W) (bname K.block)
        rw [hlook] at this
        exact this
      | some e =>
        rw [hfi] at hlook
        have he := h8 e (List.mem_of_find?_eq_some hfi)
        obtain ⟨X1, y1, eX1, _, _, rX1, _⟩ := Kd.own_row he.1
        cases eX1
        obtain ⟨X2, y2, eX2, _, _, rX2, _⟩ := Kd.own_row he.2.1
        cases eX2
        refine (hear_block o A n c B N m T M K (entsV es) e.b e.A1 e.A e.b.justify.votes.length e.b.txs.length e.c1 e.c 0 true val A1 A2 C.roots.length c1 C.clients.length c2 0 C.q C.base C.cap C.roots C.clients w hn hr g8 g0 h2 h4 g1 g2 g3 g4 g5 hf hk1 (by omega) (by omega) (fun W hW => ?_) rfl rfl he.2.2.1 he.2.2.2 rX1 rX2 (fun h => by cases h) rfl rfl hC1 hC2 r1 r2 hval).mono (fin true (any_found hfi))
        have := lookup_ok keyStr (smap_below keyStr h4 hW) Tryz.underlying167 (zero40 W) (bname K.block)
        rw [hlook] at this
        exact this
    · by_cases hk2 : K.kind = 2
      · have hz := voteOk_sig (readF_vote hf hk2)
        obtain ⟨val, hval⟩ : ∃ b, validV K.vote C.roots = b := ⟨_, rfl⟩
        have hlook := look_met (bareV K.vote) vs
        have fin : ∀ (is : Bool), (vs.any fun v => decide (bareV K.vote = bareV v)) = is → ∀ x w', (∃ W, Below w.heap.size w W ∧ StatPost m (metV vs) K.vote is val W x w') → HearPost N M m C bs vs o w x w' := by
          rintro is his x w' ⟨W1, b1, (⟨hx, rfl, b⟩ | ⟨rfl, hkk, rfl, rfl, W, b0, oB, oK, sm⟩)⟩
          · refine same ?_ ⟨rfl, bl_trans b1 b⟩
            unfold hearF
            rw [hf]
            dsimp only
            rw [if_neg hk1, if_pos hk2, if_pos]
            rcases hx with rfl | ⟨hx1, hx2⟩ | rfl
            · exact .inl his
            · exact .inr (.inl ⟨by simpa using hx1, by simpa using hx2⟩)
            · exact .inr (.inr hval)
          · have e : hearF C bs vs o = (true, bs, vs ++ [K.vote]) := by
              unfold hearF
              rw [hf]
              dsimp only
              rw [if_neg hk1, if_pos hk2, if_neg]
              rintro (hh | ⟨hh1, hh2⟩ | hh)
              · exact absurd (his.symm.trans hh) (by decide)
              · rcases hkk with hkk | hkk
                · exact hh1 (by simpa using hkk)
                · exact hh2 (by simpa using hkk)
              · rw [hval] at hh; cases hh
            unfold HearPost
            rw [e]
            have bb : Below w.heap.size w W := bl_trans b1 b0
            have oo : Off (fun k => k = m) W w' := by
              have := oB 0 (Nat.zero_le _)
              exact ⟨this.os, this.tape, this.output, this.size, fun k _ hk => oK k hk⟩
            have bM : m < w.heap.size := smap_lt keyVote h5
            have hnone : lookS (bareV K.vote) (metV vs) = none := by
              rw [hlook]
              cases hfi : vs.find? fun v => decide (bareV K.vote = bareV v) with
              | none => rfl
              | some v => rw [any_found hfi] at his; cases his
            rw [lookS_none hnone] at sm
            obtain ⟨mes, mcl, hmes, _⟩ := h5
            have kk : Keeps 0 [9, 52, 77] W w' := keeps_off oo fun k cc t f a hc => by
              subst a
              rw [bb.block k bM, hmes] at hc
              cases hc
            have nM : ∀ k cc t f, w.heap[k]? = some (Obj.cells cc t f) → w'.heap[k]? = some (Obj.cells cc t f) := fun k cc t f hk => by
              rw [oK k (fun e => by subst e; rw [hmes] at hk; cases hk), bb.block k (blk_lt hk)]
              exact hk
            refine ⟨rfl, ⟨T, A1, c1, A2, c2, es, nM _ _ _ _ h1, nM _ _ _ _ h2, h3, ?_, ?_, ?_, ?_, ?_, h9⟩, ?_⟩
            · exact smap_same keyStr h4 ((oK M h3).trans (bb.block M (smap_lt keyStr h4)))
            · rw [show metV (vs ++ [K.vote]) = metV vs ++ [(bareV K.vote, .agg (vcs K.vote))] by simp [metV]]
              exact sm
            · exact Kd.own_keep (Kd.own_below h6 bb) (kk.mono (by simp [Kd.str]))
            · exact Kd.own_keep (Kd.own_below h7 bb) (kk.mono (by simp [Kd.str]))
            · intro e' he
              have q := h8 e' he
              exact entok_keep ⟨Kd.own_below q.1 bb, Kd.own_below q.2.1 bb, q.2.2⟩ (kk.mono (by simp))
            · exact off_trans (off_below bb) (off_mono oo fun k hk => .inr hk)
        cases hfi : vs.find? fun v => decide (bareV K.vote = bareV v) with
        | none =>
          rw [hfi] at hlook
          refine (hear_vote o A n c B N m K (metV vs) votZ false val A1 C.roots.length c1 0 C.roots w hn hr g8 hf hk2 (by omega) g1 h5 (fun W hW => ?_) rfl hC1 r1 hval).mono (fin false (any_find hfi))
          have hz52 : (zeroValue 52).run Tryz.prog W = .ok (.agg (vcs votZ)) W := by kernel_rfl
          have := lookup_ok keyVote (smap_below keyVote h5 hW) Tryz.underlying106 hz52 (bareV K.vote)
          rw [hlook] at this
          exact this
        | some v =>
          rw [hfi] at hlook
          refine (hear_vote o A n c B N m K (metV vs) v true val A1 C.roots.length c1 0 C.roots w hn hr g8 hf hk2 (by omega) g1 h5 (fun W hW => ?_) rfl hC1 r1 hval).mono (fin true (any_found hfi))
          have hz52 : (zeroValue 52).run Tryz.prog W = .ok (.agg (vcs votZ)) W := by kernel_rfl
          have := lookup_ok keyVote (smap_below keyVote h5 hW) Tryz.underlying106 hz52 (bareV K.vote)
          rw [hlook] at this
          exact this
      · exact (hear_other o A n c B N m K w hn hr g8 hf hk1 hk2).mono fun x w' hx => same (by unfold hearF; rw [hf]; dsimp only; rw [if_neg hk1, if_neg hk2]) hx
end Go.Proofs.YtcbfpdenjdgnlaaGreat
