/- Package learner: Statements. No claim of its own; no condition. -/
import Derived.Test.YtcbfpdenjdgnlaaGreatQt45
import Derived.Test.YtcbfpdenjdgnlaaGreatQt46
import Derived.Test.YtcbfpdenjdgnlaaGreatQt47
import Derived.Test.YtcbfpdenjdgnlaaGreatQt49
import Derived.Maps.RangeWalk
import Derived.Test.YtcbfpdenjdgnlaaGreatQt48
import Derived.Test.YtcbfpdenjdgnlaaGreatQt29
namespace Go.Proofs.YtcbfpdenjdgnlaaGreat
open Go.ChangeShapes Go.WideShapes Go.ChangeAt Go.RowKit
set_option linter.unusedVariables false
set_option linter.unusedSimpArgs false
theorem voteOk_k {v : Vote} (h : voteOk v = true) (B : Nat) (w : World) : kVote.K B w v [.int .i64 v.kind, .int .i64 v.view, .int .i64 v.height, .string v.block, .int .i64 v.ticks, .int .i64 v.signer, .string v.sig] := by
  obtain ⟨h1, h2, h3, h4, h5, h6, h7⟩ := voteOk_bd h
  exact kVote_mk v ⟨by omega, by omega⟩ ⟨by omega, by omega⟩ ⟨by omega, by omega⟩ (by omega) ⟨by omega, by omega⟩ ⟨by omega, by omega⟩ (by omega)
def rngLeft (w : World) (b r : Nat) : Nat := match w.heap[b]?, w.heap[r]? with
  | some (.map es _), some (.mapIter _ _ seen _) => (leftOf es seen).size
  | _, _ => 0
theorem rng_left {κ α : Type} [DecidableEq κ] {kt : TypeId} {D : KeyD κ kt} {f : α → κ} {g : α → Value} {w : World} {b r : Nat} {all l : List α} (h : Rng D f g w b r all l) : rngLeft w b r = l.length := by
  obtain ⟨es, c, s, c0, h1, h2, h3, h4, h5, h6⟩ := h
  unfold rngLeft
  rw [h1, h4]
  have := congrArg List.length h6
  simpa [kvs] using this
theorem alloc_block {w : World} {o : Obj} {k : Nat} (h : k < w.heap.size) : (w.alloc o).heap[k]? = w.heap[k]? := Below.heap_alloc w o k h
/-- What is true of all that was taken. -/
def StOk (C : LCfg) (bs : List Block) (vs : List Vote) : Prop :=
  (∀ v ∈ vs, voteOk v = true ∧ validV v C.roots = true ∧ (v.kind = 2 ∨ v.kind = 3)) ∧ (vs.Pairwise fun a b => bareV a ≠ bareV b) ∧ (∀ b ∈ bs, validB b C.roots C.clients C.q = true) ∧ bs.Pairwise fun a b => bname a ≠ bname b
theorem stok_nil (C : LCfg) : StOk C [] [] := ⟨by simp, .nil, by simp, .nil⟩
theorem pair_snoc {α β : Type} [DecidableEq β] {f : α → β} {l : List α} {a : α} (h : l.Pairwise fun x y => f x ≠ f y) (k : (l.any fun x => decide (f a = f x)) = false) : (l ++ [a]).Pairwise fun x y => f x ≠ f y := by
  rw [List.pairwise_append]
  refine ⟨h, List.pairwise_singleton _ _, fun x hx y hy => ?_⟩
  rw [List.mem_singleton] at hy
  subst hy
  intro e
  have := List.any_eq_false.1 k x hx
  simp [e] at this
theorem stok_hear {C : LCfg} {bs : List Block} {vs : List Vote} (h : StOk C bs vs) (o : List UInt8) : StOk C (hearF C bs vs o).2.1 (hearF C bs vs o).2.2 := by
  obtain ⟨h1, h2, h3, h4⟩ := id h
  unfold hearF
  cases hf : readF o with
  | none => exact h
  | some K =>
    dsimp only
    split
    · split
      · exact h
      · rename_i hk hn
        simp only [not_or, Bool.not_eq_true, Bool.not_eq_false] at hn
        refine ⟨h1, h2, fun b hb => ?_, pair_snoc h4 hn.1⟩
        rcases List.mem_append.1 hb with hb | hb
        · exact h3 b hb
        · rw [List.mem_singleton] at hb; subst hb; exact hn.2
    · split
      · split
        · exact h
        · rename_i hk hk2 hn
          simp only [not_or, Bool.not_eq_true, Bool.not_eq_false] at hn
          have hkk : K.vote.kind = 2 ∨ K.vote.kind = 3 := by
            by_cases e2 : K.vote.kind = 2
            · exact .inl e2
            · by_cases e3 : K.vote.kind = 3
              · exact .inr e3
              · exact absurd ⟨e2, e3⟩ hn.2.1
          refine ⟨fun v hv => ?_, pair_snoc h2 hn.1, h3, h4⟩
          rcases List.mem_append.1 hv with hv | hv
          · exact h1 v hv
          · rw [List.mem_singleton] at hv; subst hv; exact ⟨readF_vote hf hk2, hn.2.2, hkk⟩
      · exact h
set_option maxHeartbeats 1600000 in
set_option maxRecDepth 100000 in
theorem stmts_calls (N M m : Nat) (C : LCfg) (bs : List Block) (vs : List Vote) (w : World) (hv : vs.length ≤ 1048576) (hs : StOk C bs vs) (h : LrnAt w N M m C bs vs) :
    Calls Tryz.prog 26 #[.pointer (some ⟨N, 0, none⟩)] w fun x w' => (∃ A c, x = .returned (.slice A (stmts vs).length c) ∧ kVote.Own 52 w.heap.size w' w.heap.size (.slice A (stmts vs).length c) (stmts vs)) ∧ Below w.heap.size w w' := by
  obtain ⟨T, A1, c1, A2, c2, es, h1, h2, h3, h4, h5, h6, h7, h8, h9⟩ := h
  have g8 := block_cell h1 (i := 8) (v := .map (some m)) rfl
  have HSM := Lib.hid (show SMap keyVote w m (vs.map fun a => (bareV a, (fun v => Value.agg (vcs v)) a)) from h5)
  have HI := Lib.hid (lis_at w N (some m) g8)
  obtain ⟨i0, hi, hz0', hz1', hz2'⟩ := info_parts info_kVote
  have HVL := Lib.hid hv
  have HST := Lib.hid hs
  have lt := smap_lt keyVote h5
  clear h1 h2 h3 h4 h5 h6 h7 h8 h9 hs hv
  go_enter Tryz.func26, Tryz.ntmps26
  go_wp2_with first
    | (go_at_call 58; refine Calls.mono (HI.out) ?_; rintro x w1 ⟨rfl, hw1⟩; obtain rfl := hw1.symm)
    | (at_range; refine wpList_rng_start HSM.out _ rfl rfl Tryz.underlying106 rfl ?_; intro w0 hrg0 hb0 hz0)
  go_frame
  go_loopw [3] (fun ov wr => ∃ l rest : List Vote, (l ++ rest).Perm vs ∧ Rng keyVote bareV (fun v => .agg (vcs v)) wr m w.heap.size vs rest ∧ kVote.Own 52 w.heap.size wr (w.heap.size + 1) ov l ∧ Below w.heap.size w wr ∧ w.heap.size + 1 ≤ wr.heap.size) (fun _ wr => rngLeft wr m w.heap.size)
  case atStart => exact ⟨[], vs, List.Perm.refl _, hrg0, Kd.own_nil _ _ _ _ _, hb0, by omega⟩
  case round =>
    obtain ⟨l, rest, hp, hrg, own, bel, hz⟩ := hrel
    have HP := Lib.hid hp
    have hll : l.length ≤ 1048576 := by have := hp.length_eq; have := HVL.out; rw [List.length_append] at *; omega
    clear hp
    go_wp2_with first
      | (at_next; refine wpList_rng_next hrg _ rfl rfl rfl ?_ ?_)
    · intro h0
      subst h0
      obtain ⟨A, c, rfl, _⟩ := Kd.own_row own
      have hcs := sortVote l _ wr w.heap.size (w.heap.size + 1) (by omega) own
      have HC := Lib.hid hcs
      have HO := Lib.hid own
      clear hcs own hrg hll hz lt
      go_wp2_with (go_at_call 66; refine (HC.out).mono ?_; rintro e w1 ⟨rfl, ⟨l', hpm, hso, own1⟩, g1⟩; have HPM := Lib.hid hpm; have HSO := Lib.hid hso; have O1 := Lib.hid own1; have G1 := Lib.hid g1; clear hpm hso own1 g1)
      go_ret
      have hp : l.Perm vs := by have := HP.out; rwa [List.append_nil] at this
      have e := stmts_one (HPM.out.trans hp) HSO.out HST.out.2.1
      have hb := bl_grown bel G1.out fun k hk => by have := (Kd.own_block HO.out k hk).1; omega
      have o1 := O1.out
      have hlen := HPM.out.length_eq
      rw [e] at o1 hlen
      rw [← hlen] at o1 ⊢
      exact ⟨⟨A, c, rfl, Kd.own_flat flat_kVote o1 (Nat.le_succ _)⟩, hb⟩
    · intro a l' w1 hp1 hrg1 hb1 hz1 ho1 hen
      have hen' : (Instr.entry (.pointer (some ⟨w.heap.size, 0, none⟩))).run Tryz.prog w1 = .ok (.tuple #[.agg (vcs (bareV a)), .agg #[.int .i64 a.kind, .int .i64 a.view, .int .i64 a.height, .string a.block, .int .i64 a.ticks, .int .i64 a.signer, .string a.sig]]) w1 := hen
      clear hen
      have hmem : a ∈ vs := HP.out.mem_iff.1 (List.mem_append.2 (.inr (hp1.mem_iff.2 (by simp))))
      have hk := voteOk_k (HST.out.1 a hmem).1
      have kw : Keeps w.heap.size (52 :: kVote.E) wr w1 := ⟨by omega, fun b hb => ho1 b fun e => by
        subst e
        obtain ⟨_, _, _, _, _, _, _, hit, _, _⟩ := hrg
        rcases hb.2 with h | ⟨c, t, f, h, _⟩
        · omega
        · rw [hit] at h; cases h⟩
      have own1 := Kd.own_keep own kw
      have bel1 : Below w.heap.size w w1 := bel.trans hb1
      have bel2 := bl_alloc bel1 (.cells #[.int .i64 a.kind, .int .i64 a.view, .int .i64 a.height, .string a.block, .int .i64 a.ticks, .int .i64 a.signer, .string a.sig] 52)
      have own2 := Kd.own_below own1 (bl_alloc (Below.refl w1.heap.size w1) (.cells #[.int .i64 a.kind, .int .i64 a.view, .int .i64 a.height, .string a.block, .int .i64 a.ticks, .int .i64 a.signer, .string a.sig] 52))
      have bel3 := bl_alloc bel2 (.cells #[.int .i64 a.kind, .int .i64 a.view, .int .i64 a.height, .string a.block, .int .i64 a.ticks, .int .i64 a.signer, .string a.sig] 52)
      have own3 := Kd.own_below own2 (bl_alloc (Below.refl (w1.alloc (.cells #[.int .i64 a.kind, .int .i64 a.view, .int .i64 a.height, .string a.block, .int .i64 a.ticks, .int .i64 a.signer, .string a.sig] 52)).heap.size (w1.alloc (.cells #[.int .i64 a.kind, .int .i64 a.view, .int .i64 a.height, .string a.block, .int .i64 a.ticks, .int .i64 a.signer, .string a.sig] 52))) (.cells #[.int .i64 a.kind, .int .i64 a.view, .int .i64 a.height, .string a.block, .int .i64 a.ticks, .int .i64 a.signer, .string a.sig] 52))
      have rg3 := rng_same (rng_same hrg1 (alloc_block (o := .cells #[.int .i64 a.kind, .int .i64 a.view, .int .i64 a.height, .string a.block, .int .i64 a.ticks, .int .i64 a.signer, .string a.sig] 52) (rng_lt hrg1).1) (alloc_block (rng_lt hrg1).2)) (alloc_block (o := .cells #[.int .i64 a.kind, .int .i64 a.view, .int .i64 a.height, .string a.block, .int .i64 a.ticks, .int .i64 a.signer, .string a.sig] 52) (by rw [World.size_alloc]; have := (rng_lt hrg1).1; omega)) (alloc_block (by rw [World.size_alloc]; have := (rng_lt hrg1).2; omega))
      have HP1 := Lib.hid hp1
      have hz2 : w.heap.size + 1 ≤ ((w1.alloc (.cells #[.int .i64 a.kind, .int .i64 a.view, .int .i64 a.height, .string a.block, .int .i64 a.ticks, .int .i64 a.signer, .string a.sig] 52)).alloc (.cells #[.int .i64 a.kind, .int .i64 a.view, .int .i64 a.height, .string a.block, .int .i64 a.ticks, .int .i64 a.signer, .string a.sig] 52)).heap.size := by simp only [World.size_alloc]; omega
      have rowa : kVote.Row 52 w.heap.size ((w1.alloc (.cells #[.int .i64 a.kind, .int .i64 a.view, .int .i64 a.height, .string a.block, .int .i64 a.ticks, .int .i64 a.signer, .string a.sig] 52)).alloc (.cells #[.int .i64 a.kind, .int .i64 a.view, .int .i64 a.height, .string a.block, .int .i64 a.ticks, .int .i64 a.signer, .string a.sig] 52)) (some ⟨w1.heap.size + 1, 0, none⟩) [a] := by
        have h := Kd.row_fresh1 (w := w1.alloc (.cells #[.int .i64 a.kind, .int .i64 a.view, .int .i64 a.height, .string a.block, .int .i64 a.ticks, .int .i64 a.signer, .string a.sig] 52)) (e := 52) (hk w.heap.size _)
        rwa [World.size_alloc] at h
      clear hp1 hmem kw hb1 own own1 own2 bel2 hz1 ho1 hrg1
      go_wp2_with (at_builtin; refine wpList_append_row _ rfl (.tmp 18) (.tmp 20) 28 rfl kVote w.heap.size (w.heap.size + 1) 52 i0 _ 72 Tryz.underlying28 hi hz0' hz1' hz2' rfl (by decide) _ _ rfl own3 _ _ _ [a] rfl rfl rowa (by simp only [List.length_singleton]; omega) (by decide) hz2 (Nat.le_succ _) (by decide) ?_; intro v' w' own' grw at')
      go_roundw
      case rel =>
        have hne := fun k hk => (Kd.own_block own3 k hk).1
        refine ⟨l ++ [a], l', ?_, rng_same rg3 (grw.block _ (rng_lt rg3).1 fun e => by have := hne m e.symm; omega) (grw.block _ (rng_lt rg3).2 fun e => by have := hne _ e.symm; omega), own', bl_grown bel3 grw fun k hk => by have := hne k hk; omega, Nat.le_trans hz2 grw.size⟩
        rw [List.append_assoc]
        exact ((List.perm_append_left_iff _).2 HP1.out.symm).trans HP.out
      case measure =>
        rw [rng_left (rng_same rg3 (grw.block _ (rng_lt rg3).1 fun e => by have := (Kd.own_block own3 m e.symm).1; omega) (grw.block _ (rng_lt rg3).2 fun e => by have := (Kd.own_block own3 _ e.symm).1; omega)), rng_left hrg]
        have := HP1.out.length_eq
        rw [List.length_cons] at this
        omega
end Go.Proofs.YtcbfpdenjdgnlaaGreat
/- slices.SortFunc at this program's structs, for rows of the call's own. No claim of its own; no condition. -/
namespace Go.Proofs.YtcbfpdenjdgnlaaGreat
open Go.ChangeShapes Go.WideShapes Go.ChangeAt Go.RowKit Go.Sort Go.Shelf
set_option linter.unusedVariables false
set_option linter.unusedSimpArgs false
instance : Inhabited Mark := ⟨0, 0, ⟨#[]⟩⟩
theorem sortIns0Mark (p : Option Addr) (cap : Nat) (fv : Value) (w : World) : Calls Tryz.prog 252 #[.slice p 0 cap, .int .i64 0, .int .i64 0, fv] w fun e w' => e = .returned (.tuple #[]) ∧ w' = w := by
  go_enter Tryz.func252, Tryz.ntmps252
  go_wp2
  refine wp_loop_rounds 1 ?_
  rw [rounds_succ]
  go_wp2
  go_end0
  exact ⟨rfl, rfl⟩
theorem sortPdq0Mark (p : Option Addr) (cap : Nat) (lim : Int) (fv : Value) (w : World) : Calls Tryz.prog 209 #[.slice p 0 cap, .int .i64 0, .int .i64 0, .int .i64 lim, fv] w fun e w' => e = .returned (.tuple #[]) ∧ w' = w := by
  go_enter Tryz.func209, Tryz.ntmps209
  go_wp2
  refine wp_loop_rounds 1 ?_
  rw [rounds_succ]
  go_wp2_with (go_at_call 252; refine (sortIns0Mark p cap fv _).mono ?_; rintro e w' ⟨rfl, rfl⟩)
  (try simp only [Exit.inBlock, Exit.then]); refine bodyPost_ret (results_none rfl _ _ _) rfl ?_
  exact ⟨rfl, rfl⟩
theorem sort0Mark (p : Option Addr) (cap : Nat) (fv : Value) (w : World) : Calls Tryz.prog 137 #[.slice p 0 cap, fv] w fun e w' => e = .returned (.tuple #[]) ∧ w' = w := by
  have hl : ∀ W, Calls Tryz.prog 133 #[.int .u64 0] W fun e w' => e = .returned (.int .i64 (Lib.bitLen 0 : Nat)) ∧ w' = W := fun W => Any.bits_Len (SlLaysF0.n15.bits (P := Tryz.prog) (ρ := Tryz.sortMark_ren) { Tryz.sortMark with }) 0 W (by omega) (by omega)
  go_enter Tryz.func137, Tryz.ntmps137
  go_wp2_with (first | (go_at_call 133; refine (hl _).mono ?_; rintro e w' ⟨rfl, rfl⟩) | (go_at_call 209; refine (sortPdq0Mark p cap _ fv _).mono ?_; rintro e w' ⟨rfl, rfl⟩))
  go_end0
  exact ⟨rfl, rfl⟩
theorem enc_lenMark (x : Mark) : (encMark x).length = 3 := rfl
theorem enc_oneMark (x : Mark) : ∀ v ∈ encMark x, v.oneCell' = true := by
  intro v hv
  simp only [encMark, List.mem_cons, List.not_mem_nil, or_false] at hv
  rcases hv with rfl | rfl | rfl <;> rfl
theorem sortMark (l : List Mark) (v : Value) (w : World) (B base : Nat) (hl : l.length ≤ 2097152) (own : kMark.Own 34 B w base v l) :
    Calls Tryz.prog 137 #[v, .func (.func 138) #[] #[]] w fun e w' => e = .returned (.tuple #[]) ∧ (∃ l' : List Mark, l'.Perm l ∧ l'.Pairwise (fun a b => ltOf ordF b a = false) ∧ kMark.Own 34 B w' base v l') ∧ w.grownBy w' v.ownBlock := by
  by_cases hne : l = []
  · subst hne
    obtain ⟨A, c, rfl, _, _, _, _⟩ := Kd.own_row own
    exact (sort0Mark A c _ w).mono fun e w' ⟨he, hw⟩ => ⟨he, ⟨[], List.Perm.refl _, List.Pairwise.nil, by rw [hw]; exact own⟩, by rw [hw]; exact World.grownBy.refl w _⟩
  · obtain ⟨G, c, cs, Z, rfl, hG, hblk, hrp, hlc, hcm, hsz⟩ := Kd.own_form own hne
    have hcs := reps_encMark hrp
    have hallK := reps_allMark hrp
    subst hcs
    have eg : ∀ args w, (callFunc 138 args).run Tryz.prog w = .ok (.enter 138 args) w := enters_of Tryz.func138 (by kernel_rfl) rfl
    have hcmp : CmpLays Tryz.prog 138 #[] encMark 3 ordF G 0 l.toArray.size w := fun _ _ _ _ x y => order_calls x y _
    have hcon := AnyQ.slices_SortFunc Tryz.sortMark 3 Tryz.isAgg34 Tryz.sizeOf34 encMark enc_lenMark enc_oneMark ordF ord_swo 138 #[] G 0 c l.toArray w eg hcmp (holds_of_block enc_lenMark (by decide) hblk) (blk_lt hblk) (by rw [List.size_toArray]; omega)
    change Calls Tryz.prog 137 _ _ _ at hcon
    rw [List.size_toArray] at hcon
    refine hcon.mono ?_
    rintro e w' ⟨he, d', n, os, hp, hs, rfl⟩
    have hd : d'.size = l.length := by rw [hp.1, List.size_toArray]
    have hpm : d'.toList.Perm l := perm_of_permIn (by rw [List.size_toArray]; exact hp)
    refine ⟨he, ⟨d'.toList, hpm, pairs_of_sorted (by rw [hd]; exact hs), ?_⟩, grown_of_sort⟩
    have hb := block_of_sort (enc := encMark) (n := n) (os := os) enc_lenMark (by decide) hblk hd
    refine Kd.own_of_form hb (reps_mkMark fun x hx => flat_kMark _ _ _ _ _ _ (hallK x (hpm.mem_iff.1 hx))) hG (by rw [show d'.toList.length = l.length by simp [hd]]) hlc hcm ?_
    rw [← hsz, List.length_append, List.length_append, encs_lenMark, encs_lenMark, Array.length_toList, hd]
end Go.Proofs.YtcbfpdenjdgnlaaGreat
/- Package rule: Marks. No claim of its own; no condition. -/
namespace Go.Proofs.YtcbfpdenjdgnlaaGreat
open Go.ChangeShapes Go.WideShapes Go.ChangeAt Go.RowKit Go.Sort
set_option linter.unusedVariables false
set_option linter.unusedSimpArgs false
def Vote.about (v : Vote) : Mark := ⟨v.view, v.height, v.block⟩
theorem about_calls (v : Vote) (w : World) :
    Calls Tryz.prog 102 #[.agg #[.int .i64 v.kind, .int .i64 v.view, .int .i64 v.height, .string v.block, .int .i64 v.ticks, .int .i64 v.signer, .string v.sig]] w
      fun e w' => e = .returned (.agg #[.int .i64 v.view, .int .i64 v.height, .string v.block]) ∧ Below w.heap.size w w' := by
  go_enter Tryz.func102, Tryz.ntmps102
  go_wp2
  refine bodyPost_ret (v := .agg #[.int .i64 v.view, .int .i64 v.height, .string v.block]) (by simp [results, Tryz.results39, go_sem]) rfl ⟨rfl, ?_⟩
  repeat (first | exact Below.refl _ _ | apply bl_alloc | apply bl_drew | (refine bl_set ?_ (by simp) _))
/-- A statement of commit or held. -/
def saysB (v : Vote) : Bool := (v.kind == 2) || (v.kind == 3)
def marksIn (l : List Vote) : List Mark := (l.filter saysB).map Vote.about
theorem marks_step {l : List Vote} {k : Nat} {x : Vote} (h : l[k]? = some x) : marksIn (l.take (k + 1)) = marksIn (l.take k) ++ (if saysB x then [x.about] else []) := by
  unfold marksIn
  rw [List.take_add_one, h, List.filter_append, List.map_append]
  cases hp : saysB x <;> simp [hp]
theorem marks_le (l : List Vote) (k : Nat) : (marksIn (l.take k)).length ≤ k := by
  unfold marksIn
  rw [List.length_map]
  exact Nat.le_trans (List.length_filter_le _ _) (by rw [List.length_take]; omega)
set_option maxHeartbeats 3200000 in
set_option maxRecDepth 100000 in
theorem marks_calls (l : List Vote) (A : Option Addr) (n c : Nat) (w : World) (B : Nat) (hn : n = l.length) (hl : l.length ≤ 1048576) (hr : kVote.Row 52 B w A l) :
    Calls Tryz.prog 72 #[.slice A n c] w fun e w' => (∃ v M, e = .returned v ∧ kMark.Own 34 w.heap.size w' w.heap.size v (compF M) ∧ M.Perm (marksIn l) ∧ M.Pairwise fun a b => belowF b a = false) ∧ Below w.heap.size w w' := by
  subst hn
  obtain ⟨i0, hi, hz0, hz1, hz2⟩ := info_parts info_kMark
  go_enter Tryz.func72, Tryz.ntmps72
  go_wp2_with fail
  go_loopw [3, 8] (fun vv kv w' => ∃ k : Nat, k ≤ l.length ∧ kv = .int .i64 k ∧ kMark.Own 34 w.heap.size w' w.heap.size vv (marksIn (l.take k)) ∧ Below w.heap.size w w') (fun _ kv _ => l.length - (intOf kv).toNat)
  case atStart => exact ⟨0, by omega, rfl, Kd.own_nil _ _ _ _ _, Below.refl _ _⟩
  case round =>
    obtain ⟨k, h1, rfl, own, bel⟩ := hrel
    by_cases h : k < l.length
    · obtain ⟨x, hx⟩ : ∃ x, l[k]? = some x := ⟨_, List.getElem?_eq_getElem h⟩
      obtain ⟨ad, rfl, e0, e1, e2, e3, e4, e5, e6, g0, g1, g2, g3, g4, g5, g6⟩ := kVote_at (Kd.row_below bel hr) hx
      have hs := marks_step hx
      have hle := marks_le l k
      have hkI : (k : Int) < (l.length : Int) := by omega
      have bel2 := bl_alloc bel (.cells #[.int .i64 x.kind, .int .i64 x.view, .int .i64 x.height, .string x.block, .int .i64 x.ticks, .int .i64 x.signer, .string x.sig] 52)
      have own2 := Kd.own_below own (bl_alloc (Below.refl wr.heap.size wr) (.cells #[.int .i64 x.kind, .int .i64 x.view, .int .i64 x.height, .string x.block, .int .i64 x.ticks, .int .i64 x.signer, .string x.sig] 52))
      clear hx
      by_cases hk : saysB x = true
      · rw [if_pos hk] at hs
        have hd : (x.kind == 2) = true ∨ ((x.kind == 2) = false ∧ (x.kind == 3) = true) := by
          unfold saysB at hk
          cases h2 : x.kind == 2
          · rw [h2] at hk; exact .inr ⟨rfl, by simpa using hk⟩
          · exact .inl rfl
        have HS := Lib.hid hs
        clear hs hk
        rcases hd with d1 | ⟨d1, d2⟩
        all_goals
          go_wp2_with (first
            | (go_at_call 102; refine (about_calls x _).mono ?_; rintro e w1 ⟨rfl, b1⟩; have own3 := Kd.own_below own2 b1; have bel3 := bl_trans bel2 b1; have bel4 := bl_alloc bel3 (.cells #[.int .i64 x.view, .int .i64 x.height, .string x.block] 34); have own4 := Kd.own_below own3 (bl_alloc (Below.refl w1.heap.size w1) (.cells #[.int .i64 x.view, .int .i64 x.height, .string x.block] 34)))
            | (at_builtin; refine wpList_append_row _ rfl (.tmp 20) (.tmp 23) 65 rfl kMark w.heap.size w.heap.size 34 i0 _ 32 Tryz.underlying65 hi hz0 hz1 hz2 rfl (by decide) _ _ rfl own4 _ _ _ [x.about] rfl rfl (Kd.row_fresh1 (kMark_mk x.about g1 g2 g3)) (by simp only [List.length_singleton]; omega) (by decide) bel4.size (Nat.le_refl _) (by decide) ?_; intro v' w' own' grw at'))
          go_roundw
          case rel => exact ⟨k + 1, by omega, by go_num, by rw [HS.out]; exact own', Kd.own_step bel4 own4 grw⟩
          case measure => simp [intOf]; omega
      · have d1 : (x.kind == 2) = false := by
          cases h2 : x.kind == 2
          · rfl
          · exact absurd (by unfold saysB; rw [h2]; rfl) hk
        have d2 : (x.kind == 3) = false := by
          cases h2 : x.kind == 3
          · rfl
          · exact absurd (by unfold saysB; rw [h2]; simp) hk
        rw [if_neg hk, List.append_nil] at hs
        have HS := Lib.hid hs
        clear hs hk
        go_wp2_with fail
        go_roundw
        case rel => exact ⟨k + 1, by omega, by go_num, by rw [HS.out]; exact own2, bel2⟩
        case measure => simp [intOf]; omega
    · have hk : k = l.length := by omega
      subst hk
      rw [List.take_of_length_le (Nat.le_refl _)] at own
      have hle := marks_le l l.length
      rw [List.take_of_length_le (Nat.le_refl _)] at hle
      have hcs := sortMark (marksIn l) _ wr w.heap.size w.heap.size (by omega) own
      have HC := Lib.hid hcs
      have HO := Lib.hid own
      have hkI : ¬ ((l.length : Int) < (l.length : Int)) := by omega
      clear hcs own
      go_wp2_with (first
        | (go_at_call 137; refine (HC.out).mono ?_; rintro e w1 ⟨rfl, ⟨M, hpm, hso, own1⟩, g1⟩; have b1 := Kd.own_step bel HO.out g1; have hlM := hpm.length_eq; have hcm := compact_kMark M _ w1 w.heap.size w.heap.size (by omega) own1; have HM := Lib.hid hcm; have HP := Lib.hid hpm; have HSO := Lib.hid hso; have HO1 := Lib.hid own1; clear hcm hpm hso own1)
        | (go_at_call 139; refine (HM.out).mono ?_; rintro e w2 ⟨⟨v2, rfl, own2⟩, g2⟩; have b2 := Kd.own_step b1 HO1.out g2))
      go_ret
      exact ⟨⟨v2, M, rfl, own2, HP.out, HSO.out.imp fun h => by rw [ord_below] at h; exact h⟩, b2⟩
end Go.Proofs.YtcbfpdenjdgnlaaGreat
