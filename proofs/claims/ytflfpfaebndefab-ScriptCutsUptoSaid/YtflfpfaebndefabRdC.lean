/- Package script: Read. No claim of its own; no condition. -/
import Derived.Test.YtflfpfaebndefabRdB
import Derived.RangeFuncWrites
namespace Go.Proofs.Ytflfpfaebndefab
attribute [local go_sem] Oper.semAt_some
open Go.ChangeShapes Go.WideShapes Go.ChangeAt Go.RowKit Go.Shelf
set_option linter.unusedVariables false
set_option linter.unusedSimpArgs false
theorem wpListIn_append_row {F : Fence} {n : Nat} {P : Program} (w : World) {ops : Array Oper} {rest : List Oper} {o : Oper} {a : Act} {Q : Exit → Act → World → Prop} (hgd : o.guard = none) (s x : Operand) (t : TypeId)
    (ho : o.op = .call { callee := .builtin .append, args := #[s, x], argTypes := #[t, t] })
    {α : Type} (d : Kd α) (B base : Nat) (e : TypeId) (i : TypeInfo) (z : Value) (bytes : Nat) (ht : P.underlying t = some (.slice e)) (hi : P.info? e = some i) (hz : i.zero = some z)
    (hsize : i.size = d.sz) (hby : i.bytes = bytes) (hzs : z.cells.size = d.sz) (hsz : 0 < d.sz)
    (v : Value) (xs : List α) (hs : a.eval s = v) (hown : d.Own e B w base v xs) (A : Option Addr) (c n' : Nat) (ys : List α) (hx : a.eval x = .slice A n' c) (hn : n' = ys.length) (hr : d.Row e B w A ys)
    (hlen : xs.length + ys.length ≤ 4194304) (hb : bytes ≤ 1024) (hbase : base ≤ w.heap.size) (hB : B ≤ base) (he : e ∉ d.E)
    (h : ∀ v' w', d.Own e B w' base v' (xs ++ ys) → w.grownBy w' v.ownBlock → (v'.ownBlock = v.ownBlock ∨ v'.ownBlock = some w.heap.size) → wpListIn F n P ops Q rest (a.put o.dst v') w') : wpListIn F n P ops Q (o :: rest) a w := by
  subst hn
  refine wpListIn_plain hgd fun K hK' => ?_
  obtain ⟨v', w', hrun, h2, h3, h4⟩ := run_append_row (P := P) w d B base t o.type e i z bytes ht hi hz hsize hby hzs hsz v xs hown A c ys hr hlen hb hbase hB he
  unfold Oper.wpIn
  refine ⟨?_, ?_⟩
  · simp [Oper.about, ho, resolve, Target.leads, Sem.run_pure]
  · rw [Oper.semAt_plain F _ _ (by rw [ho]; intro c hc'; cases hc')]
    unfold execOp
    simp only [ho, resolve, invoke, builtin, Sem.run_bind, Sem.run_pure, Result.andThen_ok, List.map_toArray, List.map_cons, List.map_nil, hs, hx, hrun]
    exact hK' _ _ (h v' w' h2 h3 h4)
theorem stepsf_in (F : Fence) (m : Nat) (h51 : F.fn 51) (hro : F.round = none) (A : Option Addr) (n c : Nat) (w : World) :
    CallsIn F m Try.prog 51 #[.slice A n c] w fun e w' => e = .returned (.func (.func 64) #[] #[.pointer (some ⟨w.heap.size, 0, none⟩)]) ∧ w' = w.alloc (.cells #[.slice A n c] 58) := by
  refine callsIn_of_wp Try.func51 rfl h51 ?_ hro
  simp only [Try.ntmps51, List.size_toArray, List.length_cons, List.length_nil, Nat.reduceAdd, Nat.reduceSub, Array.replicate_succ, Array.replicate_zero, List.push_toArray, List.append_toArray, List.nil_append, List.cons_append]
  gi_wp2
  go_ret
  exact ⟨rfl, rfl⟩
section
variable {F : Fence} {n : Nat} {P : Program}
theorem range_enter {g : Operand} {ps : Array Tmp} {assign body : Code} {Q : Exit → Act → World → Prop} {a : Act} {w : World} (hro : F.round = none) (h1 : 1 ≤ n) {gf : Nat} {lb : Array Value} (hg : a.eval g = .func (.func gf) #[] lb) (hFg : F.fn gf)
    (eg : ∀ args w, (callFunc gf args).run P w = .ok (.enter gf args) w)
    (h : ∀ (fn : FuncId) (rec : LoopState → Option Code → Loop), F.fn fn → rec = (fun st pe => { state := st, pending := pe, fn, tmps := a.tmps, params := ps, assign, body, defers := w.heap.size }) →
      CallsIn F (n - 1) P gf (#[.func (.yield (w.heap.size + 1)) #[] #[]] ++ lb) ((w.alloc (.deferred (some []))).alloc (.loop (rec .ready none))) (rangePost F n P (w.heap.size + 1) Q { a with defers := [{ target := .collected w.heap.size, args := #[] }] ++ a.defers })) :
    (Code.rangeFunc g ps assign body).wpIn F n P Q a w := by
  refine wpIn_rangeFunc fun fn hfn => ?_
  rw [hro]
  obtain ⟨rec, hrec⟩ : ∃ rec : LoopState → Option Code → Loop, rec = fun st pe => { state := st, pending := pe, fn, tmps := a.tmps, params := ps, assign, body, defers := w.heap.size } := ⟨_, rfl⟩
  have hc := h fn rec hfn hrec
  obtain ⟨W1, hW1⟩ : ∃ W1, (w.alloc (.deferred (some []))).alloc (.loop (rec .ready none)) = W1 := ⟨_, rfl⟩
  rw [hW1] at hc
  refine ⟨w.heap.size + 1, [{ target := .collected w.heap.size, args := #[] }], W1, { target := .fn (.func gf) lb, args := #[.func (.yield (w.heap.size + 1)) #[] #[]] }, W1, gf, #[.func (.yield (w.heap.size + 1)) #[] #[]] ++ lb, W1, ?_, ?_, ?_, ?_, fun _ => h1, ?_⟩
  · rw [← hW1, hrec]; exact run_enterLoop_outer _ _ _ _ _
  · simp only [resolve, hg]
    simp [go_sem]
  · intro f' hf'
    simp [Target.leads] at hf'
    subst hf'
    exact hFg
  · simp [invoke, go_sem, eg]
  · exact hc
theorem yield_round {ps : Array Tmp} {assign body : Code} {tmps : Array Value} {l df : Nat} {fn : FuncId} {rec : LoopState → Option Code → Loop} (hfn : F.fn fn) (hrec : rec = (fun st pe => { state := st, pending := pe, fn, tmps, params := ps, assign, body, defers := df }))
    {args : Array Value} (hs : args.size = ps.size) {W : World} (hl : W.heap[l]? = some (.loop (rec .ready none))) {R : Ending → World → Prop}
    (a1 : Act) (W1 : World) (h2 : W1.heap[l]? = some (.loop (rec .ready none))) (h3 : body.wpIn (F.inRound l) n P (roundPost P l R) a1 (W1.putObj l (.loop (rec .busy none))))
    (h : ∀ K : Act → World → Prop, K a1 W1 → assign.wpIn (F.inRound l) n P (Exit.then K (fun _ _ _ => False)) { tmps := (ps.zip args).foldl (fun t (p, v) => t.setIfInBounds p v) tmps, defers := [] } W) :
    YieldAt F n P l args W R := by
  subst hrec
  refine ⟨fn, _, assign, body, run_yield hl hs, roundIn_of_wpIn hfn (wpIn_mono (h (fun a w => a = a1 ∧ w = W1) ⟨rfl, rfl⟩) ?_)⟩
  intro e a w1 hq
  cases e with
  | normal =>
    obtain ⟨rfl, rfl⟩ := hq
    exact ⟨_, run_beginRound h2 rfl, h3⟩
  | exit id => exact hq
  | goto t => exact hq
  | ret => exact hq
  | panic ch => exact hq
  | outgrown => exact hq
theorem rec_endLoop {ps : Array Tmp} {assign body : Code} {tmps : Array Value} {l df : Nat} {fn : FuncId} {rec : LoopState → Option Code → Loop} (hrec : rec = (fun st pe => { state := st, pending := pe, fn, tmps, params := ps, assign, body, defers := df }))
    {W : World} {st : LoopState} {pe : Option Code} (hl : W.heap[l]? = some (.loop (rec st pe))) (hs : st ≠ .busy) : ∃ o', (Instr.endLoop l).run P W = .ok pe (W.putObj l o') := by
  subst hrec
  exact ⟨_, run_endLoop (P := P) hl hs⟩
theorem rec_endRound {ps : Array Tmp} {assign body : Code} {tmps : Array Value} {l df : Nat} {fn : FuncId} {rec : LoopState → Option Code → Loop} (hrec : rec = (fun st pe => { state := st, pending := pe, fn, tmps, params := ps, assign, body, defers := df }))
    {W : World} (jump : Option Code) (hl : W.heap[l]? = some (.loop (rec .busy none))) : (Instr.endRound l jump).run P W = .ok (.bool jump.isNone) (W.putObj l (.loop (rec (if jump.isNone then .ready else .done) jump))) := by
  subst hrec
  exact run_endRound (P := P) jump hl
end
/-- Between two rounds. -/
structure RdI (w : World) (pre : List Step) (W : World) : Prop where
  out : ∃ v, Boxed W (w.heap.size + 1 + 1) 57 v ∧ kStep.Own 66 w.heap.size W w.heap.size v pre
  ro : Boxed W w.heap.size 57 (.slice none 0 0)
  re : Boxed W (w.heap.size + 1) 27 (.int .i64 0)
  bx : ∃ v, Boxed W (w.heap.size + 1 + 1 + 1) 58 v
  bel : Below w.heap.size w W
theorem rdI_set {w W : World} {pre : List Step} (h : RdI w pre W) (v : Value) : RdI w pre (W.setCell ⟨w.heap.size + 1 + 1 + 1, 0, none⟩ v) := by
  obtain ⟨⟨u, h1, h2⟩, h3, h4, ⟨x, h5⟩, h6⟩ := h
  exact ⟨⟨u, block_far h1 (by omega), Kd.own_keep h2 (Keeps.set (p := ⟨_, _, none⟩) h5 (by show _ ≤ w.heap.size + 1 + 1 + 1; omega) (by decide) v)⟩, block_far h3 (by omega), block_far h4 (by omega), ⟨v, Boxed.set v h5⟩, bl_set h6 (p := ⟨_, _, none⟩) (by show _ ≤ w.heap.size + 1 + 1 + 1; omega) v⟩
theorem rdI_bel {w W W' : World} {pre : List Step} (h : RdI w pre W) (b : Below W.heap.size W W') : RdI w pre W' := by
  obtain ⟨⟨u, h1, h2⟩, h3, h4, ⟨x, h5⟩, h6⟩ := h
  exact ⟨⟨u, block_below b h1, Kd.own_below h2 b⟩, block_below b h3, block_below b h4, ⟨x, block_below b h5⟩, bl_trans h6 b⟩
theorem kp_put {B : Nat} {E : List TypeId} {W : World} {l : Nat} {o : Obj} (hl : W.heap[l]? = some o) (hB : B ≤ l) (ho : o.isCells = false) (o' : Obj) : Keeps B E W (W.putObj l o') := by
  refine ⟨(grownBy_putObj' W l o').size, fun b hb => (grownBy_putObj' W l o').block b hb.1 ?_⟩
  intro e
  cases e
  rcases hb.2 with h | ⟨c, t, f, h, _⟩
  · omega
  · rw [hl] at h
    cases h
    cases ho
theorem bx_put {W : World} {l b : Nat} {t : TypeId} {v : Value} {o : Obj} (h : Boxed W b t v) (hl : W.heap[l]? = some o) (ho : o.isCells = false) (o' : Obj) : Boxed W b t v → Boxed (W.putObj l o') b t v := fun _ => by
  refine ((grownBy_putObj' W l o').block b (Boxed.lt h) ?_).trans h
  intro e
  cases e
  have h9 : W.heap[l]? = some (.cells #[v] t (0, 0)) := h
  rw [h9] at hl
  cases hl
  cases ho
theorem blk_put {W : World} {l b : Nat} {t : TypeId} {cs : Array Value} {f : Nat × Nat} {o : Obj} (h : W.heap[b]? = some (.cells cs t f)) (hl : W.heap[l]? = some o) (ho : o.isCells = false) (o' : Obj) : (W.putObj l o').heap[b]? = some (.cells cs t f) := by
  refine ((grownBy_putObj' W l o').block b (blk_lt h) ?_).trans h
  intro e
  cases e
  rw [h] at hl
  cases hl
  cases ho
theorem def_put {W : World} {l b : Nat} {o o' : Obj} (h : W.heap[b]? = some o) (hne : b ≠ l) : (W.putObj l o').heap[b]? = some o := ((grownBy_putObj' W l o').block b (blk_lt h) (fun e => hne (by cases e; rfl))).trans h
theorem put_same {W : World} {l : Nat} {o o' : Obj} (h : W.heap[l]? = some o) : (W.putObj l o').heap[l]? = some o' := World.putObj_heap_same (blk_lt h)
theorem obj_grown {α : Type} {d : Kd α} {e : TypeId} {B base : Nat} {W w4 : World} {v : Value} {xs : List α} {k : Nat} {o : Obj} (h : W.heap[k]? = some o) (ho : o.isCells = false) (own : d.Own e B W base v xs) (g : W.grownBy w4 v.ownBlock) : w4.heap[k]? = some o := by
  refine (g.block k (blk_lt h) ?_).trans h
  intro e1
  obtain ⟨_, c, h2⟩ := Kd.own_block own k e1.symm
  rw [h] at h2
  cases h2
  cases ho
theorem info_step : (Try.prog.info? 66).map (fun i => (i.zero, i.size, i.bytes)) = some (some (.agg #[.int .i64 0, .int .i64 0, .int .i64 0, .int .i64 0, .int .i64 0, .slice none 0 0]), 6, 64) := by kernel_rfl
theorem rdI_put {w W : World} {pre : List Step} {l : Nat} {o : Obj} (h : RdI w pre W) (hl : W.heap[l]? = some o) (hB : w.heap.size ≤ l) (ho : o.isCells = false) (o' : Obj) : RdI w pre (W.putObj l o') := by
  obtain ⟨⟨u, h1, h2⟩, h3, h4, ⟨x, h5⟩, h6⟩ := h
  exact ⟨⟨u, bx_put h1 hl ho o' h1, Kd.own_keep h2 (kp_put hl hB ho o')⟩, bx_put h3 hl ho o' h3, bx_put h4 hl ho o' h4, ⟨x, bx_put h5 hl ho o' h5⟩, h6.grown (grownBy_putObj' W l o') (by have := blk_lt hl; omega) (fun k e => by cases e; omega)⟩
set_option maxRecDepth 100000 in
set_option maxHeartbeats 4000000 in
theorem read_in (m : Nat) (hm : 3 ≤ m) (b : List UInt8) (A : Option Addr) (c : Nat) (w : World) (B : Nat) (hl : b.length ≤ 1048576) (hc1 : b.length ≤ c) (hc2 : c ≤ maxLen) (hr : Kd.u8.Row 5 B w A b) :
    CallsIn Fence.wide m Try.prog 29 #[.slice A b.length c] w fun e w' => (∃ v, e = .returned (.tuple #[v, .int .i64 (readR b).2]) ∧ kStep.Own 66 w.heap.size w' w.heap.size v (readR b).1) ∧ Below w.heap.size w w' := by
  refine callsIn_of_wp_marks Try.func29 rfl trivial ?_ rfl
  simp only [Try.ntmps29, List.size_toArray, List.length_cons, List.length_nil, Nat.reduceAdd, Nat.reduceSub, Array.replicate_succ, Array.replicate_zero, List.push_toArray, List.append_toArray, List.nil_append, List.cons_append]
  have f51 : Fence.wide.fn 51 := trivial
  have hm1 : 1 ≤ m := by omega
  cases k1 : decide (16384 < b.length)
  · have k1n : b.length ≤ 16384 := by simpa using k1
    have k1I : ¬ ((b.length : Int) > 16384) := by omega
    gi_wp2_with (gi_at_call 51; refine (stepsf_in Fence.wide (m - 1) trivial rfl A b.length c _).mono ?_; rintro e w' ⟨rfl, rfl⟩)
    obtain ⟨W0, hW0⟩ : ∃ W0, ((((w.alloc (.cells #[.slice none 0 0] 57)).alloc (.cells #[.int .i64 0] 27)).alloc (.cells #[.slice none 0 0] 57)).alloc (.cells #[.slice A b.length c] 58)) = W0 := ⟨_, rfl⟩
    have hs0 : w.heap.size + 4 ≤ W0.heap.size := by rw [← hW0]; simp
    have B0 : Below w.heap.size w W0 := by rw [← hW0]; exact bl_alloc (bl_alloc (bl_alloc (bl_alloc (Below.refl _ _) _) _) _) _
    have hRo : Boxed W0 w.heap.size 57 (.slice none 0 0) := by
      rw [← hW0]; exact (((Boxed.new w 57 _).alloc _).alloc _).alloc _
    have hRe : Boxed W0 (w.heap.size + 1) 27 (.int .i64 0) := by
      rw [← hW0]
      have b1 := Boxed.new (w.alloc (.cells #[.slice none 0 0] 57)) 27 (.int .i64 0)
      simp only [World.size_alloc] at b1
      exact (b1.alloc _).alloc _
    have hBo : Boxed W0 (w.heap.size + 1 + 1) 57 (.slice none 0 0) := by
      rw [← hW0]
      have b1 := Boxed.new ((w.alloc (.cells #[.slice none 0 0] 57)).alloc (.cells #[.int .i64 0] 27)) 57 (.slice none 0 0)
      simp only [World.size_alloc] at b1
      exact b1.alloc _
    have hBx : Boxed W0 (w.heap.size + 1 + 1 + 1) 58 (.slice A b.length c) := by
      rw [← hW0]
      have b1 := Boxed.new (((w.alloc (.cells #[.slice none 0 0] 57)).alloc (.cells #[.int .i64 0] 27)).alloc (.cells #[.slice none 0 0] 57)) 58 (.slice A b.length c)
      simp only [World.size_alloc] at b1
      exact b1
    have hI0 : RdI w [] W0 := ⟨⟨_, hBo, Kd.own_nil _ _ _ _ _⟩, hRo, hRe, ⟨_, hBx⟩, B0⟩
    rw [hW0]
    clear hW0
    refine range_enter rfl hm1 (gf := 64) (lb := #[.pointer (some ⟨w.heap.size + 1 + 1 + 1, 0, none⟩)]) rfl trivial (enters_of Try.func64 (by kernel_rfl) rfl) fun fn rec hfn hrec0 => ?_
    have HREC := Lib.hid hrec0
    clear hrec0
    have hL : (((W0.alloc (.deferred (some []))).alloc (.loop (rec .ready none))).heap[W0.heap.size + 1]? = some (.loop (rec .ready none))) := by
      have := World.alloc_heap_new (W0.alloc (.deferred (some []))) (.loop (rec .ready none))
      rwa [World.size_alloc] at this
    have hD : (((W0.alloc (.deferred (some []))).alloc (.loop (rec .ready none))).heap[W0.heap.size]? = some (.deferred (some []))) := (Below.heap_alloc _ _ _ (by simp)).trans (World.alloc_heap_new W0 _)
    have bA : Below W0.heap.size W0 ((W0.alloc (.deferred (some []))).alloc (.loop (rec .ready none))) := bl_alloc (bl_alloc (Below.refl _ _) _) _
    refine (steps1_in (m - 1) (by omega) (W0.heap.size + 1) (w.heap.size + 1 + 1 + 1) B w b A c
      (fun pre W => RdI w pre W ∧ W.heap[W0.heap.size + 1]? = some (.loop (rec .ready none)) ∧ W.heap[W0.heap.size]? = some (.deferred (some [])))
      (fun W => (Boxed W w.heap.size 57 (.slice none 0 0) ∧ Boxed W (w.heap.size + 1) 27 (.int .i64 33) ∧ Below w.heap.size w W) ∧ W.heap[W0.heap.size + 1]? = some (.loop (rec .done (some .ret))) ∧ W.heap[W0.heap.size]? = some (.deferred (some [])))
      k1n (fun pre W h => h.1.bel) (fun pre W v h => ⟨rdI_set h.1 v, block_far h.2.1 (by omega), block_far h.2.2 (by omega)⟩) (fun pre W W' h b => ⟨rdI_bel h.1 b, block_below b h.2.1, block_below b h.2.2⟩)
      ?good ?bad _ (block_below bA hBx) hc1 hc2 hr ⟨rdI_bel hI0 bA, hL, hD⟩).mono ?fin
    case good =>
      rintro pre x A5 c5 W ⟨hI, hl5, hd5⟩ hpl ints q1 q2 rows
      have hz1 := rdI_bel hI (bl_alloc (Below.refl _ _) (.cells #[.int .i64 x.kind, .int .i64 x.a, .int .i64 x.b, .int .i64 x.c, .int .i64 x.d, .slice A5 x.data.length c5] 66))
      have hz2 := alloc_old hl5 (.cells #[.int .i64 x.kind, .int .i64 x.a, .int .i64 x.b, .int .i64 x.c, .int .i64 x.d, .slice A5 x.data.length c5] 66)
      have hz3 := alloc_old hd5 (.cells #[.int .i64 x.kind, .int .i64 x.a, .int .i64 x.b, .int .i64 x.c, .int .i64 x.d, .slice A5 x.data.length c5] 66)
      have hz4 := alloc_new W (.cells #[.int .i64 x.kind, .int .i64 x.a, .int .i64 x.b, .int .i64 x.c, .int .i64 x.d, .slice A5 x.data.length c5] 66)
      have hz5 : ∀ B, Kd.u8.Row 5 B (W.alloc (.cells #[.int .i64 x.kind, .int .i64 x.a, .int .i64 x.b, .int .i64 x.c, .int .i64 x.d, .slice A5 x.data.length c5] 66)) A5 x.data := fun B => Kd.row_below (bl_alloc (Below.refl _ _) _) (rows B)
      refine yield_round hfn HREC.out rfl hl5 ⟨#[.slice A b.length c, undef, .pointer (some ⟨w.heap.size, 0, none⟩), .pointer (some ⟨w.heap.size + 1, 0, none⟩), .pointer (some ⟨w.heap.size + 1 + 1, 0, none⟩), .pointer (some ⟨W.heap.size, 0, none⟩), .bool true, .slice A b.length c, .int .i64 (b.length : Int), .bool false, .slice A b.length c, .func (.func 64) #[] #[.pointer (some ⟨w.heap.size + 1 + 1 + 1, 0, none⟩)], .agg #[.int .i64 x.kind, .int .i64 x.a, .int .i64 x.b, .int .i64 x.c, .int .i64 x.d, .slice A5 x.data.length c5], .bool true, undef, undef, undef, undef, undef, undef, undef, undef, undef, undef], []⟩ (W.alloc (.cells #[.int .i64 x.kind, .int .i64 x.a, .int .i64 x.b, .int .i64 x.c, .int .i64 x.d, .slice A5 x.data.length c5] 66)) hz2 ?_ (fun K hK => by
        unfold stepV
        gi_wp2
        exact hK)
      have hI2 := rdI_put hz1 hz2 (by omega) rfl (.loop (rec .busy none))
      have hl2 := put_same (o' := .loop (rec .busy none)) hz2
      have hd2 := def_put (o' := .loop (rec .busy none)) hz3 (show W0.heap.size ≠ W0.heap.size + 1 by omega)
      have hb2 := blk_put hz4 hz2 rfl (.loop (rec .busy none))
      have hr2 : ∀ B, Kd.u8.Row 5 B ((W.alloc (.cells #[.int .i64 x.kind, .int .i64 x.a, .int .i64 x.b, .int .i64 x.c, .int .i64 x.d, .slice A5 x.data.length c5] 66)).putObj (W0.heap.size + 1) (.loop (rec .busy none))) A5 x.data := row_any Kd.flat_u8 (Kd.row_keep (kp_put hz2 (Nat.zero_le _) rfl (.loop (rec .busy none))) (hz5 0))
      have hkW : ∀ v, Boxed W (w.heap.size + 1 + 1 + 1) 58 v → Boxed ((W.alloc (.cells #[.int .i64 x.kind, .int .i64 x.a, .int .i64 x.b, .int .i64 x.c, .int .i64 x.d, .slice A5 x.data.length c5] 66)).putObj (W0.heap.size + 1) (.loop (rec .busy none))) (w.heap.size + 1 + 1 + 1) 58 v := fun v hv => bx_put (hv.alloc _) hz2 rfl _ (hv.alloc _)
      obtain ⟨N, hN⟩ : ∃ N, W.heap.size = N := ⟨_, rfl⟩
      generalize (W.alloc (.cells #[.int .i64 x.kind, .int .i64 x.a, .int .i64 x.b, .int .i64 x.c, .int .i64 x.d, .slice A5 x.data.length c5] 66)).putObj (W0.heap.size + 1) (.loop (rec .busy none)) = W6 at *
      rw [hN] at *
      clear hz1 hz2 hz3 hz4 hz5 hN rows hl5 hd5
      obtain ⟨⟨u, h1, h2⟩, h3, h4, ⟨y, h5⟩, h6⟩ := hI2
      obtain ⟨i0, hi, hz0, hz1, hz2⟩ := info_parts info_step
      obtain ⟨Au, cu, rfl, _, _, _, _⟩ := Kd.own_row h2
      have e1 := Boxed.cell h1
      have e2 := Boxed.frozen h1
      have x0 := block_cell hb2 (i := 0) rfl
      have x1 := block_cell hb2 (i := 1) rfl
      have x2 := block_cell hb2 (i := 2) rfl
      have x3 := block_cell hb2 (i := 3) rfl
      have x4 := block_cell hb2 (i := 4) rfl
      have x5 := block_cell hb2 (i := 5) rfl
      have al := bl_alloc (Below.refl W6.heap.size W6) (.cells #[.int .i64 x.kind, .int .i64 x.a, .int .i64 x.b, .int .i64 x.c, .int .i64 x.d, .slice A5 x.data.length c5] 66)
      have ownA := Kd.own_below h2 al
      have rowx : kStep.Row 66 w.heap.size (W6.alloc (.cells #[.int .i64 x.kind, .int .i64 x.a, .int .i64 x.b, .int .i64 x.c, .int .i64 x.d, .slice A5 x.data.length c5] 66)) (some ⟨W6.heap.size, 0, none⟩) [x] := Kd.row_fresh1 (kStep_mk x ints.1 ints.2.1 ints.2.2.1 ints.2.2.2.1 ints.2.2.2.2 q1 q2 (Kd.row_below al (hr2 _)))
      have belA := bl_trans h6 al
      gi_wp2_with ((gi_at_builtin; refine wpListIn_append_row _ rfl (.tmp 16) (.tmp 18) 57 rfl kStep w.heap.size w.heap.size 66 i0 _ 64 Try.underlying57 hi hz0 hz1 hz2 rfl (by decide) _ pre rfl ownA _ _ _ [x] rfl rfl rowx (by simp only [List.length_cons, List.length_nil]; omega) (by decide) belA.size (Nat.le_refl _) (by decide) ?_; intro v4 w4 own4 grw4 at4; have kp4 := Kd.own_keeps (E := [57, 27, 58]) ownA grw4 (Nat.le_refl _) (by decide); have k1' : Boxed w4 (w.heap.size + 1 + 1) 57 _ := (kp4.2 _ (held_type (h1.alloc _) (by decide))).trans (h1.alloc _); have k2' := Boxed.cell k1'; have k3' := Boxed.frozen k1'; obtain ⟨P, hP⟩ : ∃ P, pre ++ [x] = P := ⟨_, rfl⟩; rw [hP] at own4; have HP := Lib.hid hP; clear hP; obtain ⟨A4, c4, rfl, _, _, _, _⟩ := Kd.own_row own4))
      have bel4 := Kd.own_step belA ownA grw4
      have k4' : Boxed w4 w.heap.size 57 _ := (kp4.2 _ (held_type (h3.alloc _) (by decide))).trans (h3.alloc _)
      have k5' : Boxed w4 (w.heap.size + 1) 27 _ := (kp4.2 _ (held_type (h4.alloc _) (by decide))).trans (h4.alloc _)
      have k6' : ∀ v, Boxed W6 (w.heap.size + 1 + 1 + 1) 58 v → Boxed w4 (w.heap.size + 1 + 1 + 1) 58 v := fun v hv => (kp4.2 _ (held_type (hv.alloc _) (by decide))).trans (hv.alloc _)
      have l4 := obj_grown (alloc_old hl2 _) rfl ownA grw4
      have d4 := obj_grown (alloc_old hd2 _) rfl ownA grw4
      have hI5 : RdI w P (w4.setCell ⟨w.heap.size + 1 + 1, 0, none⟩ (.slice A4 P.length c4)) :=
        ⟨⟨(.slice A4 P.length c4), Boxed.set (.slice A4 P.length c4) k1', Kd.own_keep own4 (Keeps.set (p := ⟨_, _, none⟩) k1' (by show _ ≤ w.heap.size + 1 + 1; omega) (by decide) (.slice A4 P.length c4))⟩, block_far k4' (by omega), block_far k5' (by omega), ⟨y, block_far (k6' y h5) (by omega)⟩, bl_set bel4 (p := ⟨_, _, none⟩) (by show _ ≤ w.heap.size + 1 + 1; omega) _⟩
      have l5 := block_far (b := w.heap.size + 1 + 1) (i := 0) (u := (.slice A4 P.length c4)) l4 (by omega)
      have d5 := block_far (b := w.heap.size + 1 + 1) (i := 0) (u := (.slice A4 P.length c4)) d4 (by omega)
      have k7' : ∀ v, Boxed W (w.heap.size + 1 + 1 + 1) 58 v → Boxed (w4.setCell ⟨w.heap.size + 1 + 1, 0, none⟩ (.slice A4 P.length c4)) (w.heap.size + 1 + 1 + 1) 58 v := fun v hv => block_far (k6' v (hkW v hv)) (by omega)
      refine ⟨_, _, rec_endRound HREC.out none l5, rfl, ⟨by rw [HP.out]; exact rdI_put hI5 l5 (by omega) rfl _, put_same l5, def_put d5 (by omega)⟩, fun v hv => bx_put (k7' v hv) l5 rfl _ (k7' v hv)⟩
    case bad =>
      rintro pre W ⟨hI, hl5, hd5⟩
      have hz1 := rdI_bel hI (bl_alloc (Below.refl _ _) (.cells #[.int .i64 0, .int .i64 0, .int .i64 0, .int .i64 0, .int .i64 0, .slice none 0 0] 66))
      have hz2 := alloc_old hl5 (.cells #[.int .i64 0, .int .i64 0, .int .i64 0, .int .i64 0, .int .i64 0, .slice none 0 0] 66)
      have hz3 := alloc_old hd5 (.cells #[.int .i64 0, .int .i64 0, .int .i64 0, .int .i64 0, .int .i64 0, .slice none 0 0] 66)
      refine yield_round hfn HREC.out rfl hl5 ⟨#[.slice A b.length c, undef, .pointer (some ⟨w.heap.size, 0, none⟩), .pointer (some ⟨w.heap.size + 1, 0, none⟩), .pointer (some ⟨w.heap.size + 1 + 1, 0, none⟩), .pointer (some ⟨W.heap.size, 0, none⟩), .bool false, .slice A b.length c, .int .i64 (b.length : Int), .bool false, .slice A b.length c, .func (.func 64) #[] #[.pointer (some ⟨w.heap.size + 1 + 1 + 1, 0, none⟩)], .agg #[.int .i64 0, .int .i64 0, .int .i64 0, .int .i64 0, .int .i64 0, .slice none 0 0], .bool false, undef, undef, undef, undef, undef, undef, undef, undef, undef, undef], []⟩ (W.alloc (.cells #[.int .i64 0, .int .i64 0, .int .i64 0, .int .i64 0, .int .i64 0, .slice none 0 0] 66)) hz2 ?_ (fun K hK => by
        unfold zeroS
        gi_wp2
        exact hK)
      have hI2 := rdI_put hz1 hz2 (by omega) rfl (.loop (rec .busy none))
      have hl2 := put_same (o' := .loop (rec .busy none)) hz2
      have hd2 := def_put (o' := .loop (rec .busy none)) hz3 (show W0.heap.size ≠ W0.heap.size + 1 by omega)
      generalize (W.alloc (.cells #[.int .i64 0, .int .i64 0, .int .i64 0, .int .i64 0, .int .i64 0, .slice none 0 0] 66)).putObj (W0.heap.size + 1) (.loop (rec .busy none)) = W6 at *
      obtain ⟨⟨u, h1, h2⟩, h3, h4, ⟨y, h5⟩, h6⟩ := hI2
      have e1 := Boxed.cell h3
      have e2 := Boxed.frozen h3
      have e3 := Boxed.cell h4
      have e4 := Boxed.frozen h4
      gi_wp2
      have g1 : Boxed ((W6.setCell ⟨w.heap.size, 0, none⟩ (.slice none 0 0)).setCell ⟨w.heap.size + 1, 0, none⟩ (.int .i64 33)) w.heap.size 57 (.slice none 0 0) := block_far (Boxed.set _ h3) (by omega)
      have g2 : Boxed ((W6.setCell ⟨w.heap.size, 0, none⟩ (.slice none 0 0)).setCell ⟨w.heap.size + 1, 0, none⟩ (.int .i64 33)) (w.heap.size + 1) 27 (.int .i64 33) := Boxed.set (v := .int .i64 0) _ (block_far h4 (by omega))
      have g3 := bl_set (bl_set h6 (p := ⟨w.heap.size, 0, none⟩) (Nat.le_refl _) (.slice none 0 0)) (p := ⟨w.heap.size + 1, 0, none⟩) (by show _ ≤ w.heap.size + 1; omega) (.int .i64 33)
      have l5 := block_far (b := w.heap.size + 1) (i := 0) (u := .int .i64 33) (block_far (b := w.heap.size) (i := 0) (u := .slice none 0 0) hl2 (by omega)) (by omega)
      have d5 := block_far (b := w.heap.size + 1) (i := 0) (u := .int .i64 33) (block_far (b := w.heap.size) (i := 0) (u := .slice none 0 0) hd2 (by omega)) (by omega)
      exact ⟨_, _, rec_endRound HREC.out (some .ret) l5, rfl, ⟨bx_put g1 l5 rfl _ g1, bx_put g2 l5 rfl _ g2, g3.grown (grownBy_putObj' _ _ _) (by have := blk_lt l5; have := g3.size; omega) (fun k e => by cases e; omega)⟩, put_same l5, def_put d5 (by omega)⟩
    case fin =>
      rintro e W2 ⟨⟨v, rfl⟩, (⟨hok, hI, hl5, hd5⟩ | ⟨hok, ⟨h1, h2, h3⟩, hl5, hd5⟩)⟩
      · obtain ⟨o', ho'⟩ := rec_endLoop (P := Try.prog) HREC.out hl5 (by simp)
        refine ⟨none, _, ho', ?_⟩
        have hI2 := rdI_put hI hl5 (by omega) rfl o'
        have hd2 := def_put (o' := o') hd5 (show W0.heap.size ≠ W0.heap.size + 1 by omega)
        generalize W2.putObj (W0.heap.size + 1) o' = W6 at *
        obtain ⟨⟨u, h1, h2⟩, h3, h4, ⟨y, h5⟩, h6⟩ := hI2
        have hRR : readR b = if decide (1024 < (readAll b).1.length) then ([], 3) else ((readAll b).1, 0) := by
          unfold readR
          rw [k1, hok]
          rfl
        obtain ⟨L, hLL⟩ : ∃ L, (readAll b).1 = L := ⟨_, rfl⟩
        rw [hLL] at hRR h2
        obtain ⟨Au, cu, rfl, _, _, _, _⟩ := Kd.own_row h2
        have e1 := Boxed.cell h1
        have e3 := Boxed.cell h3
        have e4 := Boxed.frozen h3
        have e5 := Boxed.cell h4
        have e6 := Boxed.frozen h4
        have HRR := Lib.hid hRR
        clear hRR hLL hok hI ho' hl5 hd5
        dsimp only [List.cons_append, List.nil_append]
        cases k2 : decide (1024 < L.length)
        · have k2m : ¬ 1024 < L.length := by simpa using k2
          have k2n : ¬ ((L.length : Int) > 1024) := by omega
          have hR : Hid (readR b = (L, 0)) := Lib.hid (by rw [HRR.out, k2]; rfl)
          clear HRR k2
          gi_wp2
          have g1 : Boxed ((W6.setCell ⟨w.heap.size, 0, none⟩ (.slice Au L.length cu)).setCell ⟨w.heap.size + 1, 0, none⟩ (.int .i64 0)) w.heap.size 57 (.slice Au L.length cu) := block_far (Boxed.set _ h3) (by omega)
          have g2 : Boxed ((W6.setCell ⟨w.heap.size, 0, none⟩ (.slice Au L.length cu)).setCell ⟨w.heap.size + 1, 0, none⟩ (.int .i64 0)) (w.heap.size + 1) 27 (.int .i64 0) := Boxed.set (v := .int .i64 0) _ (block_far h4 (by omega))
          have g3 := bl_set (bl_set h6 (p := ⟨w.heap.size, 0, none⟩) (Nat.le_refl _) (.slice Au L.length cu)) (p := ⟨w.heap.size + 1, 0, none⟩) (by show _ ≤ w.heap.size + 1; omega) (.int .i64 0)
          have h4' : Boxed (W6.setCell ⟨w.heap.size, 0, none⟩ (.slice Au L.length cu)) (w.heap.size + 1) 27 (.int .i64 0) := block_far h4 (by omega)
          have g4 : kStep.Own 66 w.heap.size ((W6.setCell ⟨w.heap.size, 0, none⟩ (.slice Au L.length cu)).setCell ⟨w.heap.size + 1, 0, none⟩ (.int .i64 0)) w.heap.size (.slice Au L.length cu) L :=
            Kd.own_keep (Kd.own_keep h2 (Keeps.set (p := ⟨w.heap.size, 0, none⟩) h3 (Nat.le_refl _) (by decide) _)) (Keeps.set (p := ⟨w.heap.size + 1, 0, none⟩) h4' (by show _ ≤ w.heap.size + 1; omega) (by decide) _)
          have d5 := block_far (b := w.heap.size + 1) (i := 0) (u := .int .i64 0) (block_far (b := w.heap.size) (i := 0) (u := .slice Au L.length cu) hd2 (by omega)) (by omega)
          generalize ((W6.setCell ⟨w.heap.size, 0, none⟩ (.slice Au L.length cu)).setCell ⟨w.heap.size + 1, 0, none⟩ (.int .i64 0)) = W9 at *
          refine ⟨by simp, .inl ⟨_, _, rfl, run_takeDeferred d5, ?_⟩⟩
          have c1 := Boxed.cell (bx_put g1 d5 rfl (.deferred none) g1)
          have c2 := Boxed.cell (bx_put g2 d5 rfl (.deferred none) g2)
          refine ⟨.tuple #[.slice Au L.length cu, .int .i64 0], by simp [results, Try.f29, go_sem, c1, c2], ⟨_, by rw [hR.out], by rw [hR.out]; exact Kd.own_keep g4 (kp_put d5 (by omega) rfl _)⟩, g3.grown (grownBy_putObj' _ _ _) (by have := blk_lt d5; have := g3.size; omega) (fun k e => by cases e; omega)⟩
        · have k2m : 1024 < L.length := by simpa using k2
          have k2n : (L.length : Int) > 1024 := by omega
          have hR : Hid (readR b = ([], 3)) := Lib.hid (by rw [HRR.out, k2]; rfl)
          clear HRR k2
          gi_wp2
          have g1 : Boxed ((W6.setCell ⟨w.heap.size, 0, none⟩ (.slice none 0 0)).setCell ⟨w.heap.size + 1, 0, none⟩ (.int .i64 3)) w.heap.size 57 (.slice none 0 0) := block_far (Boxed.set _ h3) (by omega)
          have g2 : Boxed ((W6.setCell ⟨w.heap.size, 0, none⟩ (.slice none 0 0)).setCell ⟨w.heap.size + 1, 0, none⟩ (.int .i64 3)) (w.heap.size + 1) 27 (.int .i64 3) := Boxed.set (v := .int .i64 0) _ (block_far h4 (by omega))
          have g3 := bl_set (bl_set h6 (p := ⟨w.heap.size, 0, none⟩) (Nat.le_refl _) (.slice none 0 0)) (p := ⟨w.heap.size + 1, 0, none⟩) (by show _ ≤ w.heap.size + 1; omega) (.int .i64 3)
          have d5 := block_far (b := w.heap.size + 1) (i := 0) (u := .int .i64 3) (block_far (b := w.heap.size) (i := 0) (u := .slice none 0 0) hd2 (by omega)) (by omega)
          generalize ((W6.setCell ⟨w.heap.size, 0, none⟩ (.slice none 0 0)).setCell ⟨w.heap.size + 1, 0, none⟩ (.int .i64 3)) = W9 at *
          refine ⟨by simp, .inl ⟨_, _, rfl, run_takeDeferred d5, ?_⟩⟩
          have c1 := Boxed.cell (bx_put g1 d5 rfl (.deferred none) g1)
          have c2 := Boxed.cell (bx_put g2 d5 rfl (.deferred none) g2)
          refine ⟨.tuple #[.slice none 0 0, .int .i64 3], by simp [results, Try.f29, go_sem, c1, c2], ⟨_, by rw [hR.out], by rw [hR.out]; exact Kd.own_nil _ _ _ _ _⟩, g3.grown (grownBy_putObj' _ _ _) (by have := blk_lt d5; have := g3.size; omega) (fun k e => by cases e; omega)⟩
      · obtain ⟨o', ho'⟩ := rec_endLoop (P := Try.prog) HREC.out hl5 (by simp)
        refine ⟨some .ret, _, ho', ?_⟩
        have g1 := bx_put h1 hl5 rfl o' h1
        have g2 := bx_put h2 hl5 rfl o' h2
        have hd2 := def_put (o' := o') hd5 (show W0.heap.size ≠ W0.heap.size + 1 by omega)
        have g3 : Below w.heap.size w (W2.putObj (W0.heap.size + 1) o') := h3.grown (grownBy_putObj' W2 _ o') (by have := blk_lt hl5; omega) (fun k e => by cases e; omega)
        generalize W2.putObj (W0.heap.size + 1) o' = W6 at *
        have hR : Hid (readR b = ([], 33)) := Lib.hid (by unfold readR; rw [k1, hok]; rfl)
        dsimp only [List.cons_append, List.nil_append]
        gi_wp2
        refine ⟨by simp, .inl ⟨_, _, rfl, run_takeDeferred hd2, ?_⟩⟩
        have c1 := Boxed.cell (bx_put g1 hd2 rfl (.deferred none) g1)
        have c2 := Boxed.cell (bx_put g2 hd2 rfl (.deferred none) g2)
        refine ⟨.tuple #[.slice none 0 0, .int .i64 33], by simp [results, Try.f29, go_sem, c1, c2], ⟨_, by rw [hR.out], by rw [hR.out]; exact Kd.own_nil _ _ _ _ _⟩, g3.grown (grownBy_putObj' _ _ _) (by have := blk_lt hd2; have := g3.size; omega) (fun k e => by cases e; omega)⟩
  · have k1n : 16384 < b.length := by simpa using k1
    have k1I : (b.length : Int) > 16384 := by omega
    gi_wp2
    have hR : readR b = ([], 5) := by unfold readR; rw [k1]; rfl
    refine ⟨.tuple #[.slice none 0 0, .int .i64 5], by simp [results, Try.f29, go_sem], ⟨_, by rw [hR], by rw [hR]; exact Kd.own_nil _ _ _ _ _⟩, bl_alloc (bl_alloc (Below.refl _ _) _) _⟩
theorem read_calls (b : List UInt8) (A : Option Addr) (n c : Nat) (w : World) (B : Nat) (hn : n = b.length) (hl : b.length ≤ 1048576) (hc1 : b.length ≤ c) (hc2 : c ≤ maxLen) (hr : Kd.u8.Row 5 B w A b) :
    Calls Try.prog 29 #[.slice A n c] w fun e w' => (∃ v, e = .returned (.tuple #[v, .int .i64 (readR b).2]) ∧ kStep.Own 66 w.heap.size w' w.heap.size v (readR b).1) ∧ Below w.heap.size w w' := by
  subst hn
  exact callsIn_wide.1 (read_in 3 (Nat.le_refl _) b A c w B hl hc1 hc2 hr)
end Go.Proofs.Ytflfpfaebndefab
