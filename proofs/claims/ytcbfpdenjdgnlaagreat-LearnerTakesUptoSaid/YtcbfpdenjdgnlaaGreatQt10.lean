/- Package sha: Pad. No claim of its own; no condition. -/
import Derived.Test.YtcbfpdenjdgnlaaGreatQt08
import Derived.Test.YtcbfpdenjdgnlaaGreatQt09
import Derived.Laws.IdiomStrings
import Derived.Lib.ConvBytes
import Derived.Lib.BufferRead
namespace Go.Proofs.YtcbfpdenjdgnlaaGreat
open Go.ChangeShapes Go.WideShapes Go.ChangeAt Go.RowKit
set_option linter.unusedVariables false
set_option linter.unusedSimpArgs false
/-- What an operation that makes memory does. -/
def Rb (w w' : World) : Prop := Below w.heap.size w w'
theorem rb_refl (w : World) : Rb w w := Below.refl _ _
theorem rb_trans (a b c : World) (h : Rb a b) (k : Rb b c) : Rb a c := bl_trans h k
theorem k_rb {α : Type} {d : Kd α} {B : Nat} {w w' : World} {x : α} {cs : List Value} (h : Rb w w') (hk : d.K B w x cs) : d.K B w' x cs := d.keep (Keeps.of_below h) hk
theorem k_slice {α : Type} {d : Kd α} {e : TypeId} {B : Nat} {w : World} {xs : List α} {A : Option Addr} {c : Nat} (h1 : xs.length ≤ c) (h2 : c ≤ maxLen) (hr : d.Row e B w A xs) : (Kd.slice e d).K B w xs [.slice A xs.length c] := ⟨A, c, rfl, h1, h2, hr⟩
theorem k_own {α : Type} {d : Kd α} {e : TypeId} {B base : Nat} {w : World} {v : Value} {xs : List α} (h : d.Own e B w base v xs) : (Kd.slice e d).K B w xs [v] := by
  obtain ⟨A, c, rfl, h1, h2, h3, _⟩ := Kd.own_row h
  exact ⟨A, c, rfl, h1, h2, h3⟩
theorem k_form {α : Type} {d : Kd α} {e : TypeId} {B : Nat} {w : World} {v : Value} {xs : List α} (h : (Kd.slice e d).K B w xs [v]) : ∃ A c, v = .slice A xs.length c ∧ xs.length ≤ c ∧ c ≤ maxLen ∧ d.Row e B w A xs := by
  obtain ⟨A, c, h0, h1, h2, h3⟩ := h
  cases h0
  exact ⟨A, c, rfl, h1, h2, h3⟩
theorem k_some {α : Type} {d : Kd α} {e : TypeId} {B : Nat} {w : World} {v : Value} {xs : List α} (h : (Kd.slice e d).K B w xs [v]) : ∃ A n c, v = .slice A n c := by
  obtain ⟨A, c, h0, _⟩ := h
  cases h0
  exact ⟨A, _, c, rfl⟩
def padF (b : List UInt8) (B : Nat) (A : Option Addr) (c : Nat) : Nat → Value → World → Prop
  | 0, v, w => v = .slice A b.length c ∧ kBB.K B w b [v]
  | 1, v, w => kBB.K B w [128] [v]
  | 2, v, w => v = .int .i64 (zpad b.length : Nat)
  | 3, v, w => kBB.K B w (List.replicate (zpad b.length) 0) [v]
  | 4, v, w => v = .slice A b.length c
  | 5, v, w => v = .int .i64 (b.length : Nat)
  | 6, v, w => v = .int .i64 (8 * (b.length : Int))
  | 7, v, w => kBB.K B w (putB 8 (8 * b.length)) [v]
  | 8, v, w => (Kd.slice 60 kBB).K B w [b, [128], List.replicate (zpad b.length) 0, putB 8 (8 * b.length)] [v]
  | 9, v, w => Kd.u8.Own 5 B w B v (padB b)
  | 10, v, w => Kd.u8.Own 5 B w B v (padB b)
  | _, _, _ => True
set_option maxHeartbeats 3200000 in
set_option maxRecDepth 100000 in
theorem shapad_calls (b : List UInt8) (A : Option Addr) (n c : Nat) (w : World) (B : Nat) (hn : n = b.length) (hl : b.length ≤ 2097152) (hc : b.length ≤ c) (hm : c ≤ maxLen) (hr : Kd.u8.Row 5 B w A b) :
    Calls Tryz.prog 241 #[.slice A n c] w fun e w' => (∃ v, e = .returned v ∧ Kd.u8.Own 5 w.heap.size w' w.heap.size v (padB b)) ∧ Below w.heap.size w w' := by
  subst hn
  have hz : zpad b.length ≤ 63 := by unfold zpad; omega
  have hzz : (119 - (b.length : Int) % 64) % 64 = ((zpad b.length : Nat) : Int) := by unfold zpad; omega
  have hr' : Kd.u8.Row 5 w.heap.size w A b := Kd.row_flat Kd.flat_u8 hr (Nat.le_refl _)
  obtain ⟨i0, hi, hz0, hz1, hz2⟩ := info_parts info_u8
  have hmk : ∀ w : World, (Instr.makeSlice 60 (.int .i64 (zpad b.length : Nat)) (.int .i64 (zpad b.length : Nat))).run Tryz.prog w = .ok (.slice (some ⟨w.heap.size, 0, none⟩) (zpad b.length) (zpad b.length)) (w.alloc (.cells (octCells (List.replicate (zpad b.length) 0)).toArray 5)) := fun w => by
    have h := run_make (P := Tryz.prog) w 60 5 i0 _ Tryz.underlying60 hi hz0 .i64 .i64 (zpad b.length : Nat) (zpad b.length : Nat) (by omega) (by omega) (by rw [hz2]; omega) (by omega)
    simp only [Int.toNat_natCast, hz1, Nat.mul_one] at h
    rw [h]
    rw [← octs_made]
    rfl
  have hput : ∀ W : World, Calls Tryz.prog 153 #[.int .i64 (8 * (b.length : Int)), .int .i64 8] W fun e w' => (∃ g, e = .returned (.slice (some g) 8 8) ∧ ∀ B, Kd.u8.Row 5 B w' (some g) (putB 8 (8 * b.length))) ∧ Below W.heap.size W w' := fun W => by
    have h := putn_row 8 (8 * b.length) (by omega) (by omega) (by omega) W
    rwa [show ((8 * b.length : Nat) : Int) = 8 * (b.length : Int) by omega] at h
  have hj : [b, [128], List.replicate (zpad b.length) 0, putB 8 (8 * b.length)].flatten = padB b := by simp [padB]
  have HMK := Lib.hid hmk
  have HPUT := Lib.hid hput
  have HJ := Lib.hid hj
  clear hmk hput hj hi hz0 hz1 hz2
  have HM := Lib.hid hm
  have HZ := Lib.hid hzz
  have HRow := Lib.hid hr'
  have h0 : 0 ≤ 119 - (b.length : Int) % 64 := by omega
  clear hm hzz hr'
  go_enter Tryz.func241, Tryz.ntmps241
  go_upto_region 2 with fail
  simp only [HZ.out]
  refine wp_region_inv (by kernel_rfl) (by kernel_rfl) Rb (padF b w.heap.size A c) rb_refl rb_trans ⟨?_, ?_, ?_, ?_, ?_, ?_, ?_, ?_, ?_, ?_, ?_, trivial⟩ ?_
  all_goals (try (intro u w1 hR hdep K hK; rw [if_pos (by rfl)]; simp only [frameF, Act.put, List.setIfInBounds_toArray, List.set_cons_zero, List.set_cons_succ, Nat.reduceAdd] at hK ⊢))
  · go_simp
    refine hK _ _ (rb_refl _) fun w3 h3 => ?_
    exact ⟨rfl, k_rb (rb_trans _ _ _ hR h3) (k_slice hc HM.out (HRow.out))⟩
  · go_simp
    refine hK _ _ (bl_alloc (rb_refl _) _) fun w3 h3 => ?_
    exact k_rb h3 (k_slice (by simp) (by simp [maxLen]) (Kd.row_fresh1 (show Kd.u8.K _ _ _ [_] from rfl)))
  · go_simp
    refine hK _ _ (rb_refl _) fun w3 h3 => ?_
    exact rfl
  · have h2 : u 2 = .int .i64 (zpad b.length : Nat) := hdep 2 (by kernel_rfl) w1 (rb_refl _)
    simp only [h2] at hK ⊢
    have hmk := HMK.out w1
    clear h2 hdep
    go_simp
    refine hK _ _ (bl_alloc (rb_refl _) _) fun w3 h3 => ?_
    exact k_rb h3 ⟨_, zpad b.length, by rw [List.length_replicate], by rw [List.length_replicate]; exact Nat.le_refl _, by simp only [maxLen]; omega, Kd.row_fresh rfl (octs_reps _ _ _)⟩
  · go_simp
    refine hK _ _ (rb_refl _) fun w3 h3 => ?_
    exact rfl
  · have h4 : u 4 = .slice A b.length c := hdep 4 (by kernel_rfl) w1 (rb_refl _)
    simp only [h4] at hK ⊢
    clear h4 hdep
    go_simp
    refine hK _ _ (rb_refl _) fun w3 h3 => ?_
    exact rfl
  · have w8 : IntKind.i64.wrap (8 * (b.length : Int)) = 8 * (b.length : Int) := IntWalk.i64_in _ (by omega)
    have h5 : u 5 = .int .i64 (b.length : Nat) := hdep 5 (by kernel_rfl) w1 (rb_refl _)
    simp only [h5] at hK ⊢
    clear h5 hdep
    go_simp
    refine hK _ _ (rb_refl _) fun w3 h3 => ?_
    exact rfl
  · have h6 : u 6 = .int .i64 (8 * (b.length : Int)) := hdep 6 (by kernel_rfl) w1 (rb_refl _)
    simp only [h6] at hK ⊢
    clear h6 hdep
    go_simp
    refine (HPUT.out _).mono ?_
    rintro e w2 ⟨⟨g, rfl, row⟩, bel⟩
    refine hK _ _ bel fun w3 h3 => ?_
    exact k_rb h3 ⟨_, 8, by rw [putB_len], by rw [putB_len]; omega, by simp [maxLen], row _⟩
  · have h0 : _ ∧ _ := hdep 0 (by kernel_rfl) w1 (rb_refl _)
    have h1 := hdep 1 (by kernel_rfl) w1 (rb_refl _)
    have h3 := hdep 3 (by kernel_rfl) w1 (rb_refl _)
    have h7 := hdep 7 (by kernel_rfl) w1 (rb_refl _)
    obtain ⟨A0, n0, c0, e0⟩ := k_some h0.2
    obtain ⟨A1, n1, c1, e1⟩ := k_some h1
    obtain ⟨A3, n3, c3, e3⟩ := k_some h3
    obtain ⟨A7, n7, c7, e7⟩ := k_some h7
    have kk : ∀ W, Rb w1 W → Kd.Reps kBB w.heap.size W [b, [128], List.replicate (zpad b.length) 0, putB 8 (8 * b.length)] [u 0, u 1, u 3, u 7] := fun W h =>
      .cons (k_rb h h0.2) (.cons (k_rb h h1) (.cons (k_rb h h3) (.cons (k_rb h h7) .nil)))
    simp only [e0, e1, e3, e7] at hK kk ⊢
    clear h0 h1 h3 h7 hdep e0 e1 e3 e7
    go_simp
    refine hK _ _ (bl_alloc (rb_refl _) _) fun w3 h3 => ?_
    exact k_rb h3 (k_slice (by simp) (by simp [maxLen]) (Kd.row_fresh rfl (kk _ (bl_alloc (rb_refl _) _))))
  · have h8 := hdep 8 (by kernel_rfl) w1 (rb_refl _)
    obtain ⟨A8, c8, e8, _, _, r8⟩ := k_form h8
    simp only [e8] at hK ⊢
    clear h8 hdep e8
    go_simp
    refine (join_calls _ A8 _ c8 w1 _ rfl (by simp) (by simp [putB]; omega) r8).mono ?_
    rintro e w2 ⟨⟨v, rfl, own⟩, bel⟩
    refine hK _ _ bel fun w3 h3 => ?_
    exact Kd.own_below (by rw [HJ.out] at own; exact Kd.own_flat (B' := w.heap.size) Kd.flat_u8 own hR.size) h3
  · have h9 := hdep 9 (by kernel_rfl) w1 (rb_refl _)
    go_simp
    refine hK _ _ (rb_refl _) fun w3 h3 => ?_
    exact hdep 9 (by kernel_rfl) w3 h3
  · intro u w' hR hall
    have h10 := hall 10 (by decide)
    simp only [frameF, Act.put, List.setIfInBounds_toArray, List.set_cons_zero, List.set_cons_succ, Nat.reduceAdd]
    go_wp2_with fail
    go_ret
    exact ⟨⟨_, rfl, h10⟩, bl_trans (bl_drew (Below.refl _ _)) hR⟩
end Go.Proofs.YtcbfpdenjdgnlaaGreat
/- Package sha: Sum. No claim of its own; no condition. -/
namespace Go.Proofs.YtcbfpdenjdgnlaaGreat
open Go.ChangeShapes Go.WideShapes Go.ChangeAt Go.RowKit
set_option linter.unusedVariables false
set_option linter.unusedSimpArgs false
theorem padB_len (b : List UInt8) : (padB b).length = 64 * ((padB b).length / 64) ∧ (padB b).length ≤ b.length + 72 := by
  have : (padB b).length = b.length + 1 + zpad b.length + 8 := by simp [padB, putB]; omega
  rw [this]
  unfold zpad
  omega
theorem wpStill_load_row {P : Program} {ops : Array Oper} {rest : List Oper} {o : Oper} {a : Act} {w : World} {L : Act → Prop} (hgd : o.guard = none) (ty : TypeId) (x : Operand) (ho : o.op = .load ty x)
    (g : Nat) (hx : a.eval x = .pointer (some ⟨g, 0, none⟩)) (t : TypeId) (cs : Array Value) (fr : Nat × Nat) (d : TypeDesc) (hg : w.heap[g]? = some (.cells cs t fr))
    (hu : P.underlying ty = some d) (hd : (match d with | .struct _ | .array _ _ => true | _ => false) = true) (hi : (P.info? ty).map (·.size) = some cs.size)
    (h : wpStill P ops w L rest (a.put o.dst (.agg cs))) : wpStill P ops w L (o :: rest) a := by
  refine wpStill_step (fun K hK => ?_)
  rw [if_pos (by simp [Region.wanted, hgd])]
  unfold Oper.still execOp
  simp only [ho, hx, Instr.loadAt, Instr.sureAddr, Sem.run_bind, Sem.run_pure, Result.andThen_ok, run_loadVar_row w g t ty cs fr d hg hu hd hi, Oper.stillUpon_value]
  exact hK _ h
/-- A row from some place on. -/
theorem row_drop {α : Type} {d : Kd α} {e : TypeId} {B : Nat} {w : World} {a : Addr} {xs : List α} (k : Nat) (h : d.Row e B w (some a) xs) : d.Row e B w (some (a.add (k * d.sz))) (xs.drop k) := by
  intro hne
  have hxs : xs ≠ [] := by rintro rfl; simp at hne
  obtain ⟨ad, h0, hb, hx⟩ := h hxs
  cases h0
  refine ⟨_, rfl, by rw [block_of_add]; exact hb, fun i x hi => ?_⟩
  rw [List.getElem?_drop] at hi
  obtain ⟨cs, hK, hc⟩ := hx _ x hi
  exact ⟨cs, hK, fun j u hu => by
    rw [add_of_add, show k * d.sz + (i * d.sz + j) = (k + i) * d.sz + j by rw [Nat.add_mul]; omega]
    exact hc j u hu⟩
theorem row_take {α : Type} {d : Kd α} {e : TypeId} {B : Nat} {w : World} {A : Option Addr} {xs : List α} (k : Nat) (h : d.Row e B w A xs) : d.Row e B w A (xs.take k) := by
  intro hne
  have hxs : xs ≠ [] := by rintro rfl; simp at hne
  obtain ⟨ad, h0, hb, hx⟩ := h hxs
  refine ⟨_, h0, hb, fun i x hi => hx i x ?_⟩
  rw [List.getElem?_take] at hi
  split at hi
  · exact hi
  · cases hi
set_option maxHeartbeats 8000000 in
set_option maxRecDepth 100000 in
theorem shasum_calls (b : List UInt8) (A : Option Addr) (n c : Nat) (w : World) (B : Nat) (hn : n = b.length) (hl : b.length ≤ 1048576) (hc : b.length ≤ c) (hm : c ≤ maxLen) (hr : Kd.u8.Row 5 B w A b) :
    Calls Tryz.prog 190 #[.slice A n c] w fun e w' => (∃ v, e = .returned v ∧ Kd.u8.Own 5 w.heap.size w' w.heap.size v (shaB b)) ∧ Below w.heap.size w w' := by
  subst hn
  obtain ⟨p, hp⟩ : ∃ p, padB b = p := ⟨_, rfl⟩
  obtain ⟨nb, hnb⟩ : ∃ nb, p.length / 64 = nb := ⟨_, rfl⟩
  have hpl := padB_len b
  rw [hp, hnb] at hpl
  obtain ⟨hpl, hple⟩ := hpl
  have hpad := fun (w' : World) (h : Below w.heap.size w w') => shapad_calls b A b.length c w' B rfl (by omega) hc hm (Kd.row_below h hr)
  rw [hp] at hpad
  have HPAD := Lib.hid hpad
  have HSB : Hid (shaB b = wordsB (shaS p nb)) := Lib.hid (by unfold shaB; rw [hp, hnb])
  have hnb2 : nb ≤ 20000 := by omega
  have HPL := Lib.hid hpl
  have i213 := Lib.hid info_213
  have i215 := Lib.hid info_215
  have Zz := zero8
  have Z66 := zero64
  obtain ⟨z8, hz8⟩ : ∃ z, List.replicate 8 (0 : UInt32) = z := ⟨_, rfl⟩
  obtain ⟨z64, hz64⟩ : ∃ z, List.replicate 64 (0 : UInt32) = z := ⟨_, rfl⟩
  rw [hz8] at Zz
  rw [hz64] at Z66
  have L8 : Hid (z8.length = 8) := Lib.hid (by rw [← hz8]; rfl)
  have L64 : Hid (z64.length = 64) := Lib.hid (by rw [← hz64]; rfl)
  have Z := Lib.hid Zz
  have Z6 := Lib.hid Z66
  clear hz8 hz64 Zz Z66
  clear hpad hp hnb hpl hple hc hm hr
  go_enter Tryz.func190, Tryz.ntmps190
  go_wp2_with (first
    | (go_at_call 239; refine (first_calls _).mono ?_; rintro e w1 ⟨rfl, b1⟩)
    | (go_at_call 240; refine (constants_calls _).mono ?_; rintro e w2 ⟨rfl, b2⟩)
    | (rw [← Z.out, ← Z6.out]; refine wpList_store_row rfl 277 (.tmp 3) (.tmp 6) rfl w2.heap.size rfl (wcs h0L) rfl 277 (wcs z8) (alloc_old (alloc_new w2 _) _) (by rw [i213.out]; rfl) (by rw [wcs_size, L8.out]; rfl) (wcs_one _) ?_)
    | (refine wpList_store_row rfl 215 (.tmp 4) (.tmp 7) rfl (w2.heap.size + 1) rfl (wcs kL) rfl 215 (wcs z64) (by have := alloc_new (w2.alloc (.cells (wcs z8) 277)) (.cells (wcs z64) 215); rw [World.size_alloc] at this; exact (setRow_far (by omega)).trans this) (by rw [i215.out]; rfl) (by rw [wcs_size, L64.out]; rfl) (wcs_one _) ?_))
  obtain ⟨W0, hW0⟩ : ∃ W0, (w2.alloc (.cells (wcs z8) 277)).alloc (.cells (wcs z64) 215) = W0 := ⟨_, rfl⟩
  have a0 : WB W0 w2.heap.size 277 z8 := by rw [← hW0]; exact alloc_old (alloc_new w2 _) _
  have a1 : WB W0 (w2.heap.size + 1) 215 z64 := by
    have := alloc_new (w2.alloc (.cells (wcs z8) 277)) (.cells (wcs z64) 215)
    rw [World.size_alloc, hW0] at this
    exact this
  have bW0 : Below w.heap.size w W0 := by rw [← hW0]; exact bl_alloc (bl_alloc (bl_trans b1 b2) _) _
  obtain ⟨W1, hW1⟩ : ∃ W1, (W0.setRow w2.heap.size (wcs h0L)).setRow (w2.heap.size + 1) (wcs kL) = W1 := ⟨_, rfl⟩
  have hM : w.heap.size ≤ w2.heap.size := Nat.le_trans b1.size b2.size
  have q4 : WB W1 w2.heap.size 277 h0L := by rw [← hW1]; exact WB.row_far (WB.row_same a0 _) (by omega)
  have q3 : WB W1 (w2.heap.size + 1) 215 kL := by rw [← hW1]; exact WB.row_same (WB.row_far a1 (by omega)) _
  have bW1 : Below w.heap.size w W1 := by rw [← hW1]; exact below_setRow (below_setRow bW0 hM _) (by omega) _
  rw [hW0, hW1]
  clear hW0 hW1 a0 a1 bW0
  obtain ⟨K, hK⟩ : ∃ K, w2.heap.size = K := ⟨_, rfl⟩
  obtain ⟨M, hMM⟩ : ∃ M, w.heap.size = M := ⟨_, rfl⟩
  simp only [hK] at q4 q3 hM ⊢
  have HPAD1 := Lib.hid (HPAD.out W1 bW1)
  rw [hMM] at hM bW1
  have HM := Lib.hid hMM
  clear hK hMM b1 b2 HPAD
  go_wp2_with ((go_at_call 241; refine (HPAD1.out).mono ?_; rintro e w3 ⟨⟨v3, rfl, own3⟩, b3⟩; obtain ⟨A3, c3, rfl, l3, m3, _, _⟩ := Kd.own_row own3))
  have r3 : ∀ B, Kd.u8.Row 5 B w3 A3 p := own_rows Kd.flat_u8 own3
  have q4' := WB.below q4 b3
  have q3' := WB.below q3 b3
  have q6' : Below M w w3 := bW1.trans (b3.mono (by have := bW1.size; have := blk_lt q4; omega))
  have hMK := Lib.hid hM
  clear q4 q3 bW1 own3 b3 HPAD1
  go_loopw [5] (fun pv w' => ∃ (i r c' : Nat) (A' : Option Addr), i + r = nb ∧ pv = .slice A' (64 * r) c' ∧ 64 * r ≤ c' ∧ c' ≤ maxLen ∧ (∀ B, Kd.u8.Row 5 B w' A' (p.drop (64 * i))) ∧ WB w' K 277 (shaS p i) ∧ WB w' (K + 1) 215 kL ∧ Below M w w') (fun pv _ => match pv with | .slice _ n _ => n | _ => 0)
  case atStart => exact ⟨0, nb, c3, A3, by omega, by rw [HPL.out], by rw [← HPL.out]; exact l3, m3, r3, q4', q3', q6'⟩
  case round =>
    clear r3 q4' q3' q6' l3 m3
    obtain ⟨i, r, c', A', hir, rfl, hc, hm, row, q4, q3, q6⟩ := hrel
    by_cases h : r = 0
    · subst h
      obtain rfl : i = nb := by omega
      clear hir hc
      have HF : Hid (shaB b = wordsB (shaS p i)) := HSB
      have sl := shaS_len p i
      go_wp2_with ((go_at_call 243; refine (octwords_calls (shaS p i) K 8 8 _ 277 sl.symm (by omega) q4).mono ?_; rintro e w4 ⟨⟨v4, rfl, own4⟩, b4⟩))
      go_ret
      rw [← HM.out] at q6
      have hz := q6.size
      rw [← HF.out] at own4
      exact ⟨⟨_, rfl, Kd.own_flat Kd.flat_u8 own4 hz⟩, bl_trans q6 b4⟩
    · obtain ⟨s, hs⟩ : ∃ s, shaS p i = s := ⟨_, rfl⟩
      have hsl : s.length = 8 := by rw [← hs]; exact shaS_len p i
      have hdl : (p.drop (64 * i)).length = 64 * r := by rw [List.length_drop, HPL.out]; omega
      obtain ⟨blk, hblk⟩ : ∃ blk, (p.drop (64 * i)).take 64 = blk := ⟨_, rfl⟩
      have hbl : blk.length = 64 := by rw [← hblk, List.length_take, hdl]; omega
      have hnext : shaS p (i + 1) = blkF s kL blk := by rw [← hs, ← hblk]; rfl
      have hdrop : p.drop (64 * (i + 1)) = (p.drop (64 * i)).drop 64 := by rw [List.drop_drop]; congr 1
      have hne : p.drop (64 * i) ≠ [] := by intro e; rw [e] at hdl; simp at hdl; omega
      obtain ⟨ad, rfl, _, _⟩ := row 0 hne
      have rowb : ∀ B, Kd.u8.Row 5 B wr (some ad) blk := fun B => by rw [← hblk]; exact row_take 64 (row B)
      rw [hs] at q4
      have HNEXT := Lib.hid hnext
      have HDROP := Lib.hid hdrop
      have HSL := Lib.hid hsl
      have HBL := Lib.hid hbl
      have HDL := Lib.hid hdl
      have HIR := Lib.hid hir
      have hr1 : 1 ≤ r := by omega
      have hg0 : (64 * (r : Int)) > 0 := by omega
      have hcap : 64 ≤ c' := by omega
      have hcapI : (64 : Int) ≤ (c' : Int) := by omega
      have hlenI : (64 : Int) ≤ 64 * (r : Int) := by omega
      clear hs hblk hbl hnext hdrop hne hdl hir h
      go_upto_region 5 with fail
      refine wp_region_still_tail 3 (by kernel_rfl) (by kernel_rfl) ?_
      change wpStill _ _ wr.drew (fun a' => wpList _ _ _ _ a' wr.drew) _ _
      have f4 : WB wr.drew K 277 s := q4
      have f3 : WB wr.drew (K + 1) 215 kL := q3
      have f5 : ∀ B, Kd.u8.Row 5 B wr.drew (some ad) blk := rowb
      have f7 : ∀ B, Kd.u8.Row 5 B wr.drew (some ad) (p.drop (64 * i)) := row
      have f6 : Below M w wr.drew := q6.drew
      clear q4 q3 rowb row q6
      generalize wr.drew = w5 at *
      simp only [List.take_succ_cons, List.take_zero, List.drop_succ_cons, List.drop_zero]
      refine wpStill_load_row rfl 277 (.tmp 3) rfl K rfl 277 (wcs s) (0, 0) _ f4 Tryz.underlying277 rfl (by rw [i213.out, wcs_size, HSL.out]) ?_
      repeat still_step
      try refine wpStill_nil ?_
      have hblk2 : (blkF s kL blk).length = 8 := by
        show (sums (rnds _ _ _ 64) _ 8).length = 8
        rw [sums_len, rnds_len _ _ HSL.out]
      have HB2 := Lib.hid hblk2
      clear hblk2
      have hK5 : K + 1 < w5.heap.size := blk_lt f3
      by_cases hc64 : c' = 64
      · subst hc64
        obtain rfl : r = 1 := by omega
        go_wp2_with (first
          | (go_at_call 242; refine (block_calls s kL blk (some ad) 64 64 (K + 1) _ 0 HSL.out rfl HBL.out.symm HBL.out (f5 0) f3).mono ?_; rintro e w6 ⟨rfl, b6⟩)
          | (refine wpList_store_row rfl 277 (.tmp 3) (.tmp 18) rfl K rfl (wcs (blkF s kL blk)) rfl 277 (wcs s) (WB.below f4 b6) (by rw [i213.out, wcs_size, HB2.out]) (by rw [wcs_size, wcs_size, HSL.out, HB2.out]) (wcs_one _) ?_))
        go_roundw
        case rel =>
          have hS : Below M w w6 := f6.trans (b6.mono (by have := hMK.out; omega))
          refine ⟨i + 1, 0, 0, some ad, by have := HIR.out; omega, rfl, Nat.le_refl _, by simp [maxLen], fun B => ?_, by rw [HNEXT.out]; exact setRow_same (WB.below f4 b6), WB.row_far (WB.below f3 b6) (by omega), below_setRow hS hMK.out _⟩
          have e : p.drop (64 * (i + 1)) = [] := by rw [HDROP.out]; exact List.drop_of_length_le (by rw [HDL.out]; omega)
          rw [e]
          exact Kd.row_nil _ _ _ _ _
        case measure => simp
      · have hc65 : 64 < c' := by omega
        go_wp2_with (first
          | (go_at_call 242; refine (block_calls s kL blk (some ad) 64 c' (K + 1) _ 0 HSL.out rfl HBL.out.symm HBL.out (f5 0) f3).mono ?_; rintro e w6 ⟨rfl, b6⟩)
          | (refine wpList_store_row rfl 277 (.tmp 3) (.tmp 18) rfl K rfl (wcs (blkF s kL blk)) rfl 277 (wcs s) (WB.below f4 b6) (by rw [i213.out, wcs_size, HB2.out]) (by rw [wcs_size, wcs_size, HSL.out, HB2.out]) (wcs_one _) ?_))
        go_roundw
        case rel =>
          have hS : Below M w w6 := f6.trans (b6.mono (by have := hMK.out; omega))
          refine ⟨i + 1, r - 1, c' - 64, some ⟨ad.block, ad.off + 64, none⟩, by have := HIR.out; omega, by rw [Nat.mul_sub], by omega, by omega, fun B => ?_, by rw [HNEXT.out]; exact setRow_same (WB.below f4 b6), WB.row_far (WB.below f3 b6) (by omega), below_setRow hS hMK.out _⟩
          rw [HDROP.out]
          have e : (⟨ad.block, ad.off + 64, none⟩ : Addr) = ad.add (64 * Kd.u8.sz) := by rw [show 64 * Kd.u8.sz = 63 + 1 from rfl]; unfold Addr.add; simp
          rw [e]
          exact row_setRow Kd.flat_u8 (WB.below f4 b6) (by decide) (fun B => row_drop 64 (Kd.row_below b6 (f7 B))) B
        case measure => simp; omega
end Go.Proofs.YtcbfpdenjdgnlaaGreat
/- Words: octets as strings, strings as octets; package sha: Long, Short. No claim of its own; no condition. -/
namespace Go.Proofs.YtcbfpdenjdgnlaaGreat
open Go.ChangeShapes Go.WideShapes Go.ChangeAt Go.RowKit
set_option linter.unusedVariables false
set_option linter.unusedSimpArgs false
/-- A string's octets; the string of some octets. -/
def bl (s : ByteArray) : List UInt8 := s.data.toList
def sb (l : List UInt8) : ByteArray := ⟨l.toArray⟩
theorem bl_sb (l : List UInt8) : bl (sb l) = l := rfl
theorem sb_bl (s : ByteArray) : sb (bl s) = s := rfl
theorem bl_len (s : ByteArray) : (bl s).length = s.size := rfl
theorem sb_size (l : List UInt8) : (sb l).size = l.length := rfl
theorem bl_inj {s t : ByteArray} (h : bl s = bl t) : s = t := by rw [← sb_bl s, h, sb_bl]
theorem extract_sb (s : ByteArray) (i j : Nat) : s.extract i j = sb (((bl s).take j).drop i) := by
  apply bl_inj
  show (s.extract i j).data.toList = _
  rw [ByteArray.data_extract, Array.toList_extract]
  show List.extract _ _ _ = _
  rw [List.extract_eq_take_drop]
  show _ = ((bl s).take j).drop i
  rw [List.drop_take]
  rfl
section
variable {P : Program}
theorem wpList_convert {w : World} {ops : Array Oper} {rest : List Oper} {o : Oper} {a : Act} {Q : Exit → Act → World → Prop} (hgd : o.guard = none) (src dst : TypeId) (x : Operand) (ho : o.op = .convert src dst x) (v0 : Value) (hx : a.eval x = v0) (v : Value) (w' : World)
    (hrun : (convert src dst v0).run P w = .ok v w') (h : wpList P ops Q rest (a.put o.dst v) w') : wpList P ops Q (o :: rest) a w := by
  refine wpList_plain hgd fun _ hK => ?_
  unfold Oper.wp execOp
  simp only [ho, hx, Sem.run_bind, Sem.run_pure, hrun, Result.andThen_ok]
  exact hK _ _ h
theorem wp_convert {w : World} {o : Oper} {a : Act} {K : Act → World → Prop} {Q : Exit → Act → World → Prop} (src dst : TypeId) (x : Operand) (ho : o.op = .convert src dst x) (v0 : Value) (hx : a.eval x = v0) (v : Value) (w' : World)
    (hrun : (convert src dst v0).run P w = .ok v w') (h : K (a.put o.dst v) w') : Oper.wp P o a w K Q := by
  unfold Oper.wp execOp
  simp only [ho, hx, Sem.run_bind, Sem.run_pure, hrun, Result.andThen_ok]
  exact h
/-- 'string(b)'. -/
theorem run_str {e src dst B : Nat} {w : World} {A : Option Addr} {l : List UInt8} (hs : P.underlying src = some (.slice e)) (he : P.underlying e = some (.int .u8)) (hd : P.underlying dst = some .string) (h : Kd.u8.Row e B w A l) (c : Nat) :
    (convert src dst (.slice A l.length c)).run P w = .ok (.string (sb l)) w := by
  by_cases h0 : l = []
  · subst h0
    show (convert src dst (.slice A 0 c)).run P w = _
    rw [run_convert_bytes_string w src dst e A 0 c hs he hd]
    cases A <;> simp [Conv.bytesToString, loadCells]
    all_goals rfl
  · obtain ⟨ad, rfl, _, hx⟩ := h h0
    refine run_convert_bytes_back w src dst e ad c l hs he hd fun j hj => ?_
    obtain ⟨cs, hK, hc⟩ := hx j _ (List.getElem?_eq_getElem hj)
    obtain rfl : cs = [.int .u8 ((l[j]).toNat : Int)] := hK
    have := hc 0 _ rfl
    have e1 : Kd.u8.sz = 1 := rfl
    rw [e1] at this
    simpa using this
theorem oct_world (w : World) (e : TypeId) (s : ByteArray) : Below w.heap.size w (Lib.bytesWorld w e s) :=
  ⟨rfl, rfl, rfl, by rw [Lib.bytesWorld_size]; omega, fun k hk => Lib.bytesWorld_at_old w e s k hk⟩
theorem oct_row (w : World) (e : TypeId) (s : ByteArray) (B : Nat) : Kd.u8.Row e B (Lib.bytesWorld w e s) (some ⟨w.heap.size, 0, none⟩) (bl s) := by
  intro hne
  have hn := Lib.bytesWorld_at_new w e s
  refine ⟨_, rfl, ⟨blk_lt hn, .inr ⟨_, _, _, hn, List.mem_cons_self⟩⟩, fun i x hi => ⟨[.int .u8 (x.toNat : Int)], rfl, fun j u hu => ?_⟩⟩
  cases j with
  | succ j => cases hu
  | zero =>
    cases hu
    have hi' : i < s.size := by have := (List.getElem?_eq_some_iff.1 hi).1; exact this
    have hc := Lib.bytesWorld_cell w e s i hi'
    have e1 : Kd.u8.sz = 1 := rfl
    have e2 : (⟨w.heap.size, 0, none⟩ : Addr).add (i * Kd.u8.sz + 0) = ⟨w.heap.size, i, none⟩ := by rw [e1]; unfold Addr.add; split <;> simp_all
    rw [e2, hc]
    rw [List.getD_eq_getElem?_getD, show s.data.toList[i]? = some x from hi]
    rfl
/-- '[]byte(s)'. -/
theorem run_oct {e src dst : TypeId} (hs : P.underlying src = some .string) (hd : P.underlying dst = some (.slice e)) (he : P.underlying e = some (.int .u8)) (w : World) (s : ByteArray) (hl : s.size ≤ maxLen) :
    ∃ c, (convert src dst (.string s)).run P w = .ok (.slice (some ⟨w.heap.size, 0, none⟩) s.size c) (Lib.bytesWorld w e s) ∧ s.size ≤ c ∧ c ≤ maxLen :=
  ⟨_, Lib.run_convert_string_bytes w src dst e s hs hd he, grownCap_ge _ _ _ _, grownCap_le_maxLen _ _ _ _ hl⟩
end
theorem o4_len' (l : List UInt32) : (wordsB l).length = 4 * l.length := o4_len l
theorem shaB_len (b : List UInt8) : (shaB b).length = 32 := by
  unfold shaB
  rw [o4_len', shaS_len]
/-- The first eight octets of a text's sum, as a string. -/
def shS (l : List UInt8) : ByteArray := sb ((shaB l).take 8)
theorem shS_size (l : List UInt8) : (shS l).size = 8 := by
  unfold shS
  rw [sb_size, List.length_take, shaB_len]
  rfl
theorem shS_ext (l : List UInt8) : (sb (shaB l)).extract 0 8 = shS l := by rw [extract_sb, bl_sb]; rfl
set_option maxHeartbeats 1600000 in
set_option maxRecDepth 100000 in
theorem long_calls (xs : List (List UInt8)) (A : Option Addr) (n c : Nat) (w : World) (B : Nat) (hn : n = xs.length) (hl : xs.length ≤ 1048576) (ht : xs.flatten.length ≤ 1048576) (hr : kBB.Row 60 B w A xs) :
    Calls Tryz.prog 125 #[.slice A n c] w fun e w' => e = .returned (.string (sb (shaB xs.flatten))) ∧ Below w.heap.size w w' := by
  subst hn
  obtain ⟨F, hF⟩ : ∃ F, xs.flatten = F := ⟨_, rfl⟩
  have hj := fun W => join_calls xs A xs.length c W B rfl hl (by omega)
  rw [hF] at ht
  simp only [hF] at hj ⊢
  have HJ := Lib.hid hj
  clear hj hF
  go_enter Tryz.func125, Tryz.ntmps125
  go_wp2_with (first
    | (go_at_call 191; refine (HJ.out _ hr).mono ?_; rintro e w1 ⟨⟨v1, rfl, own1⟩, b1⟩; obtain ⟨A1, c1, rfl, l1, m1, r1, _⟩ := Kd.own_row own1)
    | (go_at_call 190; refine (shasum_calls F A1 _ c1 _ _ rfl ht l1 m1 r1).mono ?_; rintro e w2 ⟨⟨v2, rfl, own2⟩, b2⟩; obtain ⟨A2, c2, rfl, l2, m2, r2, _⟩ := Kd.own_row own2)
    | (refine wpList_convert rfl 60 9 (.tmp 5) rfl _ rfl _ _ (run_str Tryz.underlying60 Tryz.underlying5 Tryz.underlying9 r2 c2) ?_))
  go_ret
  exact ⟨rfl, bl_trans b1 b2⟩
set_option maxHeartbeats 1600000 in
set_option maxRecDepth 100000 in
theorem short_calls (xs : List (List UInt8)) (A : Option Addr) (n c : Nat) (w : World) (B : Nat) (hn : n = xs.length) (hl : xs.length ≤ 1048576) (ht : xs.flatten.length ≤ 1048576) (hr : kBB.Row 60 B w A xs) :
    Calls Tryz.prog 262 #[.slice A n c] w fun e w' => e = .returned (.string (shS xs.flatten)) ∧ Below w.heap.size w w' := by
  subst hn
  have hL := long_calls xs A xs.length c w B rfl hl ht hr
  obtain ⟨S, hS⟩ : ∃ S, sb (shaB xs.flatten) = S := ⟨_, rfl⟩
  have hz : (8 : Int) ≤ (S.size : Int) := by rw [← hS, sb_size, shaB_len]; omega
  have hz2 : 8 ≤ S.size := by omega
  have hx : S.extract 0 8 = shS xs.flatten := by rw [← hS]; exact shS_ext _
  rw [hS] at hL
  have HL := Lib.hid hL
  have HX := Lib.hid hx
  clear hL hx hS
  go_enter Tryz.func262, Tryz.ntmps262
  go_wp2_with ((go_at_call 125; refine (HL.out).mono ?_; rintro e w1 ⟨rfl, b1⟩))
  go_ret
  exact ⟨by rw [HX.out]; rfl, b1⟩
end Go.Proofs.YtcbfpdenjdgnlaaGreat
