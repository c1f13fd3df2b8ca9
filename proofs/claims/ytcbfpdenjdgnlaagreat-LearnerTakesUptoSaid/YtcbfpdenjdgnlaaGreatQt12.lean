/- Words: a string appended to octets; package wots: ended. No claim of its own; no condition. -/
import Derived.Test.YtcbfpdenjdgnlaaGreatQt11
import Derived.Lib.AppendStr
namespace Go.Proofs.YtcbfpdenjdgnlaaGreat
open Go.ChangeShapes Go.WideShapes Go.ChangeAt Go.RowKit
set_option linter.unusedVariables false
set_option linter.unusedSimpArgs false
section
variable {P : Program}
theorem str_reps {B : Nat} {w : World} : ∀ l : List UInt8, Kd.Reps Kd.u8 B w l (l.map fun b => Value.int .u8 (b.toNat : Int))
  | [] => .nil
  | x :: l => .cons (show Kd.u8.K _ _ _ [_] from rfl) (str_reps l)
theorem run_append_str (w : World) (B base : Nat) (t u ty e : TypeId) (i : TypeInfo) (ht : P.underlying t = some (.slice e)) (hu : P.underlying u = some .string) (hi : P.info? e = some i) (hz : i.zero = some (.int .u8 0))
    (hsize : i.size = 1) (hby : i.bytes = 1) (v : Value) (xs : List UInt8) (hown : Kd.u8.Own e B w base v xs) (s : ByteArray) (hlen : xs.length + s.size ≤ 4194304) (hbase : base ≤ w.heap.size) (hB : B ≤ base) :
    ∃ v' w', (Builtin.append_ #[t, u] ty #[v, .string s]).run P w = .ok v' w' ∧ Kd.u8.Own e B w' base v' (xs ++ bl s) ∧ w.grownBy w' v.ownBlock := by
  have hob := Kd.own_block hown
  obtain ⟨cs, ho, hR⟩ := hown
  obtain ⟨v', w', h1, h2, h3, _⟩ := Lib.run_append_own_string (P := P) w base t u ty e i ht hu hi hz hsize hby v xs.length cs ho s (by unfold maxLen; omega) (by omega) hbase
  have hS : Kd.Reps Kd.u8 B w (bl s) (Lib.strCells s) := by
    have : Lib.strCells s = (bl s).map fun b => Value.int .u8 (b.toNat : Int) := by simp [Lib.strCells, bl]
    rw [this]
    exact str_reps _
  exact ⟨v', w', h1, Kd.own_append hR hS h2 h3 rfl hob hB (by simp [Kd.u8]), h3⟩
theorem wpList_append_str {w : World} {ops : Array Oper} {rest : List Oper} {o : Oper} {a : Act} {Q : Exit → Act → World → Prop} (hgd : o.guard = none) (sl x : Operand) (t u : TypeId)
    (ho : o.op = .call { callee := .builtin .append, args := #[sl, x], argTypes := #[t, u] }) (B base : Nat) (e : TypeId) (i : TypeInfo) (ht : P.underlying t = some (.slice e)) (hu : P.underlying u = some .string) (hi : P.info? e = some i) (hz : i.zero = some (.int .u8 0))
    (hsize : i.size = 1) (hby : i.bytes = 1) (v : Value) (xs : List UInt8) (hs : a.eval sl = v) (hown : Kd.u8.Own e B w base v xs) (s : ByteArray) (hx : a.eval x = .string s) (hlen : xs.length + s.size ≤ 4194304) (hbase : base ≤ w.heap.size) (hB : B ≤ base)
    (h : ∀ v' w', Kd.u8.Own e B w' base v' (xs ++ bl s) → w.grownBy w' v.ownBlock → wpList P ops Q rest (a.put o.dst v') w') : wpList P ops Q (o :: rest) a w := by
  refine wpList_plain hgd fun _ hK => ?_
  obtain ⟨v', w', hrun, h2, h3⟩ := run_append_str (P := P) w B base t u o.type e i ht hu hi hz hsize hby v xs hown s hlen hbase hB
  unfold Oper.wp execOp
  simp only [ho, resolve, invoke, builtin, Sem.run_bind, Sem.run_pure, Result.andThen_ok, List.map_toArray, List.map_cons, List.map_nil, hs, hx, hrun]
  exact hK _ _ (h v' w' h2 h3)
theorem wp_append_str {w : World} {o : Oper} {a : Act} {K : Act → World → Prop} {Q : Exit → Act → World → Prop} (sl x : Operand) (t u : TypeId)
    (ho : o.op = .call { callee := .builtin .append, args := #[sl, x], argTypes := #[t, u] }) (B base : Nat) (e : TypeId) (i : TypeInfo) (ht : P.underlying t = some (.slice e)) (hu : P.underlying u = some .string) (hi : P.info? e = some i) (hz : i.zero = some (.int .u8 0))
    (hsize : i.size = 1) (hby : i.bytes = 1) (v : Value) (xs : List UInt8) (hs : a.eval sl = v) (hown : Kd.u8.Own e B w base v xs) (s : ByteArray) (hx : a.eval x = .string s) (hlen : xs.length + s.size ≤ 4194304) (hbase : base ≤ w.heap.size) (hB : B ≤ base)
    (h : ∀ v' w', Kd.u8.Own e B w' base v' (xs ++ bl s) → w.grownBy w' v.ownBlock → K (a.put o.dst v') w') : Oper.wp P o a w K Q := by
  obtain ⟨v', w', hrun, h2, h3⟩ := run_append_str (P := P) w B base t u o.type e i ht hu hi hz hsize hby v xs hown s hlen hbase hB
  unfold Oper.wp execOp
  simp only [ho, resolve, invoke, builtin, Sem.run_bind, Sem.run_pure, Result.andThen_ok, List.map_toArray, List.map_cons, List.map_nil, hs, hx, hrun]
  exact h v' w' h2 h3
end
theorem str_at {e : TypeId} {B : Nat} {w : World} {A : Option Addr} {xs : List ByteArray} (h : Kd.str.Row e B w A xs) {i : Nat} {x : ByteArray} (hx : xs[i]? = some x) : ∃ ad, A = some ad ∧ w.cell? (ad.add i) = some (.string x) := by
  obtain ⟨ad, cs, h1, _, ⟨rfl, hI⟩, hc⟩ := Kd.row_at h hx
  refine ⟨ad, h1, ?_⟩
  have := hc 0 _ rfl
  have e1 : Kd.str.sz = 1 := rfl
  rw [e1] at this
  simpa using this
theorem flatm_take {α β : Type} (f : α → List β) {xs : List α} {k : Nat} {x : α} (h : xs[k]? = some x) : (xs.take (k + 1)).flatMap f = (xs.take k).flatMap f ++ f x := by
  rw [List.take_add_one, h]; simp
theorem flatm_le {α β : Type} (f : α → List β) (xs : List α) (k : Nat) : ((xs.take k).flatMap f).length ≤ (xs.flatMap f).length := by
  have h : xs.flatMap f = (xs.take k).flatMap f ++ (xs.drop k).flatMap f := by rw [← List.flatMap_append, List.take_append_drop]
  rw [h, List.length_append]; omega
set_option maxHeartbeats 3200000 in
set_option maxRecDepth 100000 in
theorem ended_calls (l : List ByteArray) (A : Option Addr) (n c : Nat) (w : World) (B : Nat) (hn : n = l.length) (hl : l.length ≤ 1048576) (ht : (l.flatMap bl).length ≤ 1048576) (hr : Kd.str.Row 9 B w A l) :
    Calls Tryz.prog 265 #[.slice A n c] w fun e w' => e = .returned (.string (shS (l.flatMap bl))) ∧ Below w.heap.size w w' := by
  subst hn
  obtain ⟨i0, hi, hz0, hz1, hz2⟩ := info_parts info_u8
  go_enter Tryz.func265, Tryz.ntmps265
  go_wp2_with fail
  have own0 : Kd.u8.Own 5 w.heap.size w w.heap.size (.slice none 0 0) ((l.take 0).flatMap bl) := Kd.own_nil _ _ _ _ _
  go_loopw [3, 8] (fun ov kv w' => ∃ k : Nat, k ≤ l.length ∧ kv = .int .i64 k ∧ Kd.u8.Own 5 w.heap.size w' w.heap.size ov ((l.take k).flatMap bl) ∧ Below w.heap.size w w') (fun _ kv _ => l.length - (intOf kv).toNat)
  case atStart => exact ⟨0, by omega, rfl, own0, Below.refl _ _⟩
  case round =>
    clear own0
    obtain ⟨k, hk, rfl, own, bel⟩ := hrel
    by_cases h : k < l.length
    · obtain ⟨x, hx⟩ : ∃ x, l[k]? = some x := ⟨_, List.getElem?_eq_getElem h⟩
      obtain ⟨ad, rfl, c0⟩ := str_at (Kd.row_below bel hr) hx
      have hs := flatm_take bl hx
      have hle := flatm_le bl l (k + 1)
      rw [hs, List.length_append, bl_len] at hle
      obtain ⟨T, hT⟩ : ∃ T, (l.take k).flatMap bl = T := ⟨_, rfl⟩
      rw [hT] at hs hle own
      have hkI : (k : Int) < (l.length : Int) := by omega
      have HT := Lib.hid hs
      have hle2 : T.length + x.size ≤ 1048576 := by omega
      clear hs hT hx hle
      obtain ⟨Ao, co, rfl, _, _, _, _⟩ := Kd.own_row own
      go_wp2_with ((at_builtin; refine wpList_append_str rfl (.tmp 12) (.tmp 13) 60 9 rfl w.heap.size w.heap.size 5 i0 Tryz.underlying60 Tryz.underlying9 hi hz0 hz1 hz2 _ T rfl own x rfl (by omega) bel.size (Nat.le_refl _) ?_; intro v4 w4 own4 grw4; have bel4 := Kd.own_step bel own grw4))
      go_roundw
      case rel => exact ⟨k + 1, by omega, by go_num, (by rw [HT.out]; exact own4), bel4⟩
      case measure => simp [intOf]; omega
    · have hk' : k = l.length := by omega
      subst hk'
      have hnI : ¬ ((l.length : Int) < (l.length : Int)) := by omega
      rw [List.take_of_length_le (Nat.le_refl _)] at own
      obtain ⟨T, hT⟩ : ∃ T, l.flatMap bl = T := ⟨_, rfl⟩
      rw [hT] at own ht
      have HT := Lib.hid hT
      clear hT
      obtain ⟨Ao, co, rfl, l1, m1, _, _⟩ := Kd.own_row own
      have rT := (own_rows Kd.flat_u8 own 0)
      go_wp2_with ((go_at_call 262; refine (short1 T Ao _ co _ rfl ht l1 m1 rT).mono ?_; rintro e w4 ⟨rfl, b4⟩))
      go_ret
      exact ⟨by rw [HT.out]; rfl, bl_trans bel b4⟩
end Go.Proofs.YtcbfpdenjdgnlaaGreat
/- Package wots: Open. No claim of its own; no condition. -/
namespace Go.Proofs.YtcbfpdenjdgnlaaGreat
open Go.ChangeShapes Go.WideShapes Go.ChangeAt Go.RowKit
set_option linter.unusedVariables false
set_option linter.unusedSimpArgs false
/-- Each part, turned on to its chain's end. -/
def chs (ps : List ByteArray) (ds : List Int) : List ByteArray := List.zipWith (fun p d => chF p (3 - d).toNat) ps ds
theorem chs_len (ps : List ByteArray) (ds : List Int) : (chs ps ds).length = min ps.length ds.length := by simp [chs]
theorem chs_get {ps : List ByteArray} {ds : List Int} {i : Nat} {p : ByteArray} {d : Int} (hp : ps[i]? = some p) (hd : ds[i]? = some d) : (chs ps ds)[i]? = some (chF p (3 - d).toNat) := by
  unfold chs
  rw [List.getElem?_zipWith, hp, hd]
theorem partsL_len (t : List UInt8) : (partsL t).length = 11 := by unfold partsL; rw [List.length_append, digF_len, digF_len]
theorem partsL_bd (t : List UInt8) : ∀ x ∈ partsL t, 0 ≤ x ∧ x ≤ 3 := by
  intro x hx
  rcases List.mem_append.1 hx with h | h
  · exact digF_bd _ _ x h
  · exact digF_bd _ _ x h
theorem flat8 {l : List ByteArray} (h : ∀ x ∈ l, x.size = 8) : (l.flatMap bl).length = 8 * l.length := by
  induction l with
  | nil => rfl
  | cons x l ih =>
    rw [List.flatMap_cons, List.length_append, ih fun y hy => h y (by simp [hy]), bl_len, h x (by simp), List.length_cons]
    omega
theorem chs_eight {ps : List ByteArray} {ds : List Int} (h : ∀ x ∈ ps, x.size = 8) : ∀ x ∈ chs ps ds, x.size = 8 := by
  intro x hx
  obtain ⟨i, hi⟩ := List.mem_iff_getElem?.1 hx
  unfold chs at hi
  rw [List.getElem?_zipWith] at hi
  split at hi
  · rename_i p d hp hd
    cases hi
    exact chF_eight (h p (List.mem_of_getElem? hp)) _
  · cases hi
/-- A text's leaf out of a signature's parts. -/
def openF (t : List UInt8) (ps : List ByteArray) : ByteArray := shS ((chs ps (partsL t)).flatMap bl)
theorem openF_size (t : List UInt8) (ps : List ByteArray) : (openF t ps).size = 8 := shS_size _
theorem info_str : (Tryz.prog.info? 9).map (fun i => (i.zero, i.size, i.bytes)) = some (some (.string ⟨#[]⟩), 1, 16) := by kernel_rfl
set_option maxHeartbeats 3200000 in
set_option maxRecDepth 100000 in
theorem open_calls (t : List UInt8) (ps : List ByteArray) (A A' : Option Addr) (n n' c c' : Nat) (w : World) (B B' : Nat) (hn : n = t.length) (hl : t.length ≤ 1048576) (hc : t.length ≤ c) (hm : c ≤ maxLen) (hr : Kd.u8.Row 5 B w A t)
    (hn' : n' = 11) (hp : ps.length = 11) (h8 : ∀ x ∈ ps, x.size = 8) (hr' : Kd.str.Row 9 B' w A' ps) :
    Calls Tryz.prog 233 #[.slice A n c, .slice A' n' c'] w fun e w' => e = .returned (.string (openF t ps)) ∧ Below w.heap.size w w' := by
  subst hn hn'
  obtain ⟨i0, hi, hz0, hz1, hz2⟩ := info_parts info_str
  obtain ⟨D, hD⟩ : ∃ D, partsL t = D := ⟨_, rfl⟩
  have hDl : D.length = 11 := by rw [← hD]; exact partsL_len t
  have hDb : ∀ x ∈ D, 0 ≤ x ∧ x ≤ 3 := by rw [← hD]; exact partsL_bd t
  obtain ⟨C, hC⟩ : ∃ C, chs ps D = C := ⟨_, rfl⟩
  have hCl : C.length = 11 := by rw [← hC, chs_len, hp, hDl]; rfl
  have hC8 : ∀ x ∈ C, x.size = 8 := by rw [← hC]; exact chs_eight h8
  have hCg : ∀ (i : Nat) (p : ByteArray) (d : Int), ps[i]? = some p → D[i]? = some d → C[i]? = some (chF p (3 - d).toNat) := fun i p d h1 h2 => by rw [← hC]; exact chs_get h1 h2
  have hfin : openF t ps = shS (C.flatMap bl) := by unfold openF; rw [hD, hC]
  have hpart := parts_calls t A t.length c w B rfl hl hc hm hr
  rw [hD] at hpart
  have HPART := Lib.hid hpart
  have HDL := Lib.hid hDl
  have HDB := Lib.hid hDb
  have HCL := Lib.hid hCl
  have HC8 := Lib.hid hC8
  have HCG := Lib.hid hCg
  have HF := Lib.hid hfin
  have H8 := Lib.hid h8
  have HPL := Lib.hid hp
  have hD11 : D.length ≤ 11 := by omega
  clear hD hDl hDb hC hCl hC8 hCg hfin hpart h8 hp hr hm
  go_enter Tryz.func233, Tryz.ntmps233
  go_wp2_with ((go_at_call 263; refine (HPART.out).mono ?_; rintro e w1 ⟨⟨v1, rfl, own1⟩, b1⟩; obtain ⟨A1, c1, rfl, _, _, r1, _⟩ := Kd.own_row own1))
  have own0 : Kd.str.Own 9 w1.heap.size w1 w1.heap.size (.slice none 0 0) (C.take 0) := Kd.own_nil _ _ _ _ _
  clear own1
  go_loopw [5, 14] (fun ov kv w' => ∃ k : Nat, k ≤ D.length ∧ kv = .int .i64 k ∧ Kd.str.Own 9 w1.heap.size w' w1.heap.size ov (C.take k) ∧ Below w1.heap.size w1 w') (fun _ kv _ => D.length - (intOf kv).toNat)
  case atStart => exact ⟨0, by omega, rfl, own0, Below.refl _ _⟩
  case round =>
    clear own0
    obtain ⟨k, hk, rfl, own, bel⟩ := hrel
    have bel2 : Below w.heap.size w wr := bl_trans b1 bel
    by_cases h : k < D.length
    · obtain ⟨d, hd⟩ : ∃ x, D[k]? = some x := ⟨_, List.getElem?_eq_getElem h⟩
      obtain ⟨x, hx⟩ : ∃ x, ps[k]? = some x := ⟨_, List.getElem?_eq_getElem (by rw [HPL.out]; omega)⟩
      obtain ⟨ad, rfl, c0, _⟩ := int_at (Kd.row_below bel r1) hd
      obtain ⟨ae, rfl, e0⟩ := str_at (Kd.row_below bel2 hr') hx
      have hdb := HDB.out d (List.mem_of_getElem? hd)
      have hx8 := H8.out x (List.mem_of_getElem? hx)
      have hxb : ((x.size : Int) != 8) = false := by rw [hx8]; rfl
      have hCk := HCG.out k x d hx hd
      obtain ⟨m, hm⟩ : ∃ m : Nat, (3 - d) = (m : Int) := ⟨(3 - d).toNat, by omega⟩
      rw [hm, Int.toNat_natCast] at hCk
      have hs : C.take (k + 1) = C.take k ++ [chF x m] := by rw [List.take_add_one, hCk]; rfl
      have hm3 : m ≤ 3 := by omega
      have hy8 : (chF x m).size ≤ 140737488351232 := by rw [chF_eight hx8]; omega
      have hch := fun W => chain_calls x m W hm3 (by omega)
      obtain ⟨Y, hY⟩ : ∃ Y, chF x m = Y := ⟨_, rfl⟩
      rw [hY] at hs hy8 hch
      have hlo : (C.take k).length ≤ 11 := by rw [List.length_take, HCL.out]; omega
      obtain ⟨T, hT⟩ : ∃ T, C.take k = T := ⟨_, rfl⟩
      rw [hT] at hs hlo own
      have HT := Lib.hid hs
      have HCH := Lib.hid hch
      have HY := Lib.hid hy8
      have hkI : (k : Int) < (D.length : Int) := by omega
      have hk11 : (k : Int) < 11 := by omega
      clear hs hT hx hd hx8 hCk hY hch hy8 hdb
      obtain ⟨Ao, co, rfl, _, _, _, _⟩ := Kd.own_row own
      go_wp2_with (first
        | (go_at_call 264; refine (HCH.out _).mono ?_; rintro e w3 ⟨rfl, b3⟩; have al := bl_alloc (Below.refl w3.heap.size w3) (.cells #[.string Y] 9); have ownA := Kd.own_below (Kd.own_below own b3) al; have belA := bl_trans (bl_trans bel b3) al; have row1 : Kd.str.Row 9 w1.heap.size (w3.alloc (.cells #[.string Y] 9)) (some ⟨w3.heap.size, 0, none⟩) [Y] := Kd.row_fresh1 (show Kd.str.K _ _ _ [_] from ⟨rfl, HY.out⟩))
        | (at_builtin; refine wpList_append_row _ rfl (.tmp 25) (.tmp 33) 22 rfl Kd.str w1.heap.size w1.heap.size 9 i0 _ 16 Tryz.underlying22 hi hz0 hz1 hz2 rfl (by decide) _ T rfl ownA _ _ _ [Y] rfl rfl row1 (by simp only [List.length_cons, List.length_nil]; omega) (by decide) belA.size (Nat.le_refl _) (by decide) ?_; intro v4 w4 own4 grw4 at4; have bel4 := Kd.own_step belA ownA grw4))
      go_roundw
      case rel => exact ⟨k + 1, by omega, by go_num, (by rw [HT.out]; exact own4), bel4⟩
      case measure => simp [intOf]; omega
    · have hk' : k = D.length := by omega
      subst hk'
      have hnI : ¬ ((D.length : Int) < (D.length : Int)) := by omega
      rw [List.take_of_length_le (by rw [HCL.out, HDL.out]; omega)] at own
      have hfl : (C.flatMap bl).length ≤ 1048576 := by rw [flat8 HC8.out, HCL.out]; omega
      have hend : ∀ (W : World) (Ao : Option Addr) (co : Nat), Kd.str.Row 9 w1.heap.size W Ao C → Calls Tryz.prog 265 #[.slice Ao C.length co] W fun e w' => e = .returned (.string (openF t ps)) ∧ Below W.heap.size W w' := fun W Ao co h => by
        rw [HF.out]
        exact ended_calls C Ao C.length co W _ rfl (by rw [HCL.out]; omega) hfl h
      have HEND := Lib.hid hend
      clear hend hfl
      obtain ⟨Ao, co, rfl, _, _, rO, _⟩ := Kd.own_row own
      go_wp2_with ((go_at_call 265; refine (HEND.out _ Ao co rO).mono ?_; rintro e w5 ⟨rfl, b5⟩))
      go_ret
      exact ⟨rfl, bl_trans bel2 b5⟩
end Go.Proofs.YtcbfpdenjdgnlaaGreat
/- Package merkle: Climb; package signer: Size, texts. No claim of its own; no condition. -/
namespace Go.Proofs.YtcbfpdenjdgnlaaGreat
open Go.ChangeShapes Go.WideShapes Go.ChangeAt Go.RowKit
set_option linter.unusedVariables false
set_option linter.unusedSimpArgs false
theorem and1 (m : Nat) (h : m < 9223372036854775808) : bits .and .i64 (m : Int) 1 = ((m % 2 : Nat) : Int) := by
  have hx : m &&& 1 = m % 2 := Nat.and_two_pow_sub_one_eq_mod m 1
  have ho : ∀ a : Nat, a < 9223372036854775808 → (BitVec.ofInt 64 (a : Int)).toNat = a := fun a ha => by
    rw [BitVec.ofInt_natCast, BitVec.toNat_ofNat]; exact Nat.mod_eq_of_lt (by omega)
  show IntKind.i64.wrap ((BitVec.ofInt 64 (m : Int) &&& BitVec.ofInt 64 ((1 : Nat) : Int)).toNat : Int) = _
  rw [BitVec.toNat_and, ho m h, ho 1 (by omega), hx, IntKind.wrap_i64]
  omega
def stepC (st : ByteArray × Nat) (s : ByteArray) : ByteArray × Nat := (shS (if st.2 % 2 = 1 then bl s ++ bl st.1 else bl st.1 ++ bl s), st.2 / 2)
/-- A root out of a leaf and its path. -/
def climbS (leaf : ByteArray) (at_ : Nat) (path : List ByteArray) : ByteArray × Nat := path.foldl stepC (leaf, at_)
def climbF (leaf : ByteArray) (at_ : Nat) (path : List ByteArray) : ByteArray := (climbS leaf at_ path).1
theorem climbS_take (leaf : ByteArray) (at_ : Nat) {path : List ByteArray} {k : Nat} {s : ByteArray} (h : path[k]? = some s) : climbS leaf at_ (path.take (k + 1)) = stepC (climbS leaf at_ (path.take k)) s := by
  unfold climbS
  rw [List.take_add_one, h, List.foldl_append]
  rfl
theorem climbS_bd (leaf : ByteArray) (at_ : Nat) (h : leaf.size ≤ 4096) : ∀ path, (climbS leaf at_ path).1.size ≤ 4096 ∧ (climbS leaf at_ path).2 ≤ at_ := by
  have key : ∀ (path : List ByteArray) (st : ByteArray × Nat), st.1.size ≤ 4096 → (path.foldl stepC st).1.size ≤ 4096 ∧ (path.foldl stepC st).2 ≤ st.2 := by
    intro path
    induction path with
    | nil => intro st hs; exact ⟨hs, Nat.le_refl _⟩
    | cons s path ih =>
      intro st hs
      have h1 := ih (stepC st s) (by show (shS _).size ≤ _; rw [shS_size]; omega)
      exact ⟨h1.1, Nat.le_trans h1.2 (Nat.div_le_self _ _)⟩
  intro path
  exact key path (leaf, at_) h
set_option maxHeartbeats 3200000 in
set_option maxRecDepth 100000 in
theorem climb_calls (leaf : ByteArray) (a : Nat) (path : List ByteArray) (A : Option Addr) (n c : Nat) (w : World) (B : Nat) (hn : n = path.length) (hl : path.length ≤ 1048576) (hz : leaf.size ≤ 4096) (ha : a ≤ 65536) (hp : ∀ x ∈ path, x.size ≤ 4096) (hr : Kd.str.Row 9 B w A path) :
    Calls Tryz.prog 232 #[.string leaf, .int .i64 (a : Int), .slice A n c] w fun e w' => e = .returned (.string (climbF leaf a path)) ∧ Below w.heap.size w w' := by
  subst hn
  have hmx : ∀ w : World, (Builtin.max_ #[3, 3] 3 #[.int .i64 (a : Int), .int .i64 0]).run Tryz.prog w = .ok (.int .i64 (a : Int)) w := fun w => by rw [run_max2, Int.max_eq_left (by omega)]
  have HP := Lib.hid hp
  clear hp
  go_enter Tryz.func232, Tryz.ntmps232
  go_wp2_with fail
  clear hmx
  go_loopw [0, 1, 15] (fun sv av kv w' => ∃ k : Nat, k ≤ path.length ∧ kv = .int .i64 k ∧ sv = .string (climbS leaf a (path.take k)).1 ∧ av = .int .i64 ((climbS leaf a (path.take k)).2 : Nat) ∧ Below w.heap.size w w') (fun _ _ kv _ => path.length - (intOf kv).toNat)
  case atStart => exact ⟨0, by omega, rfl, rfl, rfl, Below.refl _ _⟩
  case round =>
    obtain ⟨k, hk, rfl, rfl, rfl, bel⟩ := hrel
    by_cases h : k < path.length
    · obtain ⟨x, hx⟩ : ∃ x, path[k]? = some x := ⟨_, List.getElem?_eq_getElem h⟩
      obtain ⟨ad, rfl, c0⟩ := str_at (Kd.row_below bel hr) hx
      have hx4 := HP.out x (List.mem_of_getElem? hx)
      have hnx := climbS_take leaf a hx
      have hbd := climbS_bd leaf a hz (path.take k)
      obtain ⟨st, hst⟩ : ∃ st, climbS leaf a (path.take k) = st := ⟨_, rfl⟩
      rw [hst] at hnx hbd
      simp only [hst]
      obtain ⟨S, b⟩ := st
      obtain ⟨hb1, hb2⟩ := hbd
      dsimp only at hb1 hb2 ⊢
      have hkI : (k : Int) < (path.length : Int) := by omega
      have hb3 : b ≤ 65536 := by omega
      obtain ⟨h2, hh2⟩ : ∃ h2, b / 2 = h2 := ⟨_, rfl⟩
      have hd2 : (b : Int) / 2 = (h2 : Int) := by omega
      have hand := and1 b (by omega)
      have lS : (bl S).length ≤ 4096 := hb1
      have lx : (bl x).length ≤ 4096 := hx4
      by_cases hodd : b % 2 = 1
      · rw [hodd] at hand
        have hnx2 : climbS leaf a (path.take (k + 1)) = (shS (bl x ++ bl S), h2) := by rw [hnx]; unfold stepC; rw [if_pos hodd, hh2]
        have HN := Lib.hid hnx2
        clear hnx hnx2 hst hx hodd hb2 hh2
        go_wp2_with (first
          | (obtain ⟨c1, W1, hrun1, l1, m1, bw1, rw1⟩ := oct_law Tryz.underlying9 Tryz.underlying60 Tryz.underlying5 wr x (by omega); refine wpList_convert rfl 9 60 (.tmp 26) rfl _ rfl _ _ hrun1 ?_)
          | (obtain ⟨c2, W2, hrun2, l2, m2, bw2, rw2⟩ := oct_law Tryz.underlying9 Tryz.underlying60 Tryz.underlying5 W1 S (by omega); refine wpList_convert rfl 9 60 (.tmp 28) rfl _ rfl _ _ hrun2 ?_)
          | (go_at_call 262; refine (short2 (bl x) (bl S) _ _ _ _ c1 c2 W2 rfl rfl lx lS l1 m1 (Kd.row_below bw2 (rw1 0)) l2 m2 (rw2 0)).mono ?_; rintro e w3 ⟨rfl, b3⟩))
        go_roundw
        case rel => exact ⟨k + 1, by omega, by go_num, by rw [HN.out], by rw [HN.out], bl_trans (bl_trans (bl_trans bel bw1) bw2) b3⟩
        case measure => simp [intOf]; omega
      · have hev : b % 2 = 0 := by omega
        rw [hev] at hand
        have hnx2 : climbS leaf a (path.take (k + 1)) = (shS (bl S ++ bl x), h2) := by rw [hnx]; unfold stepC; rw [if_neg hodd, hh2]
        have HN := Lib.hid hnx2
        clear hnx hnx2 hst hx hodd hev hb2 hh2
        go_wp2_with (first
          | (obtain ⟨c1, W1, hrun1, l1, m1, bw1, rw1⟩ := oct_law Tryz.underlying9 Tryz.underlying60 Tryz.underlying5 wr S (by omega); refine wpList_convert rfl 9 60 (.tmp 26) rfl _ rfl _ _ hrun1 ?_)
          | (obtain ⟨c2, W2, hrun2, l2, m2, bw2, rw2⟩ := oct_law Tryz.underlying9 Tryz.underlying60 Tryz.underlying5 W1 x (by omega); refine wpList_convert rfl 9 60 (.tmp 28) rfl _ rfl _ _ hrun2 ?_)
          | (go_at_call 262; refine (short2 (bl S) (bl x) _ _ _ _ c1 c2 W2 rfl rfl lS lx l1 m1 (Kd.row_below bw2 (rw1 0)) l2 m2 (rw2 0)).mono ?_; rintro e w3 ⟨rfl, b3⟩))
        go_roundw
        case rel => exact ⟨k + 1, by omega, by go_num, by rw [HN.out], by rw [HN.out], bl_trans (bl_trans (bl_trans bel bw1) bw2) b3⟩
        case measure => simp [intOf]; omega
    · have hk' : k = path.length := by omega
      subst hk'
      have hnI : ¬ ((path.length : Int) < (path.length : Int)) := by omega
      rw [List.take_of_length_le (Nat.le_refl _)]
      obtain ⟨S, hS⟩ : ∃ S, (climbS leaf a path).1 = S := ⟨_, rfl⟩
      obtain ⟨S2, hS2⟩ : ∃ S, (climbS leaf a path).2 = S := ⟨_, rfl⟩
      have HF : Hid (climbF leaf a path = S) := Lib.hid hS
      simp only [hS, hS2]
      clear hS hS2
      go_wp2_with fail
      go_ret
      exact ⟨by rw [HF.out]; rfl, bel⟩
end Go.Proofs.YtcbfpdenjdgnlaaGreat
/- Package signer: Size, texts. No claim of its own; no condition. -/
namespace Go.Proofs.YtcbfpdenjdgnlaaGreat
open Go.ChangeShapes Go.WideShapes Go.ChangeAt Go.RowKit
set_option linter.unusedVariables false
set_option linter.unusedSimpArgs false
theorem size_calls (h : Nat) (w : World) (hh : h ≤ 4) : Calls Tryz.prog 230 #[.int .i64 (h : Int)] w fun e w' => e = .returned (.int .i64 (90 + 8 * (h : Int))) ∧ w = w' := by
  have h0 : ¬ ((h : Int) < 0) := by omega
  have h4 : ¬ ((h : Int) > 4) := by omega
  go_enter Tryz.func230, Tryz.ntmps230
  go_wp2_with fail
  go_ret
  exact ⟨ret_int (by omega), rfl⟩
/-- Pieces of eight octets, so many. -/
def pcs (l : List UInt8) (m : Nat) : List ByteArray := (List.range m).map fun i => sb ((l.drop (8 * i)).take 8)
theorem pcs_len (l : List UInt8) (m : Nat) : (pcs l m).length = m := by simp [pcs]
theorem pcs_get (l : List UInt8) {m i : Nat} (h : i < m) : (pcs l m)[i]? = some (sb ((l.drop (8 * i)).take 8)) := by
  unfold pcs
  rw [List.getElem?_map, List.getElem?_range h]
  rfl
theorem pcs_eight {l : List UInt8} {m : Nat} (h : l.length = 8 * m) : ∀ x ∈ pcs l m, x.size = 8 := by
  intro x hx
  obtain ⟨i, hi, rfl⟩ := List.mem_map.1 hx
  rw [sb_size, List.length_take, List.length_drop, h]
  have := List.mem_range.1 hi
  omega
set_option maxHeartbeats 3200000 in
set_option maxRecDepth 100000 in
theorem texts_calls (s : ByteArray) (m : Nat) (w : World) (hs : s.size = 8 * m) (hm : m ≤ 64) :
    Calls Tryz.prog 231 #[.string s] w fun e w' => (∃ v, e = .returned v ∧ Kd.str.Own 9 w.heap.size w' w.heap.size v (pcs (bl s) m)) ∧ Below w.heap.size w w' := by
  obtain ⟨i0, hi, hz0, hz1, hz2⟩ := info_parts info_str
  obtain ⟨l, hl⟩ : ∃ l, bl s = l := ⟨_, rfl⟩
  have hll : l.length = 8 * m := by rw [← hl]; exact hs
  obtain ⟨C, hC⟩ : ∃ C, pcs l m = C := ⟨_, rfl⟩
  have hCl : C.length = m := by rw [← hC]; exact pcs_len l m
  have hCg : ∀ i, i < m → C[i]? = some (sb ((l.drop (8 * i)).take 8)) := fun i h => by rw [← hC]; exact pcs_get l h
  rw [hl, hC]
  have HLL := Lib.hid hll
  have HCL := Lib.hid hCl
  have HCG := Lib.hid hCg
  have HS := Lib.hid hl
  clear hs hl hll hC hCl hCg
  go_enter Tryz.func231, Tryz.ntmps231
  go_wp2_with fail
  have own0 : Kd.str.Own 9 w.heap.size w w.heap.size (.slice none 0 0) (C.take 0) := Kd.own_nil _ _ _ _ _
  go_loopw [0, 3] (fun sv ov w' => ∃ (k : Nat) (S : ByteArray), k ≤ m ∧ sv = .string S ∧ bl S = l.drop (8 * k) ∧ Kd.str.Own 9 w.heap.size w' w.heap.size ov (C.take k) ∧ Below w.heap.size w w') (fun sv _ _ => match sv with | .string S => S.size | _ => 0)
  case atStart => exact ⟨0, s, by omega, rfl, by rw [HS.out]; rfl, own0, Below.refl _ _⟩
  case round =>
    clear own0
    obtain ⟨k, S, hk, rfl, hS, own, bel⟩ := hrel
    have hSz : S.size = 8 * m - 8 * k := by rw [← bl_len, hS, List.length_drop, HLL.out]
    by_cases h : k < m
    · have hge : (S.size : Int) ≥ 8 := by omega
      have hge8 : 8 ≤ S.size := by omega
      have he0 : S.extract 0 8 = sb ((l.drop (8 * k)).take 8) := by rw [extract_sb, hS]; rfl
      have he1 : bl (S.extract 8 S.size) = l.drop (8 * (k + 1)) := by
        rw [extract_sb, bl_sb, List.take_of_length_le (by rw [bl_len]; omega), hS, List.drop_drop]
        congr 1
      have hz1' : (S.extract 8 S.size).size < S.size := by rw [← bl_len, he1, List.length_drop, HLL.out]; omega
      have hs : C.take (k + 1) = C.take k ++ [sb ((l.drop (8 * k)).take 8)] := by rw [List.take_add_one, HCG.out k h]; rfl
      obtain ⟨Y, hY⟩ : ∃ Y, sb ((l.drop (8 * k)).take 8) = Y := ⟨_, rfl⟩
      have hy8 : Y.size ≤ 140737488351232 := by rw [← hY, sb_size, List.length_take]; omega
      obtain ⟨X, hX⟩ : ∃ X, S.extract 8 S.size = X := ⟨_, rfl⟩
      rw [hX] at he1 hz1'
      rw [hY] at hs he0
      have hlo : (C.take k).length ≤ 64 := by rw [List.length_take, HCL.out]; omega
      obtain ⟨T, hT⟩ : ∃ T, C.take k = T := ⟨_, rfl⟩
      rw [hT] at hs hlo own
      have HT := Lib.hid hs
      have HE := Lib.hid he1
      have HY := Lib.hid hy8
      clear hs hT hY he1 hSz hS hy8
      obtain ⟨Ao, co, rfl, _, _, _, _⟩ := Kd.own_row own
      have al := bl_alloc (Below.refl wr.heap.size wr) (.cells #[.string Y] 9)
      have ownA := Kd.own_below own al
      have belA := bl_trans bel al
      have row1 : Kd.str.Row 9 w.heap.size (wr.alloc (.cells #[.string Y] 9)) (some ⟨wr.heap.size, 0, none⟩) [Y] := Kd.row_fresh1 (show Kd.str.K _ _ _ [_] from ⟨rfl, HY.out⟩)
      go_wp2_with ((at_builtin; refine wpList_append_row _ rfl (.tmp 9) (.tmp 12) 22 rfl Kd.str w.heap.size w.heap.size 9 i0 _ 16 Tryz.underlying22 hi hz0 hz1 hz2 rfl (by decide) _ T rfl ownA _ _ _ [Y] rfl rfl row1 (by simp only [List.length_cons, List.length_nil]; omega) (by decide) belA.size (Nat.le_refl _) (by decide) ?_; intro v4 w4 own4 grw4 at4; have bel4 := Kd.own_step belA ownA grw4))
      go_roundw
      case rel => exact ⟨k + 1, X, by omega, rfl, HE.out, (by rw [HT.out]; exact own4), bel4⟩
      case measure => simpa using hz1'
    · have hk' : k = m := by omega
      subst hk'
      have hlt : ¬ ((S.size : Int) ≥ 8) := by omega
      rw [List.take_of_length_le (by rw [HCL.out]; omega)] at own
      clear hSz
      go_wp2_with fail
      go_ret
      exact ⟨⟨_, rfl, own⟩, bel⟩
end Go.Proofs.YtcbfpdenjdgnlaaGreat
