/- Library functions at this program's structs: slices.Clone, IndexFunc, DeleteFunc. No claim of its own; no condition. -/
import Derived.Test.YtcbfpdenjdgnlaaGreatQt28
import Derived.Test.YtcbfpdenjdgnlaaGreatQt03
import Derived.Test.YtcbfpdenjdgnlaaGreatQt04
import Derived.Lib.SliceRun
import Derived.Shelf.Abstract
import Derived.Deep.MidRow
import Derived.WalkSpells
namespace Go.Proofs.YtcbfpdenjdgnlaaGreat
open Go.ChangeShapes Go.WideShapes Go.ChangeAt Go.RowKit
set_option linter.unusedVariables false
set_option linter.unusedSimpArgs false
set_option linter.unnecessarySimpa false
theorem info_kMark : (Tryz.prog.info? 34).map (fun i => (i.zero, i.size, i.bytes)) = some (some (.agg #[.int .i64 0, .int .i64 0, .string ⟨#[]⟩]), 3, 32) := by kernel_rfl
theorem flat_kMark : kMark.Flat := Kd.flat_iso (Kd.flat_pair Kd.flat_int (Kd.flat_pair Kd.flat_int Kd.flat_str))
theorem size_kMark : (Tryz.prog.info? 34).map (·.size) = some 3 := by kernel_rfl
def encMark (x : Mark) : List Value := [.int .i64 x.view, .int .i64 x.height, .string x.block]
theorem zeroCells_mem {z : Array Value} {n : Nat} {v : Value} (h : v ∈ (Builtin.zeroCells z n).toList) (hz : 0 < z.size) : v ∈ z.toList := by
  simp only [Builtin.zeroCells, Array.toList_map, List.mem_map] at h
  obtain ⟨i, _, rfl⟩ := h
  have hlt : i % z.size < z.size := Nat.mod_lt _ hz
  rw [getElem!_pos z _ hlt]
  exact Array.getElem_mem_toList hlt
theorem run_clear_row {P : Program} (w : World) (t e ty : TypeId) (z : Value) (ht : P.underlying t = some (.slice e)) (hv : ∀ w, (zeroValue e).run P w = .ok z w) (h1 : ∀ v ∈ z.cells.toList, v.oneCell' = true) (g o n c : Nat) (e' : TypeId) (cur : Array Value)
    (hg : w.heap[g]? = some (.cells cur e' (0, 0))) (hn : 0 < n) (hz : 0 < z.cells.size) (hfit : o + n * z.cells.size ≤ cur.size) :
    (Builtin.clear_ #[t] ty #[.slice (some ⟨g, o, none⟩) n c]).run P w = .ok (.tuple #[]) (w.setRow g (cur.toList.take o ++ (Builtin.zeroCells z.cells n).toList ++ cur.toList.drop (o + (Builtin.zeroCells z.cells n).toList.length)).toArray) := by
  have hl : (Builtin.zeroCells z.cells n).toList.length = n * z.cells.size := by simp [size_zeroCells]
  have hst := run_storeCells_at P g o e' (Builtin.zeroCells z.cells n).toList 0 cur w hg (by rw [hl]; simpa using hfit) (fun v hv' => h1 v (zeroCells_mem hv' hz))
  simp only [Nat.add_zero] at hst
  obtain ⟨m, rfl⟩ : ∃ m, n = m + 1 := ⟨n - 1, by omega⟩
  simp [Builtin.clear_, run_underlying ht, hv, hst]
theorem set_blkL {w : World} {G : Nat} {cs : List Value} {e : TypeId} (h : w.heap[G]? = some (.cells cs.toArray e (0, 0))) (j : Nat) (u : Value) : (w.setCell ⟨G, j, none⟩ u).heap[G]? = some (.cells (cs.set j u).toArray e (0, 0)) := by
  rw [heap_setCell_same w G j cs.toArray e u h]
  simp
theorem cell_run {w : World} {G : Nat} {F M R : List Value} {e : TypeId} (hb : w.heap[G]? = some (.cells (F ++ M ++ R).toArray e (0, 0))) {k o : Nat} {u : Value} (hF : F.length = k) (ho : M[o]? = some u) : w.cell? ⟨G, k + o, none⟩ = some u := block_cell hb (by
  have hlt : o < M.length := (List.getElem?_eq_some_iff.1 ho).1
  rw [List.getElem?_toArray, List.getElem?_append_left (by rw [List.length_append]; omega), List.getElem?_append_right (by omega), ← hF, Nat.add_sub_cancel_left]
  exact ho)
theorem cell_offM {w : World} {G o : Nat} {v : Value} (h : w.cell? ⟨G, o, none⟩ = some v) (o' : Nat) (u : Value) (hne : o ≠ o') : (w.setCell ⟨G, o', none⟩ u).cell? ⟨G, o, none⟩ = some v := by
  rw [World.cell?_setCell_other _ _ _ _ (by intro e; injection e with _ e; exact hne e.symm)]
  exact h
theorem gr_below {a w w1 : World} {row : Option Nat} (h : a.grownBy w row) (k : Below w.heap.size w w1) : a.grownBy w1 row :=
  ⟨k.os.trans h.os, k.tape.trans h.tape, k.output.trans h.output, Nat.le_trans h.size k.size, fun i hi hne => (k.block i (Nat.lt_of_lt_of_le hi h.size)).trans (h.block i hi hne)⟩
theorem gr_set {a w : World} {G : Nat} (h : a.grownBy w (some G)) (j : Nat) (u : Value) : a.grownBy (w.setCell ⟨G, j, none⟩ u) (some G) :=
  ⟨h.os, h.tape, h.output, by rw [show (w.setCell ⟨G, j, none⟩ u).heap.size = w.heap.size by simp [World.setCell]]; exact h.size, fun i hi hne => (Below.heap_setCell w ⟨G, j, none⟩ u i (fun e => hne (by rw [e]))).trans (h.block i hi hne)⟩
theorem gr_setRow {a w : World} {G : Nat} (h : a.grownBy w (some G)) (xs : Array Value) : a.grownBy (w.setRow G xs) (some G) :=
  ⟨h.os, h.tape, h.output, by rw [show (w.setRow G xs).heap.size = w.heap.size by simp [World.setRow]]; exact h.size, fun i hi hne => (setRow_other w G i xs (fun e => hne (by rw [e]))).trans (h.block i hi hne)⟩
/-- What a test leaves of the first k. -/
theorem keep_step {α : Type} {p : α → Bool} {l : List α} {k : Nat} {x : α} (h : l[k]? = some x) : (l.take (k + 1)).filter (fun y => !p y) = (l.take k).filter (fun y => !p y) ++ (if p x then [] else [x]) := by
  rw [List.take_add_one, h, List.filter_append]
  cases hp : p x <;> simp [hp]
theorem keep_le {α : Type} (p : α → Bool) (l : List α) (k : Nat) : ((l.take k).filter (fun y => !p y)).length ≤ k := Nat.le_trans (List.length_filter_le _ _) (by rw [List.length_take]; omega)
theorem drop_at {α : Type} {l : List α} {k : Nat} {x : α} (h : l[k]? = some x) : l.drop k = x :: l.drop (k + 1) := by
  obtain ⟨h2, h3⟩ := List.getElem?_eq_some_iff.1 h
  rw [List.drop_eq_getElem_cons h2, h3]
theorem encs_lenMark : ∀ l : List Mark, (l.flatMap encMark).length = l.length * 3
  | [] => rfl
  | x :: l => by rw [List.flatMap_cons, List.length_append, encs_lenMark l, List.length_cons]; simp [encMark]; omega
theorem reps_encMark {B : Nat} {w : World} {l : List Mark} {cs : List Value} (h : Kd.Reps kMark B w l cs) : cs = l.flatMap encMark := by
  induction h with
  | nil => rfl
  | cons hc _ ih => rw [ih, List.flatMap_cons, (kMark_open hc).1]; rfl
theorem reps_mkMark {B : Nat} {w : World} : ∀ {l : List Mark}, (∀ x ∈ l, kMark.K B w x (encMark x)) → Kd.Reps kMark B w l (l.flatMap encMark)
  | [], _ => .nil
  | x :: l, h => .cons (h x (by simp)) (reps_mkMark fun y hy => h y (by simp [hy]))
theorem reps_allMark {B : Nat} {w : World} {l : List Mark} {cs : List Value} (h : Kd.Reps kMark B w l cs) : ∀ x ∈ l, kMark.K B w x (encMark x) := by
  induction h with
  | nil => intro x hx; cases hx
  | cons hc _ ih =>
    intro x hx
    rcases List.mem_cons.1 hx with rfl | hx
    · have e := (kMark_open hc).1
      rw [show encMark x = _ from e.symm]
      exact hc
    · exact ih x hx
theorem set_runMark (F R : List Value) (m0 m1 m2 u0 u1 u2 : Value) : ((((F ++ m0 :: m1 :: m2 :: R).set (F.length) u0).set (F.length + 1) u1).set (F.length + 2) u2) = F ++ u0 :: u1 :: u2 :: R := by
  induction F with
  | nil => rfl
  | cons y F ih => simpa [Nat.add_right_comm] using ih
def DelAtMark (w : World) (G k : Nat) (x : Mark) : Prop := w.cell? ⟨G, k, none⟩ = some (.int .i64 x.view) ∧ w.cell? ⟨G, k + 1, none⟩ = some (.int .i64 x.height) ∧ w.cell? ⟨G, k + 2, none⟩ = some (.string x.block)
theorem zeroVMark : ∀ w, (zeroValue 34).run Tryz.prog w = .ok (.agg #[.int .i64 0, .int .i64 0, .string ⟨#[]⟩]) w := fun w => by kernel_rfl
theorem DelInvMark_at {w : World} {G : Nat} {F M R : List Value} {x : Mark} (hb : w.heap[G]? = some (.cells (F ++ M ++ (encMark x ++ R)).toArray 34 (0, 0))) {j : Nat} (hj : (F ++ M).length = j * 3) : w.cell? ⟨G, j * 3, none⟩ = some (.int .i64 x.view) ∧ w.cell? ⟨G, j * 3 + 1, none⟩ = some (.int .i64 x.height) ∧ w.cell? ⟨G, j * 3 + 2, none⟩ = some (.string x.block) := by
  have key : ∀ (o : Nat) (u : Value), (encMark x)[o]? = some u → w.cell? ⟨G, j * 3 + o, none⟩ = some u := fun o u ho => block_cell hb (by
    have hlt : o < (encMark x).length := (List.getElem?_eq_some_iff.1 ho).1
    rw [List.getElem?_toArray, List.getElem?_append_right (by omega), ← hj, Nat.add_sub_cancel_left, List.getElem?_append_left hlt]
    exact ho)
  exact ⟨key 0 _ rfl, key 1 _ rfl, key 2 _ rfl⟩
theorem delAtMark {w : World} {G k : Nat} {F M R : List Value} {x : Mark} (hb : w.heap[G]? = some (.cells (F ++ M ++ (encMark x ++ R)).toArray 34 (0, 0))) (hj : (F ++ M).length = k) : DelAtMark w G k x := by
  have key : ∀ (o : Nat) (u : Value), (encMark x)[o]? = some u → w.cell? ⟨G, k + o, none⟩ = some u := fun o u ho => block_cell hb (by
    have hlt : o < (encMark x).length := (List.getElem?_eq_some_iff.1 ho).1
    rw [List.getElem?_toArray, List.getElem?_append_right (by omega), ← hj, Nat.add_sub_cancel_left, List.getElem?_append_left hlt]
    exact ho)
  exact ⟨key 0 _ rfl, key 1 _ rfl, key 2 _ rfl⟩
theorem atBlockMark {w : World} {G k : Nat} {l : List Mark} {Z : List Value} {x : Mark} (hb : w.heap[G]? = some (.cells (l.flatMap encMark ++ Z).toArray 34 (0, 0))) (hx : l[k]? = some x) : DelAtMark w G (k * 3) x := by
  have hspl : l.flatMap encMark = (l.take k).flatMap encMark ++ encMark x ++ (l.drop (k + 1)).flatMap encMark := by
    conv => lhs; rw [← List.take_append_drop k l, drop_at hx]
    rw [List.flatMap_append, List.flatMap_cons, List.append_assoc]
  rw [hspl] at hb
  have hlt : k < l.length := (List.getElem?_eq_some_iff.1 hx).1
  exact delAtMark (F := (l.take k).flatMap encMark) (M := []) (R := (l.drop (k + 1)).flatMap encMark ++ Z) (by simpa only [List.append_nil, List.append_assoc] using hb) (by rw [List.append_nil, encs_lenMark, List.length_take, Nat.min_eq_left (by omega)])
set_option maxHeartbeats 6400000 in
set_option maxRecDepth 100000 in
theorem compact_kMark (l : List Mark) (v : Value) (w : World) (B base : Nat) (hl : l.length ≤ 2097152) (hv : kMark.Own 34 B w base v l) :
    Calls Tryz.prog 139 #[v] w fun e w' => (∃ v', e = .returned v' ∧ kMark.Own 34 B w' base v' (compF l)) ∧ w.grownBy w' v.ownBlock := by
  by_cases hlen : l.length < 2
  · have hc : compF l = l := by
      match l, hlen with
      | [], _ => rfl
      | [x], _ => rfl
    rw [hc]
    obtain ⟨A, c, rfl, hlc, hcm, row, hA⟩ := Kd.own_row hv
    have hlI : (l.length : Int) < 2 := by omega
    have HV := Lib.hid hv
    clear hv row hc hA
    go_enter Tryz.func139, Tryz.ntmps139
    go_wp2_with fail
    go_ret
    exact ⟨⟨_, rfl, HV.out⟩, World.grownBy.refl w _⟩
  · obtain ⟨G, c, cs, Z, rfl, hG, hblk, hrp, hlc, hcm, hsz⟩ := Kd.own_form hv (by rintro rfl; simp at hlen)
    have hcs := reps_encMark hrp
    have hallK := reps_allMark hrp
    subst hcs
    have hszn : (l.flatMap encMark ++ Z).length = c * 3 := hsz
    have hlI : ¬ ((l.length : Int) < 2) := by omega
    have HV := Lib.hid hv
    have HK := Lib.hid hallK
    have HSZ := Lib.hid hszn
    have HB := Lib.hid hblk
    have HCM := Lib.hid hcm
    clear hv hallK hszn hsz hblk hrp hcm
    go_enter Tryz.func139, Tryz.ntmps139
    go_wp2_with fail
    go_loopw [3] (fun kv w' => ∃ m : Nat, m + 1 ≤ l.length ∧ kv = .int .i64 ((m : Int) + 1) ∧ Hid (compF (l.take (m + 1)) = l.take (m + 1)) ∧ Below w.heap.size w w') (fun kv _ => l.length - (intOf kv).toNat)
    case atStart =>
      refine ⟨0, by omega, by go_num, Lib.hid ?_, Below.refl _ _⟩
      match l, hlen with
      | [], h => simp at h
      | x :: t, _ => rfl
    case round =>
      obtain ⟨m, h1, rfl, hcm, bel⟩ := hrel
      by_cases h : m + 1 < l.length
      · obtain ⟨x, hx⟩ : ∃ x, l[m + 1]? = some x := ⟨_, List.getElem?_eq_getElem h⟩
        obtain ⟨p, hp⟩ : ∃ p, l[m]? = some p := ⟨_, List.getElem?_eq_getElem (by omega)⟩
        have hblk1 := block_below bel HB.out
        obtain ⟨e0, e1, e2⟩ := atBlockMark hblk1 hx
        obtain ⟨p0, p1, p2⟩ := atBlockMark hblk1 hp
        have hst := comp_step hp hx
        have hkI : (m : Int) + 1 < (l.length : Int) := by omega
        have hmI : (m : Int) < (l.length : Int) := by omega
        have HX := Lib.hid hx
        have HB1 := Lib.hid hblk1
        by_cases hxp : x = p
        · have hq : ∀ W, (binOp .eql 34 (.agg #[.int .i64 x.view, .int .i64 x.height, .string x.block]) (.agg #[.int .i64 p.view, .int .i64 p.height, .string p.block])).run Tryz.prog W = .ok (.bool true) W := fun W => by rw [eqlMark, decide_eq_true hxp]
          rw [if_pos hxp, hcm.out] at hst
          have HST := Lib.hid hst
          clear hst hx hp hxp hblk1
          go_upto_region 6 with fail
          go_quiet (fail)
          have hne : ¬ (c = m + 1) := by omega
          go_upto_region 9 with fail
          have hb0 := block_below (bl_drewN (Below.refl wr.heap.size wr) nq) HB1.out
          have g0 : w.grownBy (wr.drewN nq) (some G) := gr_below (World.grownBy.refl w _) (bl_drewN bel nq)
          clear e0 e1 e2 p0 p1 p2
          go_loopw [3, 5] (fun iv jv w' => ∃ (i t : Nat) (M : List Value) (p : Mark), i ≤ m + t + 1 ∧ m + t + 2 ≤ l.length ∧ iv = .int .i64 i ∧ jv = .int .i64 ((t : Int) + 1) ∧ Hid (l[m + t + 1]? = some p) ∧ Hid ((compF (l.take (m + t + 2))).length = i) ∧ Hid (M.length = (m + t + 1 - i) * 3) ∧
            Hid (w'.heap[G]? = some (.cells ((compF (l.take (m + t + 2))).flatMap encMark ++ M ++ (encMark p ++ ((l.drop (m + t + 2)).flatMap encMark ++ Z))).toArray 34 (0, 0))) ∧ w.grownBy w' (some G)) (fun _ jv _ => l.length - (intOf jv).toNat)
          case atStart =>
            refine ⟨m + 1, 0, [], x, by omega, by omega, by go_num, by go_num, HX, Lib.hid ?_, Lib.hid (by simp), Lib.hid ?_, g0⟩
            · rw [HST.out, List.length_take]; omega
            · rw [hb0, HST.out]
              have hspl : l.flatMap encMark = (l.take (m + 1)).flatMap encMark ++ encMark x ++ (l.drop (m + 1 + 1)).flatMap encMark := by
                conv => lhs; rw [← List.take_append_drop (m + 1) l, drop_at HX.out]
                rw [List.flatMap_append, List.flatMap_cons, List.append_assoc]
              rw [hspl]
              simp only [List.append_assoc, List.append_nil, Nat.add_zero, List.nil_append]
          case round =>
            clear hb0 g0
            obtain ⟨i, t, M, p, hit, htl, rfl, rfl, hp, hci, hM, hblk, gr⟩ := hrel
            by_cases ht : t + 1 < l.length - (m + 1)
            · obtain ⟨x, hx⟩ : ∃ x, l[m + t + 2]? = some x := ⟨_, List.getElem?_eq_getElem (by omega)⟩
              have hst := comp_step hp.out hx
              have hdr := drop_at hx
              have hFl : ((compF (l.take (m + t + 2))).flatMap encMark).length = i * 3 := by rw [encs_lenMark, hci.out]
              have hFM : ((compF (l.take (m + t + 2))).flatMap encMark ++ M).length = (m + 1) * 3 + t * 3 := by rw [List.length_append, hFl, hM.out]; omega
              have hblk := hblk.out
              obtain ⟨p0, p1, p2⟩ := delAtMark hblk hFM
              have hblk2 := hblk
              rw [hdr, List.flatMap_cons, List.append_assoc (encMark x), ← List.append_assoc (_ ++ M) (encMark p)] at hblk2
              have hFM2 : ((compF (l.take (m + t + 2))).flatMap encMark ++ M ++ encMark p).length = (m + 1) * 3 + (t + 1) * 3 := by rw [List.length_append, hFM]; simp only [encMark, List.length_cons, List.length_nil]; omega
              obtain ⟨e0, e1, e2⟩ := delAtMark (F := _ ++ M) hblk2 hFM2
              have htI : (t : Int) + 1 < ((l.length - (m + 1) : Nat) : Int) := by omega
              have htI2 : (t : Int) < ((l.length - (m + 1) : Nat) : Int) := by omega
              have hiI : (i : Int) < (l.length : Int) := by omega
              have HX2 := Lib.hid hx
              have HFL := Lib.hid hFl
              have HBK := Lib.hid hblk2
              by_cases hxp : x = p
              · have hq : ∀ W, (binOp .neq 34 (.agg #[.int .i64 x.view, .int .i64 x.height, .string x.block]) (.agg #[.int .i64 p.view, .int .i64 p.height, .string p.block])).run Tryz.prog W = .ok (.bool false) W := fun W => by rw [neqMark, decide_eq_true hxp]; rfl
                rw [if_pos hxp] at hst
                have HST2 := Lib.hid hst
                clear hst hx hxp hblk hblk2 hdr hFl hFM hFM2
                go_upto_region 11 with fail
                go_quiet (fail)
                go_wp2_with fail
                go_roundw
                case rel =>
                  refine ⟨i, t + 1, M ++ encMark p, x, by omega, by omega, rfl, by go_num, HX2, Lib.hid (by rw [show m + (t + 1) + 2 = m + t + 1 + 2 by omega, HST2.out]; exact hci.out), Lib.hid (by rw [List.length_append, hM.out]; simp only [encMark, List.length_cons, List.length_nil]; omega), Lib.hid ?_, gr_below gr (bl_drewN (Below.refl wr.heap.size wr) _)⟩
                  rw [show m + (t + 1) + 2 = m + t + 1 + 2 by omega, HST2.out]
                  refine (block_below (bl_drewN (Below.refl wr.heap.size wr) _) HBK.out).trans ?_
                  simp only [List.append_assoc]
                case measure => simp [intOf]; omega
              · have hq : ∀ W, (binOp .neq 34 (.agg #[.int .i64 x.view, .int .i64 x.height, .string x.block]) (.agg #[.int .i64 p.view, .int .i64 p.height, .string p.block])).run Tryz.prog W = .ok (.bool true) W := fun W => by rw [neqMark, decide_eq_false hxp]; rfl
                rw [if_neg hxp] at hst
                have HST2 := Lib.hid hst
                have hMn : 3 ≤ (M ++ encMark p).length := by rw [List.length_append]; simp only [encMark, List.length_cons, List.length_nil]; omega
                obtain ⟨m0, m1, m2, M', hM'⟩ : ∃ m0 m1 m2 M', M ++ encMark p = m0 :: m1 :: m2 :: M' := by
                  match M ++ encMark p, hMn with
                  | m0 :: m1 :: m2 :: M', _ => exact ⟨m0, m1, m2, M', rfl⟩
                have hMl : M'.length = (m + t + 1 - i) * 3 := by
                  have := congrArg List.length hM'
                  rw [List.length_append, hM.out] at this
                  simp only [encMark, List.length_cons, List.length_nil] at this
                  omega
                have HML := Lib.hid hMl
                rw [List.append_assoc _ M, hM'] at hblk2
                have HBK2 := Lib.hid hblk2
                clear hst hx hxp hblk hblk2 hdr hFl hFM hFM2 hMn hM' hMl
                go_upto_region 11 with fail
                go_quiet (fail)
                have hblk := block_below (bl_drewN (Below.refl wr.heap.size wr) nq) HBK2.out
                have gr3 := gr_below gr (bl_drewN (Below.refl wr.heap.size wr) nq)
                have x0 := cell_below (bl_drewN (Below.refl wr.heap.size wr) nq) e0
                have x1 := cell_below (bl_drewN (Below.refl wr.heap.size wr) nq) e1
                have x2 := cell_below (bl_drewN (Below.refl wr.heap.size wr) nq) e2
                clear e0 e1 e2 p0 p1 p2 gr
                generalize wr.drewN nq = wd at *
                have gr := gr3
                have c0 := cell_run (o := 0) hblk HFL.out rfl
                have c1 := cell_run (o := 1) hblk HFL.out rfl
                have c2 := cell_run (o := 2) hblk HFL.out rfl
                have z0 := frozen_of_row wd G (i * 3) _ 34 hblk
                have z1 := frozen_of_row wd G (i * 3 + 1) _ 34 hblk
                have z2 := frozen_of_row wd G (i * 3 + 2) _ 34 hblk
                have hset := set_blkL (set_blkL (set_blkL (hblk) (i * 3) (.int .i64 x.view)) (i * 3 + 1) (.int .i64 x.height)) (i * 3 + 2) (.string x.block)
                rw [show (((compF (l.take (m + t + 2))).flatMap encMark ++ m0 :: m1 :: m2 :: M') ++ (encMark x ++ ((l.drop (m + t + 2 + 1)).flatMap encMark ++ Z))) = ((compF (l.take (m + t + 2))).flatMap encMark ++ m0 :: m1 :: m2 :: (M' ++ (encMark x ++ ((l.drop (m + t + 2 + 1)).flatMap encMark ++ Z)))) by simp only [List.append_assoc, List.cons_append], ← HFL.out, set_runMark, HFL.out] at hset
                have grs := gr_set (gr_set (gr_set (gr) (i * 3) (.int .i64 x.view)) (i * 3 + 1) (.int .i64 x.height)) (i * 3 + 2) (.string x.block)
                have hthere : wd.there G (i * 3) 3 := by
                  intro o ho
                  refine ⟨?_, frozen_of_row wd G _ _ 34 hblk⟩
                  match o, ho with
                  | 0, _ => exact Option.isSome_iff_exists.2 ⟨_, c0⟩
                  | 1, _ => exact Option.isSome_iff_exists.2 ⟨_, c1⟩
                  | 2, _ => exact Option.isSome_iff_exists.2 ⟨_, c2⟩
                obtain ⟨w4, hw4⟩ : ∃ w4, ((wd.setCell ⟨G, i * 3, none⟩ (.int .i64 x.view)).setCell ⟨G, i * 3 + 1, none⟩ (.int .i64 x.height)).setCell ⟨G, i * 3 + 2, none⟩ (.string x.block) = w4 := ⟨_, rfl⟩
                rw [hw4] at hset grs
                have HSET := Lib.hid hset
                have HW4 := Lib.hid hw4
                have HTH := Lib.hid hthere
                clear hset c0 z0 c1 z1 c2 z2 hw4 hthere hblk
                go_upto_region 13 with ((refine wpList_store_mid rfl 34 (.tmp 51) (.tmp 50) rfl G (i * 3) #[.int .i64 x.view, .int .i64 x.height, .string x.block] rfl rfl HTH.out size_kMark (by simp [Value.oneCell']) ?_); rw [show wd.setCells G (i * 3) (#[.int .i64 x.view, .int .i64 x.height, .string x.block] : Array Value).toList = w4 from HW4.out])
                go_wp2_with fail
                go_roundw
                case rel =>
                  refine ⟨i + 1, t + 1, M', x, by omega, by omega, by go_num, by go_num, HX2, Lib.hid (by rw [show m + (t + 1) + 2 = m + t + 1 + 2 by omega, HST2.out, List.length_append, hci.out]; rfl), Lib.hid (by rw [HML.out]; congr 1; omega), Lib.hid ?_, grs⟩
                  rw [HSET.out, show m + (t + 1) + 2 = m + t + 1 + 2 by omega, HST2.out]
                  simp only [List.flatMap_append, List.append_assoc, List.flatMap_cons, List.flatMap_nil, List.append_nil]
                  rfl
                case measure => simp [intOf]; omega
            · have hq : m + t + 2 = l.length := by omega
              have hblk2 := hblk.out
              have hci2 := hci.out
              rw [hq, List.drop_length, List.flatMap_nil, List.nil_append, List.take_of_length_le (Nat.le_refl _), List.append_assoc, ← List.append_assoc M] at hblk2
              rw [hq, List.take_of_length_le (Nat.le_refl _)] at hci2
              obtain ⟨M2, hM2⟩ : ∃ M2, M ++ encMark p = M2 := ⟨_, rfl⟩
              rw [hM2, ← List.append_assoc] at hblk2
              have hML : M2.length = (l.length - i) * 3 := by
                rw [← hM2, List.length_append, hM.out]
                simp only [encMark, List.length_cons, List.length_nil]
                omega
              have hFl : ((compF l).flatMap encMark).length = i * 3 := by rw [encs_lenMark, hci2]
              have hZ : Z.length + l.length * 3 = c * 3 := by
                have := HSZ.out
                rw [List.length_append, encs_lenMark] at this
                omega
              have hcl := fun ty => run_clear_row (P := Tryz.prog) wr 65 34 ty _ Tryz.underlying65 zeroVMark (by decide) G (i * 3) (l.length - i) (c - i) 34 _ hblk2 (by omega) (by decide) (by
                show i * 3 + (l.length - i) * 3 ≤ _
                simp only [List.size_toArray, List.length_append]
                omega)
              generalize hQ : (Builtin.zeroCells (Value.cells (.agg #[.int .i64 0, .int .i64 0, .string ⟨#[]⟩])) (l.length - i)).toList = Q at hcl
              have hQl : Q.length = (l.length - i) * 3 := by rw [← hQ]; simp [size_zeroCells]; rfl
              have hX : (((compF l).flatMap encMark ++ M2 ++ Z).toArray.toList.take (i * 3) ++ Q ++ ((compF l).flatMap encMark ++ M2 ++ Z).toArray.toList.drop (i * 3 + Q.length)) = (compF l).flatMap encMark ++ (Q ++ Z) := by
                rw [List.append_assoc (List.flatMap _ _) M2 Z, ← hFl]
                simp only [List.take_left', List.append_assoc]
                congr 2
                rw [List.drop_append, List.drop_append]
                simp only [hFl, hQl, hML]
                rw [List.drop_of_length_le (by omega), List.drop_of_length_le (by omega), show i * 3 + (l.length - i) * 3 - i * 3 - (l.length - i) * 3 = 0 by omega]
                simp
              rw [hX] at hcl
              have hfin : (wr.setRow G ((compF l).flatMap encMark ++ (Q ++ Z)).toArray).heap[G]? = some (.cells ((compF l).flatMap encMark ++ (Q ++ Z)).toArray 34 (0, 0)) := setRow_heap wr G _ _ 34 _ hblk2
              have hlenX : ((compF l).flatMap encMark ++ (Q ++ Z)).length = c * 3 := by
                simp only [List.length_append, hFl, hQl]
                omega
              have hown : kMark.Own 34 B (wr.setRow G ((compF l).flatMap encMark ++ (Q ++ Z)).toArray) base (.slice (some ⟨G, 0, none⟩) i c) (compF l) :=
                Kd.own_of_form hfin (reps_mkMark fun x hx => flat_kMark _ _ _ _ _ _ (HK.out x (mem_comp.1 hx))) hG hci2.symm (by omega) HCM.out hlenX
              have HOWN := Lib.hid hown
              have hic : ¬ (c = i) := by omega
              have hicI : (i : Int) < (c : Int) := by omega
              have hilI : (i : Int) ≤ (l.length : Int) := by omega
              have htI : ¬ ((t : Int) + 1 < ((l.length - (m + 1) : Nat) : Int)) := by omega
              clear hblk2 hFl hci2 hML hZ hQ hQl hX hfin hlenX hown hM2 hblk hci hM hp
              go_wp2_with fail
              go_ret
              exact ⟨⟨_, rfl, HOWN.out⟩, gr_setRow gr _⟩
        · have hq : ∀ W, (binOp .eql 34 (.agg #[.int .i64 x.view, .int .i64 x.height, .string x.block]) (.agg #[.int .i64 p.view, .int .i64 p.height, .string p.block])).run Tryz.prog W = .ok (.bool false) W := fun W => by rw [eqlMark, decide_eq_false hxp]
          rw [if_neg hxp, hcm.out] at hst
          have ht2 : l.take (m + 2) = l.take (m + 1) ++ [x] := by rw [List.take_add_one, hx]; rfl
          rw [← ht2] at hst
          have HST := Lib.hid hst
          clear hst hx hp hxp hblk1 ht2
          go_upto_region 6 with fail
          go_quiet (fail)
          go_wp2_with fail
          go_roundw
          case rel => exact ⟨m + 1, by omega, by go_num, HST, bl_drewN bel _⟩
          case measure => simp [intOf]; omega
      · have hml : m + 1 = l.length := by omega
        have hc := hcm.out
        rw [hml, List.take_of_length_le (Nat.le_refl _)] at hc
        have HC := Lib.hid hc
        have hnI : ¬ ((m : Int) + 1 < (l.length : Int)) := by omega
        clear hc
        go_wp2_with fail
        go_ret
        exact ⟨⟨_, rfl, by rw [HC.out]; exact Kd.own_below HV.out bel⟩, gr_below (World.grownBy.refl w _) bel⟩

end Go.Proofs.YtcbfpdenjdgnlaaGreat
