/- Library functions at this program's structs: slices.Clone, IndexFunc, DeleteFunc. No claim of its own; no condition. -/
import Derived.Test.YtglneailkgminaaLibM
import Derived.Lib.SliceRun
import Derived.Shelf.Abstract
import Derived.Deep.MidRow
import Derived.WalkSpells
namespace Go.Proofs.Ytglneailkgminaa
open Go.ChangeShapes Go.WideShapes Go.ChangeAt Go.RowKit
set_option linter.unusedVariables false
set_option linter.unusedSimpArgs false
set_option linter.unnecessarySimpa false
theorem info_kUse : (Try.prog.info? 71).map (fun i => (i.zero, i.size, i.bytes)) = some (some (.agg #[.int .i64 0, .int .i64 0, .string ⟨#[]⟩]), 3, 32) := by kernel_rfl
theorem flat_kUse : kUse.Flat := Kd.flat_iso (Kd.flat_pair Kd.flat_int (Kd.flat_pair Kd.flat_int Kd.flat_str))
theorem size_kUse : (Try.prog.info? 71).map (·.size) = some 3 := by kernel_rfl
def encUse (x : Use) : List Value := [.int .i64 x.signer, .int .i64 x.leaf, .string x.text]
theorem encs_lenUse : ∀ l : List Use, (l.flatMap encUse).length = l.length * 3
  | [] => rfl
  | x :: l => by rw [List.flatMap_cons, List.length_append, encs_lenUse l, List.length_cons]; simp [encUse]; omega
theorem reps_encUse {B : Nat} {w : World} {l : List Use} {cs : List Value} (h : Kd.Reps kUse B w l cs) : cs = l.flatMap encUse := by
  induction h with
  | nil => rfl
  | cons hc _ ih => rw [ih, List.flatMap_cons, (kUse_open hc).1]; rfl
theorem reps_mkUse {B : Nat} {w : World} : ∀ {l : List Use}, (∀ x ∈ l, kUse.K B w x (encUse x)) → Kd.Reps kUse B w l (l.flatMap encUse)
  | [], _ => .nil
  | x :: l, h => .cons (h x (by simp)) (reps_mkUse fun y hy => h y (by simp [hy]))
theorem reps_allUse {B : Nat} {w : World} {l : List Use} {cs : List Value} (h : Kd.Reps kUse B w l cs) : ∀ x ∈ l, kUse.K B w x (encUse x) := by
  induction h with
  | nil => intro x hx; cases hx
  | cons hc _ ih =>
    intro x hx
    rcases List.mem_cons.1 hx with rfl | hx
    · have e := (kUse_open hc).1
      rw [show encUse x = _ from e.symm]
      exact hc
    · exact ih x hx
theorem set_runUse (F R : List Value) (m0 m1 m2 u0 u1 u2 : Value) : ((((F ++ m0 :: m1 :: m2 :: R).set (F.length) u0).set (F.length + 1) u1).set (F.length + 2) u2) = F ++ u0 :: u1 :: u2 :: R := by
  induction F with
  | nil => rfl
  | cons y F ih => simpa [Nat.add_right_comm] using ih
def DelAtUse (w : World) (G k : Nat) (x : Use) : Prop := w.cell? ⟨G, k, none⟩ = some (.int .i64 x.signer) ∧ w.cell? ⟨G, k + 1, none⟩ = some (.int .i64 x.leaf) ∧ w.cell? ⟨G, k + 2, none⟩ = some (.string x.text)
theorem zeroVUse : ∀ w, (zeroValue 71).run Try.prog w = .ok (.agg #[.int .i64 0, .int .i64 0, .string ⟨#[]⟩]) w := fun w => by kernel_rfl
theorem DelInvUse_at {w : World} {G : Nat} {F M R : List Value} {x : Use} (hb : w.heap[G]? = some (.cells (F ++ M ++ (encUse x ++ R)).toArray 71 (0, 0))) {j : Nat} (hj : (F ++ M).length = j * 3) : w.cell? ⟨G, j * 3, none⟩ = some (.int .i64 x.signer) ∧ w.cell? ⟨G, j * 3 + 1, none⟩ = some (.int .i64 x.leaf) ∧ w.cell? ⟨G, j * 3 + 2, none⟩ = some (.string x.text) := by
  have key : ∀ (o : Nat) (u : Value), (encUse x)[o]? = some u → w.cell? ⟨G, j * 3 + o, none⟩ = some u := fun o u ho => block_cell hb (by
    have hlt : o < (encUse x).length := (List.getElem?_eq_some_iff.1 ho).1
    rw [List.getElem?_toArray, List.getElem?_append_right (by omega), ← hj, Nat.add_sub_cancel_left, List.getElem?_append_left hlt]
    exact ho)
  exact ⟨key 0 _ rfl, key 1 _ rfl, key 2 _ rfl⟩
theorem delAtUse {w : World} {G k : Nat} {F M R : List Value} {x : Use} (hb : w.heap[G]? = some (.cells (F ++ M ++ (encUse x ++ R)).toArray 71 (0, 0))) (hj : (F ++ M).length = k) : DelAtUse w G k x := by
  have key : ∀ (o : Nat) (u : Value), (encUse x)[o]? = some u → w.cell? ⟨G, k + o, none⟩ = some u := fun o u ho => block_cell hb (by
    have hlt : o < (encUse x).length := (List.getElem?_eq_some_iff.1 ho).1
    rw [List.getElem?_toArray, List.getElem?_append_right (by omega), ← hj, Nat.add_sub_cancel_left, List.getElem?_append_left hlt]
    exact ho)
  exact ⟨key 0 _ rfl, key 1 _ rfl, key 2 _ rfl⟩
theorem atBlockUse {w : World} {G k : Nat} {l : List Use} {Z : List Value} {x : Use} (hb : w.heap[G]? = some (.cells (l.flatMap encUse ++ Z).toArray 71 (0, 0))) (hx : l[k]? = some x) : DelAtUse w G (k * 3) x := by
  have hspl : l.flatMap encUse = (l.take k).flatMap encUse ++ encUse x ++ (l.drop (k + 1)).flatMap encUse := by
    conv => lhs; rw [← List.take_append_drop k l, drop_at hx]
    rw [List.flatMap_append, List.flatMap_cons, List.append_assoc]
  rw [hspl] at hb
  have hlt : k < l.length := (List.getElem?_eq_some_iff.1 hx).1
  exact delAtUse (F := (l.take k).flatMap encUse) (M := []) (R := (l.drop (k + 1)).flatMap encUse ++ Z) (by simpa only [List.append_nil, List.append_assoc] using hb) (by rw [List.append_nil, encs_lenUse, List.length_take, Nat.min_eq_left (by omega)])
set_option maxHeartbeats 6400000 in
set_option maxRecDepth 100000 in
theorem compact_kUse (l : List Use) (v : Value) (w : World) (B base : Nat) (hl : l.length ≤ 2097152) (hv : kUse.Own 71 B w base v l) :
    Calls Try.prog 65 #[v] w fun e w' => (∃ v', e = .returned v' ∧ kUse.Own 71 B w' base v' (compF l)) ∧ w.grownBy w' v.ownBlock := by
  by_cases hlen : l.length < 2
  · have hc : compF l = l := by
      match l, hlen with
      | [], _ => rfl
      | [x], _ => rfl
    rw [hc]
    obtain ⟨A, c, rfl, hlc, hcm, row, hA⟩ := Kd.own_row hv
    have hlI : (l.length : Int) < 2 := by omega
    have HV := Lib.hid hv
    clear hv row hc hA
    go_enter Try.func65, Try.ntmps65
    go_wp2_with fail
    go_ret
    exact ⟨⟨_, rfl, HV.out⟩, World.grownBy.refl w _⟩
  · obtain ⟨G, c, cs, Z, rfl, hG, hblk, hrp, hlc, hcm, hsz⟩ := Kd.own_form hv (by rintro rfl; simp at hlen)
    have hcs := reps_encUse hrp
    have hallK := reps_allUse hrp
    subst hcs
    have hszn : (l.flatMap encUse ++ Z).length = c * 3 := hsz
    have hlI : ¬ ((l.length : Int) < 2) := by omega
    have HV := Lib.hid hv
    have HK := Lib.hid hallK
    have HSZ := Lib.hid hszn
    have HB := Lib.hid hblk
    have HCM := Lib.hid hcm
    clear hv hallK hszn hsz hblk hrp hcm
    go_enter Try.func65, Try.ntmps65
    go_wp2_with fail
    go_loopw [3] (fun kv w' => ∃ m : Nat, m + 1 ≤ l.length ∧ kv = .int .i64 ((m : Int) + 1) ∧ Hid (compF (l.take (m + 1)) = l.take (m + 1)) ∧ Below w.heap.size w w') (fun kv _ => l.length - (intOf kv).toNat)
    case atStart =>
      refine ⟨0, by omega, by go_num, Lib.hid ?_, Below.refl _ _⟩
      match l, hlen with
      | [], h => simp at h
      | x :: t, _ => rfl
    case round =>
      obtain ⟨m, h1, rfl, hcm, bel⟩ := hrel
      by_cases h : m + 1 < l.length
      · obtain ⟨x, hx⟩ : ∃ x, l[m + 1]? = some x := ⟨_, List.getElem?_eq_getElem h⟩
        obtain ⟨p, hp⟩ : ∃ p, l[m]? = some p := ⟨_, List.getElem?_eq_getElem (by omega)⟩
        have hblk1 := block_below bel HB.out
        obtain ⟨e0, e1, e2⟩ := atBlockUse hblk1 hx
        obtain ⟨p0, p1, p2⟩ := atBlockUse hblk1 hp
        have hst := comp_step hp hx
        have hkI : (m : Int) + 1 < (l.length : Int) := by omega
        have hmI : (m : Int) < (l.length : Int) := by omega
        have HX := Lib.hid hx
        have HB1 := Lib.hid hblk1
        by_cases hxp : x = p
        · have hq : ∀ W, (binOp .eql 71 (.agg #[.int .i64 x.signer, .int .i64 x.leaf, .string x.text]) (.agg #[.int .i64 p.signer, .int .i64 p.leaf, .string p.text])).run Try.prog W = .ok (.bool true) W := fun W => by rw [eqlUse, decide_eq_true hxp]
          rw [if_pos hxp, hcm.out] at hst
          have HST := Lib.hid hst
          clear hst hx hp hxp hblk1
          go_upto_region 6 with fail
          go_quiet (fail)
          have hne : ¬ (c = m + 1) := by omega
          go_upto_region 9 with fail
          have hb0 := block_below (bl_drewN (Below.refl wr.heap.size wr) nq) HB1.out
          have g0 : w.grownBy (wr.drewN nq) (some G) := gr_below (World.grownBy.refl w _) (bl_drewN bel nq)
          clear e0 e1 e2 p0 p1 p2
          go_loopw [3, 5] (fun iv jv w' => ∃ (i t : Nat) (M : List Value) (p : Use), i ≤ m + t + 1 ∧ m + t + 2 ≤ l.length ∧ iv = .int .i64 i ∧ jv = .int .i64 ((t : Int) + 1) ∧ Hid (l[m + t + 1]? = some p) ∧ Hid ((compF (l.take (m + t + 2))).length = i) ∧ Hid (M.length = (m + t + 1 - i) * 3) ∧
            Hid (w'.heap[G]? = some (.cells ((compF (l.take (m + t + 2))).flatMap encUse ++ M ++ (encUse p ++ ((l.drop (m + t + 2)).flatMap encUse ++ Z))).toArray 71 (0, 0))) ∧ w.grownBy w' (some G)) (fun _ jv _ => l.length - (intOf jv).toNat)
          case atStart =>
            refine ⟨m + 1, 0, [], x, by omega, by omega, by go_num, by go_num, HX, Lib.hid ?_, Lib.hid (by simp), Lib.hid ?_, g0⟩
            · rw [HST.out, List.length_take]; omega
            · rw [hb0, HST.out]
              have hspl : l.flatMap encUse = (l.take (m + 1)).flatMap encUse ++ encUse x ++ (l.drop (m + 1 + 1)).flatMap encUse := by
                conv => lhs; rw [← List.take_append_drop (m + 1) l, drop_at HX.out]
                rw [List.flatMap_append, List.flatMap_cons, List.append_assoc]
              rw [hspl]
              simp only [List.append_assoc, List.append_nil, Nat.add_zero, List.nil_append]
          case round =>
            clear hb0 g0
            obtain ⟨i, t, M, p, hit, htl, rfl, rfl, hp, hci, hM, hblk, gr⟩ := hrel
            by_cases ht : t + 1 < l.length - (m + 1)
            · obtain ⟨x, hx⟩ : ∃ x, l[m + t + 2]? = some x := ⟨_, List.getElem?_eq_getElem (by omega)⟩
              have hst := comp_step hp.out hx
              have hdr := drop_at hx
              have hFl : ((compF (l.take (m + t + 2))).flatMap encUse).length = i * 3 := by rw [encs_lenUse, hci.out]
              have hFM : ((compF (l.take (m + t + 2))).flatMap encUse ++ M).length = (m + 1) * 3 + t * 3 := by rw [List.length_append, hFl, hM.out]; omega
              have hblk := hblk.out
              obtain ⟨p0, p1, p2⟩ := delAtUse hblk hFM
              have hblk2 := hblk
              rw [hdr, List.flatMap_cons, List.append_assoc (encUse x), ← List.append_assoc (_ ++ M) (encUse p)] at hblk2
              have hFM2 : ((compF (l.take (m + t + 2))).flatMap encUse ++ M ++ encUse p).length = (m + 1) * 3 + (t + 1) * 3 := by rw [List.length_append, hFM]; simp only [encUse, List.length_cons, List.length_nil]; omega
              obtain ⟨e0, e1, e2⟩ := delAtUse (F := _ ++ M) hblk2 hFM2
              have htI : (t : Int) + 1 < ((l.length - (m + 1) : Nat) : Int) := by omega
              have htI2 : (t : Int) < ((l.length - (m + 1) : Nat) : Int) := by omega
              have hiI : (i : Int) < (l.length : Int) := by omega
              have HX2 := Lib.hid hx
              have HFL := Lib.hid hFl
              have HBK := Lib.hid hblk2
              by_cases hxp : x = p
              · have hq : ∀ W, (binOp .neq 71 (.agg #[.int .i64 x.signer, .int .i64 x.leaf, .string x.text]) (.agg #[.int .i64 p.signer, .int .i64 p.leaf, .string p.text])).run Try.prog W = .ok (.bool false) W := fun W => by rw [neqUse, decide_eq_true hxp]; rfl
                rw [if_pos hxp] at hst
                have HST2 := Lib.hid hst
                clear hst hx hxp hblk hblk2 hdr hFl hFM hFM2
                go_upto_region 11 with fail
                go_quiet (fail)
                go_wp2_with fail
                go_roundw
                case rel =>
                  refine ⟨i, t + 1, M ++ encUse p, x, by omega, by omega, rfl, by go_num, HX2, Lib.hid (by rw [show m + (t + 1) + 2 = m + t + 1 + 2 by omega, HST2.out]; exact hci.out), Lib.hid (by rw [List.length_append, hM.out]; simp only [encUse, List.length_cons, List.length_nil]; omega), Lib.hid ?_, gr_below gr (bl_drewN (Below.refl wr.heap.size wr) _)⟩
                  rw [show m + (t + 1) + 2 = m + t + 1 + 2 by omega, HST2.out]
                  refine (block_below (bl_drewN (Below.refl wr.heap.size wr) _) HBK.out).trans ?_
                  simp only [List.append_assoc]
                case measure => simp [intOf]; omega
              · have hq : ∀ W, (binOp .neq 71 (.agg #[.int .i64 x.signer, .int .i64 x.leaf, .string x.text]) (.agg #[.int .i64 p.signer, .int .i64 p.leaf, .string p.text])).run Try.prog W = .ok (.bool true) W := fun W => by rw [neqUse, decide_eq_false hxp]; rfl
                rw [if_neg hxp] at hst
                have HST2 := Lib.hid hst
                have hMn : 3 ≤ (M ++ encUse p).length := by rw [List.length_append]; simp only [encUse, List.length_cons, List.length_nil]; omega
                obtain ⟨m0, m1, m2, M', hM'⟩ : ∃ m0 m1 m2 M', M ++ encUse p = m0 :: m1 :: m2 :: M' := by
                  match M ++ encUse p, hMn with
                  | m0 :: m1 :: m2 :: M', _ => exact ⟨m0, m1, m2, M', rfl⟩
                have hMl : M'.length = (m + t + 1 - i) * 3 := by
                  have := congrArg List.length hM'
                  rw [List.length_append, hM.out] at this
                  simp only [encUse, List.length_cons, List.length_nil] at this
                  omega
                have HML := Lib.hid hMl
                rw [List.append_assoc _ M, hM'] at hblk2
                have HBK2 := Lib.hid hblk2
                clear hst hx hxp hblk hblk2 hdr hFl hFM hFM2 hMn hM' hMl
                go_upto_region 11 with fail
                go_quiet (fail)
                have hblk := block_below (bl_drewN (Below.refl wr.heap.size wr) nq) HBK2.out
                have gr3 := gr_below gr (bl_drewN (Below.refl wr.heap.size wr) nq)
                have x0 := cell_below (bl_drewN (Below.refl wr.heap.size wr) nq) e0
                have x1 := cell_below (bl_drewN (Below.refl wr.heap.size wr) nq) e1
                have x2 := cell_below (bl_drewN (Below.refl wr.heap.size wr) nq) e2
                clear e0 e1 e2 p0 p1 p2 gr
                generalize wr.drewN nq = wd at *
                have gr := gr3
                have c0 := cell_run (o := 0) hblk HFL.out rfl
                have c1 := cell_run (o := 1) hblk HFL.out rfl
                have c2 := cell_run (o := 2) hblk HFL.out rfl
                have z0 := frozen_of_row wd G (i * 3) _ 71 hblk
                have z1 := frozen_of_row wd G (i * 3 + 1) _ 71 hblk
                have z2 := frozen_of_row wd G (i * 3 + 2) _ 71 hblk
                have hset := set_blkL (set_blkL (set_blkL (hblk) (i * 3) (.int .i64 x.signer)) (i * 3 + 1) (.int .i64 x.leaf)) (i * 3 + 2) (.string x.text)
                rw [show (((compF (l.take (m + t + 2))).flatMap encUse ++ m0 :: m1 :: m2 :: M') ++ (encUse x ++ ((l.drop (m + t + 2 + 1)).flatMap encUse ++ Z))) = ((compF (l.take (m + t + 2))).flatMap encUse ++ m0 :: m1 :: m2 :: (M' ++ (encUse x ++ ((l.drop (m + t + 2 + 1)).flatMap encUse ++ Z)))) by simp only [List.append_assoc, List.cons_append], ← HFL.out, set_runUse, HFL.out] at hset
                have grs := gr_set (gr_set (gr_set (gr) (i * 3) (.int .i64 x.signer)) (i * 3 + 1) (.int .i64 x.leaf)) (i * 3 + 2) (.string x.text)
                have hthere : wd.there G (i * 3) 3 := by
                  intro o ho
                  refine ⟨?_, frozen_of_row wd G _ _ 71 hblk⟩
                  match o, ho with
                  | 0, _ => exact Option.isSome_iff_exists.2 ⟨_, c0⟩
                  | 1, _ => exact Option.isSome_iff_exists.2 ⟨_, c1⟩
                  | 2, _ => exact Option.isSome_iff_exists.2 ⟨_, c2⟩
                obtain ⟨w4, hw4⟩ : ∃ w4, ((wd.setCell ⟨G, i * 3, none⟩ (.int .i64 x.signer)).setCell ⟨G, i * 3 + 1, none⟩ (.int .i64 x.leaf)).setCell ⟨G, i * 3 + 2, none⟩ (.string x.text) = w4 := ⟨_, rfl⟩
                rw [hw4] at hset grs
                have HSET := Lib.hid hset
                have HW4 := Lib.hid hw4
                have HTH := Lib.hid hthere
                clear hset c0 z0 c1 z1 c2 z2 hw4 hthere hblk
                go_upto_region 13 with ((refine wpList_store_mid rfl 71 (.tmp 51) (.tmp 50) rfl G (i * 3) #[.int .i64 x.signer, .int .i64 x.leaf, .string x.text] rfl rfl HTH.out size_kUse (by simp [Value.oneCell']) ?_); rw [show wd.setCells G (i * 3) (#[.int .i64 x.signer, .int .i64 x.leaf, .string x.text] : Array Value).toList = w4 from HW4.out])
                go_wp2_with fail
                go_roundw
                case rel =>
                  refine ⟨i + 1, t + 1, M', x, by omega, by omega, by go_num, by go_num, HX2, Lib.hid (by rw [show m + (t + 1) + 2 = m + t + 1 + 2 by omega, HST2.out, List.length_append, hci.out]; rfl), Lib.hid (by rw [HML.out]; congr 1; omega), Lib.hid ?_, grs⟩
                  rw [HSET.out, show m + (t + 1) + 2 = m + t + 1 + 2 by omega, HST2.out]
                  simp only [List.flatMap_append, List.append_assoc, List.flatMap_cons, List.flatMap_nil, List.append_nil]
                  rfl
                case measure => simp [intOf]; omega
            · have hq : m + t + 2 = l.length := by omega
              have hblk2 := hblk.out
              have hci2 := hci.out
              rw [hq, List.drop_length, List.flatMap_nil, List.nil_append, List.take_of_length_le (Nat.le_refl _), List.append_assoc, ← List.append_assoc M] at hblk2
              rw [hq, List.take_of_length_le (Nat.le_refl _)] at hci2
              obtain ⟨M2, hM2⟩ : ∃ M2, M ++ encUse p = M2 := ⟨_, rfl⟩
              rw [hM2, ← List.append_assoc] at hblk2
              have hML : M2.length = (l.length - i) * 3 := by
                rw [← hM2, List.length_append, hM.out]
                simp only [encUse, List.length_cons, List.length_nil]
                omega
              have hFl : ((compF l).flatMap encUse).length = i * 3 := by rw [encs_lenUse, hci2]
              have hZ : Z.length + l.length * 3 = c * 3 := by
                have := HSZ.out
                rw [List.length_append, encs_lenUse] at this
                omega
              have hcl := fun ty => run_clear_row (P := Try.prog) wr 67 71 ty _ Try.underlying67 zeroVUse (by decide) G (i * 3) (l.length - i) (c - i) 71 _ hblk2 (by omega) (by decide) (by
                show i * 3 + (l.length - i) * 3 ≤ _
                simp only [List.size_toArray, List.length_append]
                omega)
              generalize hQ : (Builtin.zeroCells (Value.cells (.agg #[.int .i64 0, .int .i64 0, .string ⟨#[]⟩])) (l.length - i)).toList = Q at hcl
              have hQl : Q.length = (l.length - i) * 3 := by rw [← hQ]; simp [size_zeroCells]; rfl
              have hX : (((compF l).flatMap encUse ++ M2 ++ Z).toArray.toList.take (i * 3) ++ Q ++ ((compF l).flatMap encUse ++ M2 ++ Z).toArray.toList.drop (i * 3 + Q.length)) = (compF l).flatMap encUse ++ (Q ++ Z) := by
                rw [List.append_assoc (List.flatMap _ _) M2 Z, ← hFl]
                simp only [List.take_left', List.append_assoc]
                congr 2
                rw [List.drop_append, List.drop_append]
                simp only [hFl, hQl, hML]
                rw [List.drop_of_length_le (by omega), List.drop_of_length_le (by omega), show i * 3 + (l.length - i) * 3 - i * 3 - (l.length - i) * 3 = 0 by omega]
                simp
              rw [hX] at hcl
              have hfin : (wr.setRow G ((compF l).flatMap encUse ++ (Q ++ Z)).toArray).heap[G]? = some (.cells ((compF l).flatMap encUse ++ (Q ++ Z)).toArray 71 (0, 0)) := setRow_heap wr G _ _ 71 _ hblk2
              have hlenX : ((compF l).flatMap encUse ++ (Q ++ Z)).length = c * 3 := by
                simp only [List.length_append, hFl, hQl]
                omega
              have hown : kUse.Own 71 B (wr.setRow G ((compF l).flatMap encUse ++ (Q ++ Z)).toArray) base (.slice (some ⟨G, 0, none⟩) i c) (compF l) :=
                Kd.own_of_form hfin (reps_mkUse fun x hx => flat_kUse _ _ _ _ _ _ (HK.out x (mem_comp.1 hx))) hG hci2.symm (by omega) HCM.out hlenX
              have HOWN := Lib.hid hown
              have hic : ¬ (c = i) := by omega
              have hicI : (i : Int) < (c : Int) := by omega
              have hilI : (i : Int) ≤ (l.length : Int) := by omega
              have htI : ¬ ((t : Int) + 1 < ((l.length - (m + 1) : Nat) : Int)) := by omega
              clear hblk2 hFl hci2 hML hZ hQ hQl hX hfin hlenX hown hM2 hblk hci hM hp
              go_wp2_with fail
              go_ret
              exact ⟨⟨_, rfl, HOWN.out⟩, gr_setRow gr _⟩
        · have hq : ∀ W, (binOp .eql 71 (.agg #[.int .i64 x.signer, .int .i64 x.leaf, .string x.text]) (.agg #[.int .i64 p.signer, .int .i64 p.leaf, .string p.text])).run Try.prog W = .ok (.bool false) W := fun W => by rw [eqlUse, decide_eq_false hxp]
          rw [if_neg hxp, hcm.out] at hst
          have ht2 : l.take (m + 2) = l.take (m + 1) ++ [x] := by rw [List.take_add_one, hx]; rfl
          rw [← ht2] at hst
          have HST := Lib.hid hst
          clear hst hx hp hxp hblk1 ht2
          go_upto_region 6 with fail
          go_quiet (fail)
          go_wp2_with fail
          go_roundw
          case rel => exact ⟨m + 1, by omega, by go_num, HST, bl_drewN bel _⟩
          case measure => simp [intOf]; omega
      · have hml : m + 1 = l.length := by omega
        have hc := hcm.out
        rw [hml, List.take_of_length_le (Nat.le_refl _)] at hc
        have HC := Lib.hid hc
        have hnI : ¬ ((m : Int) + 1 < (l.length : Int)) := by omega
        clear hc
        go_wp2_with fail
        go_ret
        exact ⟨⟨_, rfl, by rw [HC.out]; exact Kd.own_below HV.out bel⟩, gr_below (World.grownBy.refl w _) bel⟩

set_option maxHeartbeats 800000 in
theorem clone_kUse (l : List Use) (A : Option Addr) (n c : Nat) (w : World) (B : Nat) (hn : n = l.length) (hl : l.length ≤ 2097152) (hr : kUse.Row 71 B w A l) :
    Calls Try.prog 67 #[.slice A n c] w fun e w' => (∃ v, e = .returned v ∧ kUse.Own 71 w.heap.size w' w.heap.size v l ∧ (v = .slice none 0 0 ↔ A = none)) ∧ Below w.heap.size w w' := by
  subst hn
  obtain ⟨i0, hi, hz0, hz1, hz2⟩ := info_parts info_kUse
  have hnil : ∀ (w : World) (a : Option Addr) (n c n' c' : Nat), (binOp .eql 67 (.slice a n c) (.slice none n' c')).run Try.prog w = .ok (.bool a.isNone) w := fun w a n c n' c' => Lib.run_eql_slice_nil w _ _ a n c n' c' Try.underlying67
  cases A with
  | none =>
    have hx : l = [] := by
      cases l with
      | nil => rfl
      | cons x l => obtain ⟨ad, h, _⟩ := hr (by simp); cases h
    subst hx
    go_enter Try.func67, Try.ntmps67
    go_wp2_with fail
    go_ret
    exact ⟨⟨_, rfl, Kd.own_nil _ _ _ _ _, by simp⟩, Below.refl _ _⟩
  | some ad =>
    have qe := bl_alloc (Below.refl w.heap.size w) (.cells #[] 71)
    have rowe := Kd.row_below qe (Kd.row_flat flat_kUse hr (Nat.le_refl _))
    go_enter Try.func67, Try.ntmps67
    go_wp2_with (at_builtin; refine wpList_append_row _ rfl (.tmp 5) (.tmp 6) 67 rfl kUse w.heap.size w.heap.size 71 i0 _ 32 Try.underlying67 hi hz0 hz1 hz2 rfl (by decide) (.slice (some ⟨w.heap.size, 0, none⟩) 0 0) [] rfl (Kd.own_empty (Nat.le_refl _)) (some ad) c l.length l rfl rfl rowe (by simp only [List.length_nil]; omega) (by decide) qe.size (Nat.le_refl _) (by decide) ?_; intro v1 w1 own1 grw1 at1; have b1 := Kd.own_step qe (Kd.own_empty (d := kUse) (e := 71) (B := w.heap.size) (Nat.le_refl _)) grw1; rw [List.nil_append] at own1)
    go_ret
    refine ⟨⟨v1, rfl, own1, ?_⟩, b1⟩
    constructor
    · rintro rfl
      rcases at1 with h | h <;> simp [Value.ownBlock] at h
    · intro h; cases h
/-- The first place of which a test holds; -1: none. -/
def idxF {α : Type} (p : α → Bool) (l : List α) : Int := match l.findIdx? p with | some i => (i : Int) | none => -1
theorem idx_none {α : Type} {p : α → Bool} {l : List α} (h : ∀ x ∈ l, p x = false) : idxF p l = -1 := by
  unfold idxF
  rw [List.findIdx?_eq_none_iff.2 (fun x hx => h x hx)]
theorem idx_hit {α : Type} {p : α → Bool} {l : List α} {k : Nat} {x : α} (hk : l[k]? = some x) (h : ∀ y ∈ l.take k, p y = false) (hx : p x = true) : idxF p l = (k : Int) := by
  unfold idxF
  have hlt : k < l.length := (List.getElem?_eq_some_iff.1 hk).1
  have : l.findIdx? p = some k := by
    rw [List.findIdx?_eq_some_iff_getElem]
    refine ⟨hlt, by rw [(List.getElem?_eq_some_iff.1 hk).2]; exact hx, fun j hj => ?_⟩
    have hm : l[j]'(by omega) ∈ l.take k := by
      rw [List.mem_take_iff_getElem]
      exact ⟨j, by omega, rfl⟩
    rw [h _ hm]
    simp
  rw [this]
theorem take_all {α : Type} {p : α → Bool} {l : List α} {k : Nat} {x : α} (hk : l[k]? = some x) (h : ∀ y ∈ l.take k, p y = false) (hx : p x = false) : ∀ y ∈ l.take (k + 1), p y = false := by
  intro y hy
  rw [List.take_add_one, hk] at hy
  rcases List.mem_append.1 hy with hy | hy
  · exact h y hy
  · obtain rfl : y = x := by simpa using hy
    exact hx
set_option maxHeartbeats 1600000 in
set_option maxRecDepth 100000 in
theorem index_kUse (l : List Use) (A : Option Addr) (n c : Nat) (w : World) (B g : Nat) (lb : Array Value) (p : Use → Bool) (eg : ∀ args w, (callFunc g args).run Try.prog w = .ok (.enter g args) w) (hn : n = l.length) (hl : l.length ≤ 2097152) (hr : kUse.Row 71 B w A l)
    (hp : ∀ x W, Below w.heap.size w W → Calls Try.prog g (#[.agg #[.int .i64 x.signer, .int .i64 x.leaf, .string x.text]] ++ lb) W fun e W' => e = .returned (.bool (p x)) ∧ Below W.heap.size W W') :
    Calls Try.prog 93 #[.slice A n c, .func (.func g) #[] lb] w fun e w' => e = .returned (.int .i64 (idxF p l)) ∧ Below w.heap.size w w' := by
  subst hn
  have HP := Lib.hid hp
  clear hp
  go_enter Try.func93, Try.ntmps93
  go_wp2_with fail
  go_loopw [8] (fun kv w' => ∃ k : Nat, k ≤ l.length ∧ kv = .int .i64 k ∧ Hid (∀ x ∈ l.take k, p x = false) ∧ Below w.heap.size w w') (fun kv _ => l.length - (intOf kv).toNat)
  case atStart => exact ⟨0, by omega, rfl, Lib.hid (by simp), Below.refl _ _⟩
  case round =>
    obtain ⟨k, h1, rfl, hall, bel⟩ := hrel
    by_cases h : k < l.length
    · obtain ⟨x, hx⟩ : ∃ x, l[k]? = some x := ⟨_, List.getElem?_eq_getElem h⟩
      obtain ⟨ad, rfl, e0, e1, e2, _⟩ := kUse_at (Kd.row_below bel hr) hx
      have hi1 : (k : Int) < (l.length : Int) := by omega
      have hcall := HP.out x wr bel
      cases hpx : p x with
      | true =>
        rw [hpx] at hcall
        have hres := idx_hit hx hall.out hpx
        have HR := Lib.hid hres
        have HC := Lib.hid hcall
        clear hres hx hpx hcall
        go_wp2_with (go_at_fn g; refine (HC.out).mono ?_; rintro e w1 ⟨rfl, b1⟩)
        go_ret
        exact ⟨by rw [HR.out]; rfl, bl_trans bel b1⟩
      | false =>
        rw [hpx] at hcall
        have hres := take_all hx hall.out hpx
        have HR := Lib.hid hres
        have HC := Lib.hid hcall
        clear hres hx hpx hcall
        go_wp2_with (go_at_fn g; refine (HC.out).mono ?_; rintro e w1 ⟨rfl, b1⟩)
        go_roundw
        case rel => exact ⟨k + 1, by omega, by go_num, HR, bl_trans bel b1⟩
        case measure => simp [intOf]; omega
    · have hk : k = l.length := by omega
      subst hk
      rw [List.take_of_length_le (Nat.le_refl _)] at hall
      have hres := idx_none hall.out
      have HR := Lib.hid hres
      clear hres
      go_wp2_with fail
      go_ret
      exact ⟨by rw [HR.out]; rfl, bel⟩
set_option maxHeartbeats 3200000 in
set_option maxRecDepth 100000 in
theorem delete_kUse (l : List Use) (v : Value) (w : World) (B base g : Nat) (lb : Array Value) (p : Use → Bool) (eg : ∀ args w, (callFunc g args).run Try.prog w = .ok (.enter g args) w) (hl : l.length ≤ 2097152) (hv : kUse.Own 71 B w base v l)
    (hp : ∀ x W, w.grownBy W v.ownBlock → Calls Try.prog g (#[.agg #[.int .i64 x.signer, .int .i64 x.leaf, .string x.text]] ++ lb) W fun e W' => e = .returned (.bool (p x)) ∧ Below W.heap.size W W') :
    Calls Try.prog 66 #[v, .func (.func g) #[] lb] w fun e w' => (∃ v', e = .returned v' ∧ kUse.Own 71 B w' base v' (l.filter fun x => !p x)) ∧ w.grownBy w' v.ownBlock := by
  obtain ⟨A, c, rfl, hlc, hcm, row, hA⟩ := Kd.own_row hv
  have hpI : ∀ x W, Below w.heap.size w W → Calls Try.prog g (#[.agg #[.int .i64 x.signer, .int .i64 x.leaf, .string x.text]] ++ lb) W fun e W' => e = .returned (.bool (p x)) ∧ Below W.heap.size W W' := fun x W hb => hp x W (gr_below (World.grownBy.refl w _) hb)
  have hidx := index_kUse l A l.length c w B g lb p eg rfl hl row hpI
  by_cases hall : ∀ x ∈ l, p x = false
  · have hi := idx_none hall
    have hf : l.filter (fun x => !p x) = l := List.filter_eq_self.2 fun x hx => by rw [hall x hx]; rfl
    rw [hi] at hidx
    rw [hf]
    have HI := Lib.hid hidx
    have HV := Lib.hid hv
    clear hall hi hf hidx hp hpI hv row
    go_enter Try.func66, Try.ntmps66
    go_wp2_with (go_at_call 93; refine (HI.out).mono ?_; rintro e w1 ⟨rfl, b1⟩)
    go_ret
    exact ⟨⟨_, rfl, Kd.own_below HV.out b1⟩, gr_below (World.grownBy.refl w _) b1⟩
  · obtain ⟨k0, x0, hk0, hx0, hb0⟩ : ∃ (k0 : Nat) (x0 : Use), l[k0]? = some x0 ∧ p x0 = true ∧ ∀ y ∈ l.take k0, p y = false := by
      have : ∃ k : Nat, ∃ x, l[k]? = some x ∧ p x = true := by
        obtain ⟨x, hx⟩ := Classical.not_forall.1 hall
        obtain ⟨hx1, hx2⟩ := Classical.not_imp.1 hx
        obtain ⟨k, hk⟩ := List.getElem?_of_mem hx1
        exact ⟨k, x, hk, by simpa using hx2⟩
      have hmin : ∃ k : Nat, (∃ x, l[k]? = some x ∧ p x = true) ∧ ∀ m : Nat, m < k → ¬ ∃ x, l[m]? = some x ∧ p x = true := by
        obtain ⟨k, hk⟩ := this
        induction k using Nat.strongRecOn with
        | ind k ih =>
          by_cases h : ∃ m, m < k ∧ ∃ x, l[m]? = some x ∧ p x = true
          · obtain ⟨m, hm, hx⟩ := h
            exact ih m hm hx
          · exact ⟨k, hk, fun m hm hx => h ⟨m, hm, hx⟩⟩
      obtain ⟨k, ⟨x, hx1, hx2⟩, hm⟩ := hmin
      refine ⟨k, x, hx1, hx2, fun y hy => ?_⟩
      obtain ⟨m, hmk⟩ := List.getElem?_of_mem hy
      have hlt : m < k := by
        have := (List.getElem?_eq_some_iff.1 hmk).1
        rw [List.length_take] at this
        omega
      cases hpy : p y with
      | false => rfl
      | true => exact absurd ⟨y, by rw [List.getElem?_take, if_pos hlt] at hmk; exact hmk, hpy⟩ (hm m hlt)
    have hi := idx_hit hk0 hb0 hx0
    have hlt0 : k0 < l.length := (List.getElem?_eq_some_iff.1 hk0).1
    obtain ⟨G, c', cs, Z, hAc, hG, hblk, hrp, _, _, hsz⟩ := Kd.own_form hv (by rintro rfl; simp at hlt0)
    injection hAc with hA1 hA2 hA3
    subst hA1 hA3
    have hcs := reps_encUse hrp
    have hallK := reps_allUse hrp
    subst hcs
    have hszn : (l.flatMap encUse ++ Z).length = c * 3 := hsz
    have hfil0 : (l.take (k0 + 1)).filter (fun y => !p y) = l.take k0 := by
      rw [keep_step hk0, hx0]
      simp only [if_true, List.append_nil]
      exact List.filter_eq_self.2 fun x hx => by rw [hb0 x hx]; rfl
    have hlenk : (l.take k0).length = k0 := by rw [List.length_take]; omega
    rw [hi] at hidx
    have hne1 : ((k0 : Int) == -1) = false := beq_eq_false_iff_ne.2 (by omega)
    have HI := Lib.hid hidx
    have HP := Lib.hid hp
    have HK := Lib.hid hallK
    have HF := Lib.hid hfil0
    have HSZ := Lib.hid hszn
    have HLK := Lib.hid hlenk
    have HB := Lib.hid hblk
    have hspl : l.flatMap encUse = (l.take k0).flatMap encUse ++ encUse x0 ++ (l.drop (k0 + 1)).flatMap encUse := by
      conv => lhs; rw [← List.take_append_drop k0 l, drop_at hk0]
      rw [List.flatMap_append, List.flatMap_cons, List.append_assoc]
    have HS := Lib.hid hspl
    clear hall hi hk0 hx0 hb0 hidx hp hpI hv row hrp hallK hfil0 hsz hszn hlenk hblk hspl
    go_enter Try.func66, Try.ntmps66
    go_wp2_with (go_at_call 93; refine (HI.out).mono ?_; rintro e w1 ⟨rfl, b1⟩)
    have g1 : w.grownBy w1 (some G) := gr_below (World.grownBy.refl w _) b1
    have hb1 := block_below b1 HB.out
    go_loopw [5, 6] (fun iv jv w' => ∃ (i j : Nat) (M : List Value), i < j ∧ j ≤ l.length ∧ iv = .int .i64 i ∧ jv = .int .i64 j ∧ Hid (((l.take j).filter fun y => !p y).length = i) ∧ Hid (M.length = (j - i) * 3) ∧
      Hid (w'.heap[G]? = some (.cells (((l.take j).filter fun y => !p y).flatMap encUse ++ M ++ ((l.drop j).flatMap encUse ++ Z)).toArray 71 (0, 0))) ∧ w.grownBy w' (some G)) (fun _ jv _ => l.length - (intOf jv).toNat)
    case atStart =>
      refine ⟨k0, k0 + 1, encUse x0, by omega, by omega, by go_num, by go_num, Lib.hid (by rw [HF.out]; exact HLK.out), Lib.hid (by rw [show k0 + 1 - k0 = 1 by omega]; rfl), Lib.hid ?_, g1⟩
      rw [HF.out, hb1, HS.out]
      simp only [List.append_assoc]
    case round =>
      clear hb1 g1
      obtain ⟨i, j, M, hij, hjl, rfl, rfl, hfi, hM, hblk, gr⟩ := hrel
      by_cases h : j < l.length
      · obtain ⟨x, hx⟩ : ∃ x, l[j]? = some x := ⟨_, List.getElem?_eq_getElem h⟩
        have hdr := drop_at hx
        have hks := keep_step (p := p) hx
        have hFl : (((l.take j).filter fun y => !p y).flatMap encUse).length = i * 3 := by rw [encs_lenUse, hfi.out]
        have hblk2 := hblk.out
        rw [hdr, List.flatMap_cons, List.append_assoc (encUse x)] at hblk2
        have hFM : (((l.take j).filter fun y => !p y).flatMap encUse ++ M).length = j * 3 := by rw [List.length_append, hFl, hM.out]; omega
        obtain ⟨e0, e1, e2⟩ := DelInvUse_at hblk2 hFM
        have hjI : (j : Int) < (l.length : Int) := by omega
        have hiI : (i : Int) < (l.length : Int) := by omega
        have bt := bl_alloc (Below.refl wr.heap.size wr) (.cells #[.int .i64 x.signer, .int .i64 x.leaf, .string x.text] 71)
        have bb := alloc_new wr (.cells #[.int .i64 x.signer, .int .i64 x.leaf, .string x.text] 71)
        have hbt := block_below bt hblk2
        have grt := gr_below gr bt
        have hcall := HP.out x _ grt
        have hMn : 3 ≤ M.length := by rw [hM.out]; omega
        obtain ⟨m0, m1, m2, M', rfl⟩ : ∃ m0 m1 m2 M', M = m0 :: m1 :: m2 :: M' := by
          match M, hMn with
          | m0 :: m1 :: m2 :: M', _ => exact ⟨m0, m1, m2, M', rfl⟩
        have HX := Lib.hid hx
        have HKS := Lib.hid hks
        have HDR := Lib.hid hdr
        have HFL := Lib.hid hFl
        have HBT := Lib.hid hbt
        clear hx hks hdr hFl hFM hblk2 hblk hbt
        cases hpx : p x with
        | true =>
          rw [hpx] at hcall
          have HPX := Lib.hid hpx
          have HC := Lib.hid hcall
          clear hpx hcall hMn
          go_upto_region 8 with fail
          generalize wr.alloc (.cells #[.int .i64 x.signer, .int .i64 x.leaf, .string x.text] 71) = V at *
          have y := block_cell bb (i := 0) rfl
          have y0 := block_cell bb (i := 0) rfl
          have y1 := block_cell bb (i := 1) rfl
          have y2 := block_cell bb (i := 2) rfl
          go_wp2_with (go_at_fn g; refine (HC.out).mono ?_; rintro e w3 ⟨rfl, b3⟩)
          go_roundw
          case rel =>
            refine ⟨i, j + 1, m0 :: m1 :: m2 :: M' ++ encUse x, by omega, by omega, rfl, by go_num, Lib.hid (by rw [HKS.out, HPX.out, List.length_append]; simpa using hfi.out), Lib.hid (by rw [List.length_append, hM.out]; simp [encUse]; omega), Lib.hid ?_, gr_below grt b3⟩
            rw [block_below b3 HBT.out, HKS.out, HPX.out]
            simp only [if_true, List.append_nil, List.append_assoc]
          case measure => simp [intOf]; omega
        | false =>
          rw [hpx] at hcall
          have HPX := Lib.hid hpx
          have HC := Lib.hid hcall
          clear hpx hcall hMn
          go_upto_region 8 with fail
          generalize wr.alloc (.cells #[.int .i64 x.signer, .int .i64 x.leaf, .string x.text] 71) = V at *
          have y := block_cell bb (i := 0) rfl
          have y0 := block_cell bb (i := 0) rfl
          have y1 := block_cell bb (i := 1) rfl
          have y2 := block_cell bb (i := 2) rfl
          go_upto_region 9 with (go_at_fn g; refine (HC.out).mono ?_; rintro e w3 ⟨rfl, b3⟩)
          have hb3 := block_below b3 HBT.out
          have gr3 := gr_below grt b3
          have x0 := cell_below b3 y0
          have x1 := cell_below b3 y1
          have x2 := cell_below b3 y2
          have c0 := cell_run (o := 0) hb3 HFL.out rfl
          have c1 := cell_run (o := 1) hb3 HFL.out rfl
          have c2 := cell_run (o := 2) hb3 HFL.out rfl
          have z0 := frozen_of_row w3 G (i * 3) _ 71 hb3
          have z1 := frozen_of_row w3 G (i * 3 + 1) _ 71 hb3
          have z2 := frozen_of_row w3 G (i * 3 + 2) _ 71 hb3
          have hset := set_blkL (set_blkL (set_blkL (hb3) (i * 3) (.int .i64 x.signer)) (i * 3 + 1) (.int .i64 x.leaf)) (i * 3 + 2) (.string x.text)
          rw [show ((((l.take j).filter fun y => !p y).flatMap encUse ++ m0 :: m1 :: m2 :: M') ++ (encUse x ++ ((l.drop (j + 1)).flatMap encUse ++ Z))) = (((l.take j).filter fun y => !p y).flatMap encUse ++ m0 :: m1 :: m2 :: (M' ++ (encUse x ++ ((l.drop (j + 1)).flatMap encUse ++ Z)))) by simp only [List.append_assoc, List.cons_append], ← HFL.out, set_runUse, HFL.out] at hset
          have grs := gr_set (gr_set (gr_set (gr3) (i * 3) (.int .i64 x.signer)) (i * 3 + 1) (.int .i64 x.leaf)) (i * 3 + 2) (.string x.text)
          have hthere : w3.there G (i * 3) 3 := by
            intro o ho
            refine ⟨?_, frozen_of_row w3 G _ _ 71 hb3⟩
            match o, ho with
            | 0, _ => exact Option.isSome_iff_exists.2 ⟨_, c0⟩
            | 1, _ => exact Option.isSome_iff_exists.2 ⟨_, c1⟩
            | 2, _ => exact Option.isSome_iff_exists.2 ⟨_, c2⟩
          obtain ⟨w4, hw4⟩ : ∃ w4, ((w3.setCell ⟨G, i * 3, none⟩ (.int .i64 x.signer)).setCell ⟨G, i * 3 + 1, none⟩ (.int .i64 x.leaf)).setCell ⟨G, i * 3 + 2, none⟩ (.string x.text) = w4 := ⟨_, rfl⟩
          rw [hw4] at hset grs
          have HSET := Lib.hid hset
          have HW4 := Lib.hid hw4
          have HTH := Lib.hid hthere
          clear hset c0 z0 c1 z1 c2 z2 hw4 hthere
          go_upto_region 10 with ((refine wpList_store_mid rfl 71 (.tmp 33) (.tmp 32) rfl G (i * 3) #[.int .i64 x.signer, .int .i64 x.leaf, .string x.text] rfl rfl HTH.out size_kUse (by simp [Value.oneCell']) ?_); rw [show w3.setCells G (i * 3) (#[.int .i64 x.signer, .int .i64 x.leaf, .string x.text] : Array Value).toList = w4 from HW4.out])
          go_wp2_with fail
          go_roundw
          case rel =>
            refine ⟨i + 1, j + 1, M' ++ encUse x, by omega, by omega, by go_num, by go_num, Lib.hid (by rw [HKS.out, HPX.out, List.length_append]; simpa using hfi.out), Lib.hid (by rw [List.length_append]; have := hM.out; simp [encUse] at this ⊢; omega), Lib.hid ?_, grs⟩
            rw [HSET.out, HKS.out, HPX.out]
            simp only [Bool.false_eq_true, if_false, List.flatMap_append, List.append_assoc, List.flatMap_cons, List.flatMap_nil, List.append_nil]
            rfl
          case measure => simp [intOf]; omega
      · have hjl2 : j = l.length := by omega
        subst hjl2
        have hblk2 := hblk.out
        have hFl : (((l.take l.length).filter fun y => !p y).flatMap encUse).length = i * 3 := by rw [encs_lenUse, hfi.out]
        rw [List.drop_length, List.flatMap_nil, List.nil_append] at hblk2
        rw [List.take_of_length_le (Nat.le_refl _)] at hblk2 hFl
        have hfi2 := hfi.out
        rw [List.take_of_length_le (Nat.le_refl _)] at hfi2
        have hML := hM.out
        have hZ : Z.length + l.length * 3 = c * 3 := by
          have := HSZ.out
          rw [List.length_append, encs_lenUse] at this
          omega
        have hcl := fun ty => run_clear_row (P := Try.prog) wr 67 71 ty _ Try.underlying67 zeroVUse (by decide) G (i * 3) (l.length - i) (c - i) 71 _ hblk2 (by omega) (by decide) (by
          show i * 3 + (l.length - i) * 3 ≤ _
          simp only [List.size_toArray, List.length_append]
          omega)
        generalize hQ : (Builtin.zeroCells (Value.cells (.agg #[.int .i64 0, .int .i64 0, .string ⟨#[]⟩])) (l.length - i)).toList = Q at hcl
        have hQl : Q.length = (l.length - i) * 3 := by rw [← hQ]; simp [size_zeroCells]; rfl
        have hX : (((l.filter fun y => !p y).flatMap encUse ++ M ++ Z).toArray.toList.take (i * 3) ++ Q ++ ((l.filter fun y => !p y).flatMap encUse ++ M ++ Z).toArray.toList.drop (i * 3 + Q.length)) = (l.filter fun y => !p y).flatMap encUse ++ (Q ++ Z) := by
          rw [List.append_assoc (List.flatMap _ _) M Z, ← hFl]
          simp only [List.take_left', List.append_assoc]
          congr 2
          rw [List.drop_append, List.drop_append]
          simp only [hFl, hQl, hML]
          rw [List.drop_of_length_le (by omega), List.drop_of_length_le (by omega), show i * 3 + (l.length - i) * 3 - i * 3 - (l.length - i) * 3 = 0 by omega]
          simp
        rw [hX] at hcl
        have hfin : (wr.setRow G ((l.filter fun y => !p y).flatMap encUse ++ (Q ++ Z)).toArray).heap[G]? = some (.cells ((l.filter fun y => !p y).flatMap encUse ++ (Q ++ Z)).toArray 71 (0, 0)) := setRow_heap wr G _ _ 71 _ hblk2
        have hlenX : ((l.filter fun y => !p y).flatMap encUse ++ (Q ++ Z)).length = c * 3 := by
          simp only [List.length_append, hFl, hQl]
          omega
        have hown : kUse.Own 71 B (wr.setRow G ((l.filter fun y => !p y).flatMap encUse ++ (Q ++ Z)).toArray) base (.slice (some ⟨G, 0, none⟩) i c) (l.filter fun x => !p x) :=
          Kd.own_of_form hfin (reps_mkUse fun x hx => flat_kUse _ _ _ _ _ _ (HK.out x (List.mem_filter.1 hx).1)) hG hfi2.symm (by omega) hcm hlenX
        have HOWN := Lib.hid hown
        have hic : ¬ (c = i) := by omega
        have hicI : (i : Int) < (c : Int) := by omega
        have hilI : (i : Int) ≤ (l.length : Int) := by omega
        clear hblk2 hFl hfi2 hML hZ hQ hQl hX hfin hlenX hown
        go_wp2_with fail
        go_ret
        exact ⟨⟨_, rfl, HOWN.out⟩, gr_setRow gr _⟩
end Go.Proofs.Ytglneailkgminaa
