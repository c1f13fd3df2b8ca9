/- Library functions at this program's structs: slices.Clone, IndexFunc, DeleteFunc. No claim of its own; no condition. -/
import Derived.Test.YtcbfpdenjdgnlaaGreatQt48
import Derived.Test.YtcbfpdenjdgnlaaGreatQt25
import Derived.Lib.SliceRun
import Derived.Shelf.Abstract
import Derived.Deep.MidRow
import Derived.WalkSpells
import Derived.Test.YtcbfpdenjdgnlaaGreatQt47
import Derived.Test.YtcbfpdenjdgnlaaGreatQt46
namespace Go.Proofs.YtcbfpdenjdgnlaaGreat
open Go.ChangeShapes Go.WideShapes Go.ChangeAt Go.RowKit
set_option linter.unusedVariables false
set_option linter.unusedSimpArgs false
set_option linter.unnecessarySimpa false
theorem encs_lenVote : ∀ l : List Vote, (l.flatMap encVote).length = l.length * 7
  | [] => rfl
  | x :: l => by rw [List.flatMap_cons, List.length_append, encs_lenVote l, List.length_cons]; simp [encVote]; omega
theorem reps_encVote {B : Nat} {w : World} {l : List Vote} {cs : List Value} (h : Kd.Reps kVote B w l cs) : cs = l.flatMap encVote := by
  induction h with
  | nil => rfl
  | cons hc _ ih => rw [ih, List.flatMap_cons, (kVote_open hc).1]; rfl
theorem reps_mkVote {B : Nat} {w : World} : ∀ {l : List Vote}, (∀ x ∈ l, kVote.K B w x (encVote x)) → Kd.Reps kVote B w l (l.flatMap encVote)
  | [], _ => .nil
  | x :: l, h => .cons (h x (by simp)) (reps_mkVote fun y hy => h y (by simp [hy]))
theorem reps_allVote {B : Nat} {w : World} {l : List Vote} {cs : List Value} (h : Kd.Reps kVote B w l cs) : ∀ x ∈ l, kVote.K B w x (encVote x) := by
  induction h with
  | nil => intro x hx; cases hx
  | cons hc _ ih =>
    intro x hx
    rcases List.mem_cons.1 hx with rfl | hx
    · have e := (kVote_open hc).1
      rw [show encVote x = _ from e.symm]
      exact hc
    · exact ih x hx
theorem set_runVote (F R : List Value) (m0 m1 m2 m3 m4 m5 m6 u0 u1 u2 u3 u4 u5 u6 : Value) : ((((((((F ++ m0 :: m1 :: m2 :: m3 :: m4 :: m5 :: m6 :: R).set (F.length) u0).set (F.length + 1) u1).set (F.length + 2) u2).set (F.length + 3) u3).set (F.length + 4) u4).set (F.length + 5) u5).set (F.length + 6) u6) = F ++ u0 :: u1 :: u2 :: u3 :: u4 :: u5 :: u6 :: R := by
  induction F with
  | nil => rfl
  | cons y F ih => simpa [Nat.add_right_comm] using ih
def DelAtVote (w : World) (G k : Nat) (x : Vote) : Prop := w.cell? ⟨G, k, none⟩ = some (.int .i64 x.kind) ∧ w.cell? ⟨G, k + 1, none⟩ = some (.int .i64 x.view) ∧ w.cell? ⟨G, k + 2, none⟩ = some (.int .i64 x.height) ∧ w.cell? ⟨G, k + 3, none⟩ = some (.string x.block) ∧ w.cell? ⟨G, k + 4, none⟩ = some (.int .i64 x.ticks) ∧ w.cell? ⟨G, k + 5, none⟩ = some (.int .i64 x.signer) ∧ w.cell? ⟨G, k + 6, none⟩ = some (.string x.sig)
theorem zeroVVote : ∀ w, (zeroValue 52).run Tryz.prog w = .ok (.agg #[.int .i64 0, .int .i64 0, .int .i64 0, .string ⟨#[]⟩, .int .i64 0, .int .i64 0, .string ⟨#[]⟩]) w := fun w => by kernel_rfl
theorem DelInvVote_at {w : World} {G : Nat} {F M R : List Value} {x : Vote} (hb : w.heap[G]? = some (.cells (F ++ M ++ (encVote x ++ R)).toArray 52 (0, 0))) {j : Nat} (hj : (F ++ M).length = j * 7) : w.cell? ⟨G, j * 7, none⟩ = some (.int .i64 x.kind) ∧ w.cell? ⟨G, j * 7 + 1, none⟩ = some (.int .i64 x.view) ∧ w.cell? ⟨G, j * 7 + 2, none⟩ = some (.int .i64 x.height) ∧ w.cell? ⟨G, j * 7 + 3, none⟩ = some (.string x.block) ∧ w.cell? ⟨G, j * 7 + 4, none⟩ = some (.int .i64 x.ticks) ∧ w.cell? ⟨G, j * 7 + 5, none⟩ = some (.int .i64 x.signer) ∧ w.cell? ⟨G, j * 7 + 6, none⟩ = some (.string x.sig) := by
  have key : ∀ (o : Nat) (u : Value), (encVote x)[o]? = some u → w.cell? ⟨G, j * 7 + o, none⟩ = some u := fun o u ho => block_cell hb (by
    have hlt : o < (encVote x).length := (List.getElem?_eq_some_iff.1 ho).1
    rw [List.getElem?_toArray, List.getElem?_append_right (by omega), ← hj, Nat.add_sub_cancel_left, List.getElem?_append_left hlt]
    exact ho)
  exact ⟨key 0 _ rfl, key 1 _ rfl, key 2 _ rfl, key 3 _ rfl, key 4 _ rfl, key 5 _ rfl, key 6 _ rfl⟩
set_option maxHeartbeats 1600000 in
set_option maxRecDepth 100000 in
theorem index_kMark (l : List Mark) (A : Option Addr) (n c : Nat) (w : World) (B g : Nat) (lb : Array Value) (p : Mark → Bool) (eg : ∀ args w, (callFunc g args).run Tryz.prog w = .ok (.enter g args) w) (hn : n = l.length) (hl : l.length ≤ 2097152) (hr : kMark.Row 34 B w A l)
    (hp : ∀ x W, Below w.heap.size w W → Calls Tryz.prog g (#[.agg #[.int .i64 x.view, .int .i64 x.height, .string x.block]] ++ lb) W fun e W' => e = .returned (.bool (p x)) ∧ Below W.heap.size W W') :
    Calls Tryz.prog 136 #[.slice A n c, .func (.func g) #[] lb] w fun e w' => e = .returned (.int .i64 (idxF p l)) ∧ Below w.heap.size w w' := by
  subst hn
  have HP := Lib.hid hp
  clear hp
  go_enter Tryz.func136, Tryz.ntmps136
  go_wp2_with fail
  go_loopw [8] (fun kv w' => ∃ k : Nat, k ≤ l.length ∧ kv = .int .i64 k ∧ Hid (∀ x ∈ l.take k, p x = false) ∧ Below w.heap.size w w') (fun kv _ => l.length - (intOf kv).toNat)
  case atStart => exact ⟨0, by omega, rfl, Lib.hid (by simp), Below.refl _ _⟩
  case round =>
    obtain ⟨k, h1, rfl, hall, bel⟩ := hrel
    by_cases h : k < l.length
    · obtain ⟨x, hx⟩ : ∃ x, l[k]? = some x := ⟨_, List.getElem?_eq_getElem h⟩
      obtain ⟨ad, rfl, e0, e1, e2, _⟩ := kMark_at (Kd.row_below bel hr) hx
      have hi1 : (k : Int) < (l.length : Int) := by omega
      have hcall := HP.out x wr bel
      cases hpx : p x with
      | true =>
        rw [hpx] at hcall
        have hres := idx_hit hx hall.out hpx
        have HR := Lib.hid hres
        have HC := Lib.hid hcall
        clear hres hx hpx hcall
        go_wp2_with (go_at_fn g; refine (HC.out).mono ?_; rintro e w1 ⟨rfl, b1⟩)
        go_ret
        exact ⟨by rw [HR.out]; rfl, bl_trans bel b1⟩
      | false =>
        rw [hpx] at hcall
        have hres := take_all hx hall.out hpx
        have HR := Lib.hid hres
        have HC := Lib.hid hcall
        clear hres hx hpx hcall
        go_wp2_with (go_at_fn g; refine (HC.out).mono ?_; rintro e w1 ⟨rfl, b1⟩)
        go_roundw
        case rel => exact ⟨k + 1, by omega, by go_num, HR, bl_trans bel b1⟩
        case measure => simp [intOf]; omega
    · have hk : k = l.length := by omega
      subst hk
      rw [List.take_of_length_le (Nat.le_refl _)] at hall
      have hres := idx_none hall.out
      have HR := Lib.hid hres
      clear hres
      go_wp2_with fail
      go_ret
      exact ⟨by rw [HR.out]; rfl, bel⟩
set_option maxHeartbeats 3200000 in
set_option maxRecDepth 100000 in
theorem delete_kMark (l : List Mark) (v : Value) (w : World) (B base g : Nat) (lb : Array Value) (p : Mark → Bool) (eg : ∀ args w, (callFunc g args).run Tryz.prog w = .ok (.enter g args) w) (hl : l.length ≤ 2097152) (hv : kMark.Own 34 B w base v l)
    (hp : ∀ x W, w.grownBy W v.ownBlock → Calls Tryz.prog g (#[.agg #[.int .i64 x.view, .int .i64 x.height, .string x.block]] ++ lb) W fun e W' => e = .returned (.bool (p x)) ∧ Below W.heap.size W W') :
    Calls Tryz.prog 71 #[v, .func (.func g) #[] lb] w fun e w' => (∃ v', e = .returned v' ∧ kMark.Own 34 B w' base v' (l.filter fun x => !p x)) ∧ w.grownBy w' v.ownBlock := by
  obtain ⟨A, c, rfl, hlc, hcm, row, hA⟩ := Kd.own_row hv
  have hpI : ∀ x W, Below w.heap.size w W → Calls Tryz.prog g (#[.agg #[.int .i64 x.view, .int .i64 x.height, .string x.block]] ++ lb) W fun e W' => e = .returned (.bool (p x)) ∧ Below W.heap.size W W' := fun x W hb => hp x W (gr_below (World.grownBy.refl w _) hb)
  have hidx := index_kMark l A l.length c w B g lb p eg rfl hl row hpI
  by_cases hall : ∀ x ∈ l, p x = false
  · have hi := idx_none hall
    have hf : l.filter (fun x => !p x) = l := List.filter_eq_self.2 fun x hx => by rw [hall x hx]; rfl
    rw [hi] at hidx
    rw [hf]
    have HI := Lib.hid hidx
    have HV := Lib.hid hv
    clear hall hi hf hidx hp hpI hv row
    go_enter Tryz.func71, Tryz.ntmps71
    go_wp2_with (go_at_call 136; refine (HI.out).mono ?_; rintro e w1 ⟨rfl, b1⟩)
    go_ret
    exact ⟨⟨_, rfl, Kd.own_below HV.out b1⟩, gr_below (World.grownBy.refl w _) b1⟩
  · obtain ⟨k0, x0, hk0, hx0, hb0⟩ : ∃ (k0 : Nat) (x0 : Mark), l[k0]? = some x0 ∧ p x0 = true ∧ ∀ y ∈ l.take k0, p y = false := by
      have : ∃ k : Nat, ∃ x, l[k]? = some x ∧ p x = true := by
        obtain ⟨x, hx⟩ := Classical.not_forall.1 hall
        obtain ⟨hx1, hx2⟩ := Classical.not_imp.1 hx
        obtain ⟨k, hk⟩ := List.getElem?_of_mem hx1
        exact ⟨k, x, hk, by simpa using hx2⟩
      have hmin : ∃ k : Nat, (∃ x, l[k]? = some x ∧ p x = true) ∧ ∀ m : Nat, m < k → ¬ ∃ x, l[m]? = some x ∧ p x = true := by
        obtain ⟨k, hk⟩ := this
        induction k using Nat.strongRecOn with
        | ind k ih =>
          by_cases h : ∃ m, m < k ∧ ∃ x, l[m]? = some x ∧ p x = true
          · obtain ⟨m, hm, hx⟩ := h
            exact ih m hm hx
          · exact ⟨k, hk, fun m hm hx => h ⟨m, hm, hx⟩⟩
      obtain ⟨k, ⟨x, hx1, hx2⟩, hm⟩ := hmin
      refine ⟨k, x, hx1, hx2, fun y hy => ?_⟩
      obtain ⟨m, hmk⟩ := List.getElem?_of_mem hy
      have hlt : m < k := by
        have := (List.getElem?_eq_some_iff.1 hmk).1
        rw [List.length_take] at this
        omega
      cases hpy : p y with
      | false => rfl
      | true => exact absurd ⟨y, by rw [List.getElem?_take, if_pos hlt] at hmk; exact hmk, hpy⟩ (hm m hlt)
    have hi := idx_hit hk0 hb0 hx0
    have hlt0 : k0 < l.length := (List.getElem?_eq_some_iff.1 hk0).1
    obtain ⟨G, c', cs, Z, hAc, hG, hblk, hrp, _, _, hsz⟩ := Kd.own_form hv (by rintro rfl; simp at hlt0)
    injection hAc with hA1 hA2 hA3
    subst hA1 hA3
    have hcs := reps_encMark hrp
    have hallK := reps_allMark hrp
    subst hcs
    have hszn : (l.flatMap encMark ++ Z).length = c * 3 := hsz
    have hfil0 : (l.take (k0 + 1)).filter (fun y => !p y) = l.take k0 := by
      rw [keep_step hk0, hx0]
      simp only [if_true, List.append_nil]
      exact List.filter_eq_self.2 fun x hx => by rw [hb0 x hx]; rfl
    have hlenk : (l.take k0).length = k0 := by rw [List.length_take]; omega
    rw [hi] at hidx
    have hne1 : ((k0 : Int) == -1) = false := beq_eq_false_iff_ne.2 (by omega)
    have HI := Lib.hid hidx
    have HP := Lib.hid hp
    have HK := Lib.hid hallK
    have HF := Lib.hid hfil0
    have HSZ := Lib.hid hszn
    have HLK := Lib.hid hlenk
    have HB := Lib.hid hblk
    have hspl : l.flatMap encMark = (l.take k0).flatMap encMark ++ encMark x0 ++ (l.drop (k0 + 1)).flatMap encMark := by
      conv => lhs; rw [← List.take_append_drop k0 l, drop_at hk0]
      rw [List.flatMap_append, List.flatMap_cons, List.append_assoc]
    have HS := Lib.hid hspl
    clear hall hi hk0 hx0 hb0 hidx hp hpI hv row hrp hallK hfil0 hsz hszn hlenk hblk hspl
    go_enter Tryz.func71, Tryz.ntmps71
    go_wp2_with (go_at_call 136; refine (HI.out).mono ?_; rintro e w1 ⟨rfl, b1⟩)
    have g1 : w.grownBy w1 (some G) := gr_below (World.grownBy.refl w _) b1
    have hb1 := block_below b1 HB.out
    go_loopw [5, 6] (fun iv jv w' => ∃ (i j : Nat) (M : List Value), i < j ∧ j ≤ l.length ∧ iv = .int .i64 i ∧ jv = .int .i64 j ∧ Hid (((l.take j).filter fun y => !p y).length = i) ∧ Hid (M.length = (j - i) * 3) ∧
      Hid (w'.heap[G]? = some (.cells (((l.take j).filter fun y => !p y).flatMap encMark ++ M ++ ((l.drop j).flatMap encMark ++ Z)).toArray 34 (0, 0))) ∧ w.grownBy w' (some G)) (fun _ jv _ => l.length - (intOf jv).toNat)
    case atStart =>
      refine ⟨k0, k0 + 1, encMark x0, by omega, by omega, by go_num, by go_num, Lib.hid (by rw [HF.out]; exact HLK.out), Lib.hid (by rw [show k0 + 1 - k0 = 1 by omega]; rfl), Lib.hid ?_, g1⟩
      rw [HF.out, hb1, HS.out]
      simp only [List.append_assoc]
    case round =>
      clear hb1 g1
      obtain ⟨i, j, M, hij, hjl, rfl, rfl, hfi, hM, hblk, gr⟩ := hrel
      by_cases h : j < l.length
      · obtain ⟨x, hx⟩ : ∃ x, l[j]? = some x := ⟨_, List.getElem?_eq_getElem h⟩
        have hdr := drop_at hx
        have hks := keep_step (p := p) hx
        have hFl : (((l.take j).filter fun y => !p y).flatMap encMark).length = i * 3 := by rw [encs_lenMark, hfi.out]
        have hblk2 := hblk.out
        rw [hdr, List.flatMap_cons, List.append_assoc (encMark x)] at hblk2
        have hFM : (((l.take j).filter fun y => !p y).flatMap encMark ++ M).length = j * 3 := by rw [List.length_append, hFl, hM.out]; omega
        obtain ⟨e0, e1, e2⟩ := DelInvMark_at hblk2 hFM
        have hjI : (j : Int) < (l.length : Int) := by omega
        have hiI : (i : Int) < (l.length : Int) := by omega
        have bt := bl_alloc (Below.refl wr.heap.size wr) (.cells #[.int .i64 x.view, .int .i64 x.height, .string x.block] 34)
        have bb := alloc_new wr (.cells #[.int .i64 x.view, .int .i64 x.height, .string x.block] 34)
        have hbt := block_below bt hblk2
        have grt := gr_below gr bt
        have hcall := HP.out x _ grt
        have hMn : 3 ≤ M.length := by rw [hM.out]; omega
        obtain ⟨m0, m1, m2, M', rfl⟩ : ∃ m0 m1 m2 M', M = m0 :: m1 :: m2 :: M' := by
          match M, hMn with
          | m0 :: m1 :: m2 :: M', _ => exact ⟨m0, m1, m2, M', rfl⟩
        have HX := Lib.hid hx
        have HKS := Lib.hid hks
        have HDR := Lib.hid hdr
        have HFL := Lib.hid hFl
        have HBT := Lib.hid hbt
        clear hx hks hdr hFl hFM hblk2 hblk hbt
        cases hpx : p x with
        | true =>
          rw [hpx] at hcall
          have HPX := Lib.hid hpx
          have HC := Lib.hid hcall
          clear hpx hcall hMn
          go_upto_region 8 with fail
          generalize wr.alloc (.cells #[.int .i64 x.view, .int .i64 x.height, .string x.block] 34) = V at *
          have y := block_cell bb (i := 0) rfl
          have y0 := block_cell bb (i := 0) rfl
          have y1 := block_cell bb (i := 1) rfl
          have y2 := block_cell bb (i := 2) rfl
          go_wp2_with (go_at_fn g; refine (HC.out).mono ?_; rintro e w3 ⟨rfl, b3⟩)
          go_roundw
          case rel =>
            refine ⟨i, j + 1, m0 :: m1 :: m2 :: M' ++ encMark x, by omega, by omega, rfl, by go_num, Lib.hid (by rw [HKS.out, HPX.out, List.length_append]; simpa using hfi.out), Lib.hid (by rw [List.length_append, hM.out]; simp [encMark]; omega), Lib.hid ?_, gr_below grt b3⟩
            rw [block_below b3 HBT.out, HKS.out, HPX.out]
            simp only [if_true, List.append_nil, List.append_assoc]
          case measure => simp [intOf]; omega
        | false =>
          rw [hpx] at hcall
          have HPX := Lib.hid hpx
          have HC := Lib.hid hcall
          clear hpx hcall hMn
          go_upto_region 8 with fail
          generalize wr.alloc (.cells #[.int .i64 x.view, .int .i64 x.height, .string x.block] 34) = V at *
          have y := block_cell bb (i := 0) rfl
          have y0 := block_cell bb (i := 0) rfl
          have y1 := block_cell bb (i := 1) rfl
          have y2 := block_cell bb (i := 2) rfl
          go_upto_region 9 with (go_at_fn g; refine (HC.out).mono ?_; rintro e w3 ⟨rfl, b3⟩)
          have hb3 := block_below b3 HBT.out
          have gr3 := gr_below grt b3
          have x0 := cell_below b3 y0
          have x1 := cell_below b3 y1
          have x2 := cell_below b3 y2
          have c0 := cell_run (o := 0) hb3 HFL.out rfl
          have c1 := cell_run (o := 1) hb3 HFL.out rfl
          have c2 := cell_run (o := 2) hb3 HFL.out rfl
          have z0 := frozen_of_row w3 G (i * 3) _ 34 hb3
          have z1 := frozen_of_row w3 G (i * 3 + 1) _ 34 hb3
          have z2 := frozen_of_row w3 G (i * 3 + 2) _ 34 hb3
          have hset := set_blkL (set_blkL (set_blkL (hb3) (i * 3) (.int .i64 x.view)) (i * 3 + 1) (.int .i64 x.height)) (i * 3 + 2) (.string x.block)
          rw [show ((((l.take j).filter fun y => !p y).flatMap encMark ++ m0 :: m1 :: m2 :: M') ++ (encMark x ++ ((l.drop (j + 1)).flatMap encMark ++ Z))) = (((l.take j).filter fun y => !p y).flatMap encMark ++ m0 :: m1 :: m2 :: (M' ++ (encMark x ++ ((l.drop (j + 1)).flatMap encMark ++ Z)))) by simp only [List.append_assoc, List.cons_append], ← HFL.out, set_runMark, HFL.out] at hset
          have grs := gr_set (gr_set (gr_set (gr3) (i * 3) (.int .i64 x.view)) (i * 3 + 1) (.int .i64 x.height)) (i * 3 + 2) (.string x.block)
          have hthere : w3.there G (i * 3) 3 := by
            intro o ho
            refine ⟨?_, frozen_of_row w3 G _ _ 34 hb3⟩
            match o, ho with
            | 0, _ => exact Option.isSome_iff_exists.2 ⟨_, c0⟩
            | 1, _ => exact Option.isSome_iff_exists.2 ⟨_, c1⟩
            | 2, _ => exact Option.isSome_iff_exists.2 ⟨_, c2⟩
          obtain ⟨w4, hw4⟩ : ∃ w4, ((w3.setCell ⟨G, i * 3, none⟩ (.int .i64 x.view)).setCell ⟨G, i * 3 + 1, none⟩ (.int .i64 x.height)).setCell ⟨G, i * 3 + 2, none⟩ (.string x.block) = w4 := ⟨_, rfl⟩
          rw [hw4] at hset grs
          have HSET := Lib.hid hset
          have HW4 := Lib.hid hw4
          have HTH := Lib.hid hthere
          clear hset c0 z0 c1 z1 c2 z2 hw4 hthere
          go_upto_region 10 with ((refine wpList_store_mid rfl 34 (.tmp 33) (.tmp 32) rfl G (i * 3) #[.int .i64 x.view, .int .i64 x.height, .string x.block] rfl rfl HTH.out size_kMark (by simp [Value.oneCell']) ?_); rw [show w3.setCells G (i * 3) (#[.int .i64 x.view, .int .i64 x.height, .string x.block] : Array Value).toList = w4 from HW4.out])
          go_wp2_with fail
          go_roundw
          case rel =>
            refine ⟨i + 1, j + 1, M' ++ encMark x, by omega, by omega, by go_num, by go_num, Lib.hid (by rw [HKS.out, HPX.out, List.length_append]; simpa using hfi.out), Lib.hid (by rw [List.length_append]; have := hM.out; simp [encMark] at this ⊢; omega), Lib.hid ?_, grs⟩
            rw [HSET.out, HKS.out, HPX.out]
            simp only [Bool.false_eq_true, if_false, List.flatMap_append, List.append_assoc, List.flatMap_cons, List.flatMap_nil, List.append_nil]
            rfl
          case measure => simp [intOf]; omega
      · have hjl2 : j = l.length := by omega
        subst hjl2
        have hblk2 := hblk.out
        have hFl : (((l.take l.length).filter fun y => !p y).flatMap encMark).length = i * 3 := by rw [encs_lenMark, hfi.out]
        rw [List.drop_length, List.flatMap_nil, List.nil_append] at hblk2
        rw [List.take_of_length_le (Nat.le_refl _)] at hblk2 hFl
        have hfi2 := hfi.out
        rw [List.take_of_length_le (Nat.le_refl _)] at hfi2
        have hML := hM.out
        have hZ : Z.length + l.length * 3 = c * 3 := by
          have := HSZ.out
          rw [List.length_append, encs_lenMark] at this
          omega
        have hcl := fun ty => run_clear_row (P := Tryz.prog) wr 65 34 ty _ Tryz.underlying65 zeroVMark (by decide) G (i * 3) (l.length - i) (c - i) 34 _ hblk2 (by omega) (by decide) (by
          show i * 3 + (l.length - i) * 3 ≤ _
          simp only [List.size_toArray, List.length_append]
          omega)
        generalize hQ : (Builtin.zeroCells (Value.cells (.agg #[.int .i64 0, .int .i64 0, .string ⟨#[]⟩])) (l.length - i)).toList = Q at hcl
        have hQl : Q.length = (l.length - i) * 3 := by rw [← hQ]; simp [size_zeroCells]; rfl
        have hX : (((l.filter fun y => !p y).flatMap encMark ++ M ++ Z).toArray.toList.take (i * 3) ++ Q ++ ((l.filter fun y => !p y).flatMap encMark ++ M ++ Z).toArray.toList.drop (i * 3 + Q.length)) = (l.filter fun y => !p y).flatMap encMark ++ (Q ++ Z) := by
          rw [List.append_assoc (List.flatMap _ _) M Z, ← hFl]
          simp only [List.take_left', List.append_assoc]
          congr 2
          rw [List.drop_append, List.drop_append]
          simp only [hFl, hQl, hML]
          rw [List.drop_of_length_le (by omega), List.drop_of_length_le (by omega), show i * 3 + (l.length - i) * 3 - i * 3 - (l.length - i) * 3 = 0 by omega]
          simp
        rw [hX] at hcl
        have hfin : (wr.setRow G ((l.filter fun y => !p y).flatMap encMark ++ (Q ++ Z)).toArray).heap[G]? = some (.cells ((l.filter fun y => !p y).flatMap encMark ++ (Q ++ Z)).toArray 34 (0, 0)) := setRow_heap wr G _ _ 34 _ hblk2
        have hlenX : ((l.filter fun y => !p y).flatMap encMark ++ (Q ++ Z)).length = c * 3 := by
          simp only [List.length_append, hFl, hQl]
          omega
        have hown : kMark.Own 34 B (wr.setRow G ((l.filter fun y => !p y).flatMap encMark ++ (Q ++ Z)).toArray) base (.slice (some ⟨G, 0, none⟩) i c) (l.filter fun x => !p x) :=
          Kd.own_of_form hfin (reps_mkMark fun x hx => flat_kMark _ _ _ _ _ _ (HK.out x (List.mem_filter.1 hx).1)) hG hfi2.symm (by omega) hcm hlenX
        have HOWN := Lib.hid hown
        have hic : ¬ (c = i) := by omega
        have hicI : (i : Int) < (c : Int) := by omega
        have hilI : (i : Int) ≤ (l.length : Int) := by omega
        clear hblk2 hFl hfi2 hML hZ hQ hQl hX hfin hlenX hown
        go_wp2_with fail
        go_ret
        exact ⟨⟨_, rfl, HOWN.out⟩, gr_setRow gr _⟩
end Go.Proofs.YtcbfpdenjdgnlaaGreat
/- slices.SortFunc at this program's structs, for rows of the call's own. No claim of its own; no condition. -/
namespace Go.Proofs.YtcbfpdenjdgnlaaGreat
open Go.ChangeShapes Go.WideShapes Go.ChangeAt Go.RowKit Go.Sort Go.Shelf
set_option linter.unusedVariables false
set_option linter.unusedSimpArgs false
instance : Inhabited Vote := ⟨0, 0, 0, ⟨#[]⟩, 0, 0, ⟨#[]⟩⟩
theorem sortIns0Vote (p : Option Addr) (cap : Nat) (fv : Value) (w : World) : Calls Tryz.prog 198 #[.slice p 0 cap, .int .i64 0, .int .i64 0, fv] w fun e w' => e = .returned (.tuple #[]) ∧ w' = w := by
  go_enter Tryz.func198, Tryz.ntmps198
  go_wp2
  refine wp_loop_rounds 1 ?_
  rw [rounds_succ]
  go_wp2
  go_end0
  exact ⟨rfl, rfl⟩
theorem sortPdq0Vote (p : Option Addr) (cap : Nat) (lim : Int) (fv : Value) (w : World) : Calls Tryz.prog 132 #[.slice p 0 cap, .int .i64 0, .int .i64 0, .int .i64 lim, fv] w fun e w' => e = .returned (.tuple #[]) ∧ w' = w := by
  go_enter Tryz.func132, Tryz.ntmps132
  go_wp2
  refine wp_loop_rounds 1 ?_
  rw [rounds_succ]
  go_wp2_with (go_at_call 198; refine (sortIns0Vote p cap fv _).mono ?_; rintro e w' ⟨rfl, rfl⟩)
  (try simp only [Exit.inBlock, Exit.then]); refine bodyPost_ret (results_none rfl _ _ _) rfl ?_
  exact ⟨rfl, rfl⟩
theorem sort0Vote (p : Option Addr) (cap : Nat) (fv : Value) (w : World) : Calls Tryz.prog 66 #[.slice p 0 cap, fv] w fun e w' => e = .returned (.tuple #[]) ∧ w' = w := by
  have hl : ∀ W, Calls Tryz.prog 133 #[.int .u64 0] W fun e w' => e = .returned (.int .i64 (Lib.bitLen 0 : Nat)) ∧ w' = W := fun W => Any.bits_Len (SlLaysF0.n15.bits (P := Tryz.prog) (ρ := Tryz.sortVote_ren) { Tryz.sortVote with }) 0 W (by omega) (by omega)
  go_enter Tryz.func66, Tryz.ntmps66
  go_wp2_with (first | (go_at_call 133; refine (hl _).mono ?_; rintro e w' ⟨rfl, rfl⟩) | (go_at_call 132; refine (sortPdq0Vote p cap _ fv _).mono ?_; rintro e w' ⟨rfl, rfl⟩))
  go_end0
  exact ⟨rfl, rfl⟩
theorem enc_lenVote (x : Vote) : (encVote x).length = 7 := rfl
theorem enc_oneVote (x : Vote) : ∀ v ∈ encVote x, v.oneCell' = true := by
  intro v hv
  simp only [encVote, List.mem_cons, List.not_mem_nil, or_false] at hv
  rcases hv with rfl | rfl | rfl | rfl | rfl | rfl | rfl <;> rfl
theorem sortVote (l : List Vote) (v : Value) (w : World) (B base : Nat) (hl : l.length ≤ 2097152) (own : kVote.Own 52 B w base v l) :
    Calls Tryz.prog 66 #[v, .func (.func 67) #[] #[]] w fun e w' => e = .returned (.tuple #[]) ∧ (∃ l' : List Vote, l'.Perm l ∧ l'.Pairwise (fun a b => ltOf ordV b a = false) ∧ kVote.Own 52 B w' base v l') ∧ w.grownBy w' v.ownBlock := by
  by_cases hne : l = []
  · subst hne
    obtain ⟨A, c, rfl, _, _, _, _⟩ := Kd.own_row own
    exact (sort0Vote A c _ w).mono fun e w' ⟨he, hw⟩ => ⟨he, ⟨[], List.Perm.refl _, List.Pairwise.nil, by rw [hw]; exact own⟩, by rw [hw]; exact World.grownBy.refl w _⟩
  · obtain ⟨G, c, cs, Z, rfl, hG, hblk, hrp, hlc, hcm, hsz⟩ := Kd.own_form own hne
    have hcs := reps_encVote hrp
    have hallK := reps_allVote hrp
    subst hcs
    have eg : ∀ args w, (callFunc 67 args).run Tryz.prog w = .ok (.enter 67 args) w := enters_of Tryz.func67 (by kernel_rfl) rfl
    have hcmp : CmpLays Tryz.prog 67 #[] encVote 7 ordV G 0 l.toArray.size w := fun _ _ _ _ x y => lorder_calls x y _
    have hcon := AnyQ.slices_SortFunc Tryz.sortVote 7 Tryz.isAgg52 Tryz.sizeOf52 encVote enc_lenVote enc_oneVote ordV ordV_swo 67 #[] G 0 c l.toArray w eg hcmp (holds_of_block enc_lenVote (by decide) hblk) (blk_lt hblk) (by rw [List.size_toArray]; omega)
    change Calls Tryz.prog 66 _ _ _ at hcon
    rw [List.size_toArray] at hcon
    refine hcon.mono ?_
    rintro e w' ⟨he, d', n, os, hp, hs, rfl⟩
    have hd : d'.size = l.length := by rw [hp.1, List.size_toArray]
    have hpm : d'.toList.Perm l := perm_of_permIn (by rw [List.size_toArray]; exact hp)
    refine ⟨he, ⟨d'.toList, hpm, pairs_of_sorted (by rw [hd]; exact hs), ?_⟩, grown_of_sort⟩
    have hb := block_of_sort (enc := encVote) (n := n) (os := os) enc_lenVote (by decide) hblk hd
    refine Kd.own_of_form hb (reps_mkVote fun x hx => flat_kVote _ _ _ _ _ _ (hallK x (hpm.mem_iff.1 hx))) hG (by rw [show d'.toList.length = l.length by simp [hd]]) hlc hcm ?_
    rw [← hsz, List.length_append, List.length_append, encs_lenVote, encs_lenVote, Array.length_toList, hd]
end Go.Proofs.YtcbfpdenjdgnlaaGreat
