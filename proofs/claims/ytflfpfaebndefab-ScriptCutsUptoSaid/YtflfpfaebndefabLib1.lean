/- Library functions at this program's structs: slices.Clone, IndexFunc, DeleteFunc. No claim of its own; no condition. -/
import Derived.Test.YtflfpfaebndefabSmall
import Derived.Test.YtflfpfaebndefabFlat
import Derived.Lib.SliceRun
import Derived.Shelf.Abstract
import Derived.Deep.MidRow
import Derived.WalkSpells
namespace Go.Proofs.Ytflfpfaebndefab
open Go.ChangeShapes Go.WideShapes Go.ChangeAt Go.RowKit
set_option linter.unusedVariables false
set_option linter.unusedSimpArgs false
set_option linter.unnecessarySimpa false
theorem info_kTrace : (Try.prog.info? 47).map (fun i => (i.zero, i.size, i.bytes)) = some (some (.agg #[.int .i64 0, .int .i64 0, .int .i64 0, .int .i64 0]), 4, 32) := by kernel_rfl
theorem flat_kTrace : kTrace.Flat := Kd.flat_iso (Kd.flat_pair Kd.flat_int (Kd.flat_pair Kd.flat_int (Kd.flat_pair Kd.flat_int Kd.flat_int)))
theorem size_kTrace : (Try.prog.info? 47).map (·.size) = some 4 := by kernel_rfl
def encTrace (x : Trace) : List Value := [.int .i64 x.frm, .int .i64 x.to, .int .i64 x.sent, .int .i64 x.got]
set_option maxHeartbeats 800000 in
theorem clone_kTrace (l : List Trace) (A : Option Addr) (n c : Nat) (w : World) (B : Nat) (hn : n = l.length) (hl : l.length ≤ 2097152) (hr : kTrace.Row 47 B w A l) :
    Calls Try.prog 44 #[.slice A n c] w fun e w' => (∃ v, e = .returned v ∧ kTrace.Own 47 w.heap.size w' w.heap.size v l ∧ (v = .slice none 0 0 ↔ A = none)) ∧ Below w.heap.size w w' := by
  subst hn
  obtain ⟨i0, hi, hz0, hz1, hz2⟩ := info_parts info_kTrace
  have hnil : ∀ (w : World) (a : Option Addr) (n c n' c' : Nat), (binOp .eql 43 (.slice a n c) (.slice none n' c')).run Try.prog w = .ok (.bool a.isNone) w := fun w a n c n' c' => Lib.run_eql_slice_nil w _ _ a n c n' c' Try.underlying43
  cases A with
  | none =>
    have hx : l = [] := by
      cases l with
      | nil => rfl
      | cons x l => obtain ⟨ad, h, _⟩ := hr (by simp); cases h
    subst hx
    go_enter Try.func44, Try.ntmps44
    go_wp2_with fail
    go_ret
    exact ⟨⟨_, rfl, Kd.own_nil _ _ _ _ _, by simp⟩, Below.refl _ _⟩
  | some ad =>
    have qe := bl_alloc (Below.refl w.heap.size w) (.cells #[] 47)
    have rowe := Kd.row_below qe (Kd.row_flat flat_kTrace hr (Nat.le_refl _))
    go_enter Try.func44, Try.ntmps44
    go_wp2_with (at_builtin; refine wpList_append_row _ rfl (.tmp 5) (.tmp 6) 43 rfl kTrace w.heap.size w.heap.size 47 i0 _ 32 Try.underlying43 hi hz0 hz1 hz2 rfl (by decide) (.slice (some ⟨w.heap.size, 0, none⟩) 0 0) [] rfl (Kd.own_empty (Nat.le_refl _)) (some ad) c l.length l rfl rfl rowe (by simp only [List.length_nil]; omega) (by decide) qe.size (Nat.le_refl _) (by decide) ?_; intro v1 w1 own1 grw1 at1; have b1 := Kd.own_step qe (Kd.own_empty (d := kTrace) (e := 47) (B := w.heap.size) (Nat.le_refl _)) grw1; rw [List.nil_append] at own1)
    go_ret
    refine ⟨⟨v1, rfl, own1, ?_⟩, b1⟩
    constructor
    · rintro rfl
      rcases at1 with h | h <;> simp [Value.ownBlock] at h
    · intro h; cases h
/-- The first place of which a test holds; -1: none. -/
def idxF {α : Type} (p : α → Bool) (l : List α) : Int := match l.findIdx? p with | some i => (i : Int) | none => -1
theorem idx_none {α : Type} {p : α → Bool} {l : List α} (h : ∀ x ∈ l, p x = false) : idxF p l = -1 := by
  unfold idxF
  rw [List.findIdx?_eq_none_iff.2 (fun x hx => h x hx)]
theorem idx_hit {α : Type} {p : α → Bool} {l : List α} {k : Nat} {x : α} (hk : l[k]? = some x) (h : ∀ y ∈ l.take k, p y = false) (hx : p x = true) : idxF p l = (k : Int) := by
  unfold idxF
  have hlt : k < l.length := (List.getElem?_eq_some_iff.1 hk).1
  have : l.findIdx? p = some k := by
    rw [List.findIdx?_eq_some_iff_getElem]
    refine ⟨hlt, by rw [(List.getElem?_eq_some_iff.1 hk).2]; exact hx, fun j hj => ?_⟩
    have hm : l[j]'(by omega) ∈ l.take k := by
      rw [List.mem_take_iff_getElem]
      exact ⟨j, by omega, rfl⟩
    rw [h _ hm]
    simp
  rw [this]
theorem take_all {α : Type} {p : α → Bool} {l : List α} {k : Nat} {x : α} (hk : l[k]? = some x) (h : ∀ y ∈ l.take k, p y = false) (hx : p x = false) : ∀ y ∈ l.take (k + 1), p y = false := by
  intro y hy
  rw [List.take_add_one, hk] at hy
  rcases List.mem_append.1 hy with hy | hy
  · exact h y hy
  · obtain rfl : y = x := by simpa using hy
    exact hx
set_option maxHeartbeats 1600000 in
set_option maxRecDepth 100000 in
theorem index_kTrace (l : List Trace) (A : Option Addr) (n c : Nat) (w : World) (B g : Nat) (lb : Array Value) (p : Trace → Bool) (eg : ∀ args w, (callFunc g args).run Try.prog w = .ok (.enter g args) w) (hn : n = l.length) (hl : l.length ≤ 2097152) (hr : kTrace.Row 47 B w A l)
    (hp : ∀ x W, Below w.heap.size w W → Calls Try.prog g (#[.agg #[.int .i64 x.frm, .int .i64 x.to, .int .i64 x.sent, .int .i64 x.got]] ++ lb) W fun e W' => e = .returned (.bool (p x)) ∧ Below W.heap.size W W') :
    Calls Try.prog 56 #[.slice A n c, .func (.func g) #[] lb] w fun e w' => e = .returned (.int .i64 (idxF p l)) ∧ Below w.heap.size w w' := by
  subst hn
  have HP := Lib.hid hp
  clear hp
  go_enter Try.func56, Try.ntmps56
  go_wp2_with fail
  go_loopw [8] (fun kv w' => ∃ k : Nat, k ≤ l.length ∧ kv = .int .i64 k ∧ Hid (∀ x ∈ l.take k, p x = false) ∧ Below w.heap.size w w') (fun kv _ => l.length - (intOf kv).toNat)
  case atStart => exact ⟨0, by omega, rfl, Lib.hid (by simp), Below.refl _ _⟩
  case round =>
    obtain ⟨k, h1, rfl, hall, bel⟩ := hrel
    by_cases h : k < l.length
    · obtain ⟨x, hx⟩ : ∃ x, l[k]? = some x := ⟨_, List.getElem?_eq_getElem h⟩
      obtain ⟨ad, rfl, e0, e1, e2, e3, _⟩ := kTrace_at (Kd.row_below bel hr) hx
      have hi1 : (k : Int) < (l.length : Int) := by omega
      have hcall := HP.out x wr bel
      cases hpx : p x with
      | true =>
        rw [hpx] at hcall
        have hres := idx_hit hx hall.out hpx
        have HR := Lib.hid hres
        have HC := Lib.hid hcall
        clear hres hx hpx hcall
        go_wp2_with (go_at_fn g; refine (HC.out).mono ?_; rintro e w1 ⟨rfl, b1⟩)
        go_ret
        exact ⟨by rw [HR.out]; rfl, bl_trans bel b1⟩
      | false =>
        rw [hpx] at hcall
        have hres := take_all hx hall.out hpx
        have HR := Lib.hid hres
        have HC := Lib.hid hcall
        clear hres hx hpx hcall
        go_wp2_with (go_at_fn g; refine (HC.out).mono ?_; rintro e w1 ⟨rfl, b1⟩)
        go_roundw
        case rel => exact ⟨k + 1, by omega, by go_num, HR, bl_trans bel b1⟩
        case measure => simp [intOf]; omega
    · have hk : k = l.length := by omega
      subst hk
      rw [List.take_of_length_le (Nat.le_refl _)] at hall
      have hres := idx_none hall.out
      have HR := Lib.hid hres
      clear hres
      go_wp2_with fail
      go_ret
      exact ⟨by rw [HR.out]; rfl, bel⟩
theorem zeroCells_mem {z : Array Value} {n : Nat} {v : Value} (h : v ∈ (Builtin.zeroCells z n).toList) (hz : 0 < z.size) : v ∈ z.toList := by
  simp only [Builtin.zeroCells, Array.toList_map, List.mem_map] at h
  obtain ⟨i, _, rfl⟩ := h
  have hlt : i % z.size < z.size := Nat.mod_lt _ hz
  rw [getElem!_pos z _ hlt]
  exact Array.getElem_mem_toList hlt
theorem run_clear_row {P : Program} (w : World) (t e ty : TypeId) (z : Value) (ht : P.underlying t = some (.slice e)) (hv : ∀ w, (zeroValue e).run P w = .ok z w) (h1 : ∀ v ∈ z.cells.toList, v.oneCell' = true) (g o n c : Nat) (e' : TypeId) (cur : Array Value)
    (hg : w.heap[g]? = some (.cells cur e' (0, 0))) (hn : 0 < n) (hz : 0 < z.cells.size) (hfit : o + n * z.cells.size ≤ cur.size) :
    (Builtin.clear_ #[t] ty #[.slice (some ⟨g, o, none⟩) n c]).run P w = .ok (.tuple #[]) (w.setRow g (cur.toList.take o ++ (Builtin.zeroCells z.cells n).toList ++ cur.toList.drop (o + (Builtin.zeroCells z.cells n).toList.length)).toArray) := by
  have hl : (Builtin.zeroCells z.cells n).toList.length = n * z.cells.size := by simp [size_zeroCells]
  have hst := run_storeCells_at P g o e' (Builtin.zeroCells z.cells n).toList 0 cur w hg (by rw [hl]; simpa using hfit) (fun v hv' => h1 v (zeroCells_mem hv' hz))
  simp only [Nat.add_zero] at hst
  obtain ⟨m, rfl⟩ : ∃ m, n = m + 1 := ⟨n - 1, by omega⟩
  simp [Builtin.clear_, run_underlying ht, hv, hst]
theorem set_blkL {w : World} {G : Nat} {cs : List Value} {e : TypeId} (h : w.heap[G]? = some (.cells cs.toArray e (0, 0))) (j : Nat) (u : Value) : (w.setCell ⟨G, j, none⟩ u).heap[G]? = some (.cells (cs.set j u).toArray e (0, 0)) := by
  rw [heap_setCell_same w G j cs.toArray e u h]
  simp
theorem cell_run {w : World} {G : Nat} {F M R : List Value} {e : TypeId} (hb : w.heap[G]? = some (.cells (F ++ M ++ R).toArray e (0, 0))) {k o : Nat} {u : Value} (hF : F.length = k) (ho : M[o]? = some u) : w.cell? ⟨G, k + o, none⟩ = some u := block_cell hb (by
  have hlt : o < M.length := (List.getElem?_eq_some_iff.1 ho).1
  rw [List.getElem?_toArray, List.getElem?_append_left (by rw [List.length_append]; omega), List.getElem?_append_right (by omega), ← hF, Nat.add_sub_cancel_left]
  exact ho)
theorem cell_off {w : World} {G o : Nat} {v : Value} (h : w.cell? ⟨G, o, none⟩ = some v) (o' : Nat) (u : Value) (hne : o ≠ o') : (w.setCell ⟨G, o', none⟩ u).cell? ⟨G, o, none⟩ = some v := by
  rw [World.cell?_setCell_other _ _ _ _ (by intro e; injection e with _ e; exact hne e.symm)]
  exact h
theorem gr_below {a w w1 : World} {row : Option Nat} (h : a.grownBy w row) (k : Below w.heap.size w w1) : a.grownBy w1 row :=
  ⟨k.os.trans h.os, k.tape.trans h.tape, k.output.trans h.output, Nat.le_trans h.size k.size, fun i hi hne => (k.block i (Nat.lt_of_lt_of_le hi h.size)).trans (h.block i hi hne)⟩
theorem gr_set {a w : World} {G : Nat} (h : a.grownBy w (some G)) (j : Nat) (u : Value) : a.grownBy (w.setCell ⟨G, j, none⟩ u) (some G) :=
  ⟨h.os, h.tape, h.output, by rw [show (w.setCell ⟨G, j, none⟩ u).heap.size = w.heap.size by simp [World.setCell]]; exact h.size, fun i hi hne => (Below.heap_setCell w ⟨G, j, none⟩ u i (fun e => hne (by rw [e]))).trans (h.block i hi hne)⟩
theorem gr_setRow {a w : World} {G : Nat} (h : a.grownBy w (some G)) (xs : Array Value) : a.grownBy (w.setRow G xs) (some G) :=
  ⟨h.os, h.tape, h.output, by rw [show (w.setRow G xs).heap.size = w.heap.size by simp [World.setRow]]; exact h.size, fun i hi hne => (setRow_other w G i xs (fun e => hne (by rw [e]))).trans (h.block i hi hne)⟩
/-- What a test leaves of the first k. -/
theorem keep_step {α : Type} {p : α → Bool} {l : List α} {k : Nat} {x : α} (h : l[k]? = some x) : (l.take (k + 1)).filter (fun y => !p y) = (l.take k).filter (fun y => !p y) ++ (if p x then [] else [x]) := by
  rw [List.take_add_one, h, List.filter_append]
  cases hp : p x <;> simp [hp]
theorem keep_le {α : Type} (p : α → Bool) (l : List α) (k : Nat) : ((l.take k).filter (fun y => !p y)).length ≤ k := Nat.le_trans (List.length_filter_le _ _) (by rw [List.length_take]; omega)
theorem drop_at {α : Type} {l : List α} {k : Nat} {x : α} (h : l[k]? = some x) : l.drop k = x :: l.drop (k + 1) := by
  obtain ⟨h2, h3⟩ := List.getElem?_eq_some_iff.1 h
  rw [List.drop_eq_getElem_cons h2, h3]
theorem encs_lenTrace : ∀ l : List Trace, (l.flatMap encTrace).length = l.length * 4
  | [] => rfl
  | x :: l => by rw [List.flatMap_cons, List.length_append, encs_lenTrace l, List.length_cons]; simp [encTrace]; omega
theorem reps_encTrace {B : Nat} {w : World} {l : List Trace} {cs : List Value} (h : Kd.Reps kTrace B w l cs) : cs = l.flatMap encTrace := by
  induction h with
  | nil => rfl
  | cons hc _ ih => rw [ih, List.flatMap_cons, (kTrace_open hc).1]; rfl
theorem reps_mkTrace {B : Nat} {w : World} : ∀ {l : List Trace}, (∀ x ∈ l, kTrace.K B w x (encTrace x)) → Kd.Reps kTrace B w l (l.flatMap encTrace)
  | [], _ => .nil
  | x :: l, h => .cons (h x (by simp)) (reps_mkTrace fun y hy => h y (by simp [hy]))
theorem reps_allTrace {B : Nat} {w : World} {l : List Trace} {cs : List Value} (h : Kd.Reps kTrace B w l cs) : ∀ x ∈ l, kTrace.K B w x (encTrace x) := by
  induction h with
  | nil => intro x hx; cases hx
  | cons hc _ ih =>
    intro x hx
    rcases List.mem_cons.1 hx with rfl | hx
    · have e := (kTrace_open hc).1
      rw [show encTrace x = _ from e.symm]
      exact hc
    · exact ih x hx
theorem set_runTrace (F R : List Value) (m0 m1 m2 m3 u0 u1 u2 u3 : Value) : (((((F ++ m0 :: m1 :: m2 :: m3 :: R).set (F.length) u0).set (F.length + 1) u1).set (F.length + 2) u2).set (F.length + 3) u3) = F ++ u0 :: u1 :: u2 :: u3 :: R := by
  induction F with
  | nil => rfl
  | cons y F ih => simpa [Nat.add_right_comm] using ih
theorem zeroVTrace : ∀ w, (zeroValue 47).run Try.prog w = .ok (.agg #[.int .i64 0, .int .i64 0, .int .i64 0, .int .i64 0]) w := fun w => by kernel_rfl
theorem DelInvTrace_at {w : World} {G : Nat} {F M R : List Value} {x : Trace} (hb : w.heap[G]? = some (.cells (F ++ M ++ (encTrace x ++ R)).toArray 47 (0, 0))) {j : Nat} (hj : (F ++ M).length = j * 4) : w.cell? ⟨G, j * 4, none⟩ = some (.int .i64 x.frm) ∧ w.cell? ⟨G, j * 4 + 1, none⟩ = some (.int .i64 x.to) ∧ w.cell? ⟨G, j * 4 + 2, none⟩ = some (.int .i64 x.sent) ∧ w.cell? ⟨G, j * 4 + 3, none⟩ = some (.int .i64 x.got) := by
  have key : ∀ (o : Nat) (u : Value), (encTrace x)[o]? = some u → w.cell? ⟨G, j * 4 + o, none⟩ = some u := fun o u ho => block_cell hb (by
    have hlt : o < (encTrace x).length := (List.getElem?_eq_some_iff.1 ho).1
    rw [List.getElem?_toArray, List.getElem?_append_right (by omega), ← hj, Nat.add_sub_cancel_left, List.getElem?_append_left hlt]
    exact ho)
  exact ⟨key 0 _ rfl, key 1 _ rfl, key 2 _ rfl, key 3 _ rfl⟩
set_option maxHeartbeats 3200000 in
set_option maxRecDepth 100000 in
theorem delete_kTrace (l : List Trace) (v : Value) (w : World) (B base g : Nat) (lb : Array Value) (p : Trace → Bool) (eg : ∀ args w, (callFunc g args).run Try.prog w = .ok (.enter g args) w) (hl : l.length ≤ 2097152) (hv : kTrace.Own 47 B w base v l)
    (hp : ∀ x W, w.grownBy W v.ownBlock → Calls Try.prog g (#[.agg #[.int .i64 x.frm, .int .i64 x.to, .int .i64 x.sent, .int .i64 x.got]] ++ lb) W fun e W' => e = .returned (.bool (p x)) ∧ Below W.heap.size W W') :
    Calls Try.prog 43 #[v, .func (.func g) #[] lb] w fun e w' => (∃ v', e = .returned v' ∧ kTrace.Own 47 B w' base v' (l.filter fun x => !p x)) ∧ w.grownBy w' v.ownBlock := by
  obtain ⟨A, c, rfl, hlc, hcm, row, hA⟩ := Kd.own_row hv
  have hpI : ∀ x W, Below w.heap.size w W → Calls Try.prog g (#[.agg #[.int .i64 x.frm, .int .i64 x.to, .int .i64 x.sent, .int .i64 x.got]] ++ lb) W fun e W' => e = .returned (.bool (p x)) ∧ Below W.heap.size W W' := fun x W hb => hp x W (gr_below (World.grownBy.refl w _) hb)
  have hidx := index_kTrace l A l.length c w B g lb p eg rfl hl row hpI
  by_cases hall : ∀ x ∈ l, p x = false
  · have hi := idx_none hall
    have hf : l.filter (fun x => !p x) = l := List.filter_eq_self.2 fun x hx => by rw [hall x hx]; rfl
    rw [hi] at hidx
    rw [hf]
    have HI := Lib.hid hidx
    have HV := Lib.hid hv
    clear hall hi hf hidx hp hpI hv row
    go_enter Try.func43, Try.ntmps43
    go_wp2_with (go_at_call 56; refine (HI.out).mono ?_; rintro e w1 ⟨rfl, b1⟩)
    go_ret
    exact ⟨⟨_, rfl, Kd.own_below HV.out b1⟩, gr_below (World.grownBy.refl w _) b1⟩
  · obtain ⟨k0, x0, hk0, hx0, hb0⟩ : ∃ (k0 : Nat) (x0 : Trace), l[k0]? = some x0 ∧ p x0 = true ∧ ∀ y ∈ l.take k0, p y = false := by
      have : ∃ k : Nat, ∃ x, l[k]? = some x ∧ p x = true := by
        obtain ⟨x, hx⟩ := Classical.not_forall.1 hall
        obtain ⟨hx1, hx2⟩ := Classical.not_imp.1 hx
        obtain ⟨k, hk⟩ := List.getElem?_of_mem hx1
        exact ⟨k, x, hk, by simpa using hx2⟩
      have hmin : ∃ k : Nat, (∃ x, l[k]? = some x ∧ p x = true) ∧ ∀ m : Nat, m < k → ¬ ∃ x, l[m]? = some x ∧ p x = true := by
        obtain ⟨k, hk⟩ := this
        induction k using Nat.strongRecOn with
        | ind k ih =>
          by_cases h : ∃ m, m < k ∧ ∃ x, l[m]? = some x ∧ p x = true
          · obtain ⟨m, hm, hx⟩ := h
            exact ih m hm hx
          · exact ⟨k, hk, fun m hm hx => h ⟨m, hm, hx⟩⟩
      obtain ⟨k, ⟨x, hx1, hx2⟩, hm⟩ := hmin
      refine ⟨k, x, hx1, hx2, fun y hy => ?_⟩
      obtain ⟨m, hmk⟩ := List.getElem?_of_mem hy
      have hlt : m < k := by
        have := (List.getElem?_eq_some_iff.1 hmk).1
        rw [List.length_take] at this
        omega
      cases hpy : p y with
      | false => rfl
      | true => exact absurd ⟨y, by rw [List.getElem?_take, if_pos hlt] at hmk; exact hmk, hpy⟩ (hm m hlt)
    have hi := idx_hit hk0 hb0 hx0
    have hlt0 : k0 < l.length := (List.getElem?_eq_some_iff.1 hk0).1
    obtain ⟨G, c', cs, Z, hAc, hG, hblk, hrp, _, _, hsz⟩ := Kd.own_form hv (by rintro rfl; simp at hlt0)
    injection hAc with hA1 hA2 hA3
    subst hA1 hA3
    have hcs := reps_encTrace hrp
    have hallK := reps_allTrace hrp
    subst hcs
    have hszn : (l.flatMap encTrace ++ Z).length = c * 4 := hsz
    have hfil0 : (l.take (k0 + 1)).filter (fun y => !p y) = l.take k0 := by
      rw [keep_step hk0, hx0]
      simp only [if_true, List.append_nil]
      exact List.filter_eq_self.2 fun x hx => by rw [hb0 x hx]; rfl
    have hlenk : (l.take k0).length = k0 := by rw [List.length_take]; omega
    rw [hi] at hidx
    have hne1 : ((k0 : Int) == -1) = false := beq_eq_false_iff_ne.2 (by omega)
    have HI := Lib.hid hidx
    have HP := Lib.hid hp
    have HK := Lib.hid hallK
    have HF := Lib.hid hfil0
    have HSZ := Lib.hid hszn
    have HLK := Lib.hid hlenk
    have HB := Lib.hid hblk
    have hspl : l.flatMap encTrace = (l.take k0).flatMap encTrace ++ encTrace x0 ++ (l.drop (k0 + 1)).flatMap encTrace := by
      conv => lhs; rw [← List.take_append_drop k0 l, drop_at hk0]
      rw [List.flatMap_append, List.flatMap_cons, List.append_assoc]
    have HS := Lib.hid hspl
    clear hall hi hk0 hx0 hb0 hidx hp hpI hv row hrp hallK hfil0 hsz hszn hlenk hblk hspl
    go_enter Try.func43, Try.ntmps43
    go_wp2_with (go_at_call 56; refine (HI.out).mono ?_; rintro e w1 ⟨rfl, b1⟩)
    have g1 : w.grownBy w1 (some G) := gr_below (World.grownBy.refl w _) b1
    have hb1 := block_below b1 HB.out
    go_loopw [5, 6] (fun iv jv w' => ∃ (i j : Nat) (M : List Value), i < j ∧ j ≤ l.length ∧ iv = .int .i64 i ∧ jv = .int .i64 j ∧ Hid (((l.take j).filter fun y => !p y).length = i) ∧ Hid (M.length = (j - i) * 4) ∧
      Hid (w'.heap[G]? = some (.cells (((l.take j).filter fun y => !p y).flatMap encTrace ++ M ++ ((l.drop j).flatMap encTrace ++ Z)).toArray 47 (0, 0))) ∧ w.grownBy w' (some G)) (fun _ jv _ => l.length - (intOf jv).toNat)
    case atStart =>
      refine ⟨k0, k0 + 1, encTrace x0, by omega, by omega, by go_num, by go_num, Lib.hid (by rw [HF.out]; exact HLK.out), Lib.hid (by rw [show k0 + 1 - k0 = 1 by omega]; rfl), Lib.hid ?_, g1⟩
      rw [HF.out, hb1, HS.out]
      simp only [List.append_assoc]
    case round =>
      clear hb1 g1
      obtain ⟨i, j, M, hij, hjl, rfl, rfl, hfi, hM, hblk, gr⟩ := hrel
      by_cases h : j < l.length
      · obtain ⟨x, hx⟩ : ∃ x, l[j]? = some x := ⟨_, List.getElem?_eq_getElem h⟩
        have hdr := drop_at hx
        have hks := keep_step (p := p) hx
        have hFl : (((l.take j).filter fun y => !p y).flatMap encTrace).length = i * 4 := by rw [encs_lenTrace, hfi.out]
        have hblk2 := hblk.out
        rw [hdr, List.flatMap_cons, List.append_assoc (encTrace x)] at hblk2
        have hFM : (((l.take j).filter fun y => !p y).flatMap encTrace ++ M).length = j * 4 := by rw [List.length_append, hFl, hM.out]; omega
        obtain ⟨e0, e1, e2, e3⟩ := DelInvTrace_at hblk2 hFM
        have hjI : (j : Int) < (l.length : Int) := by omega
        have hiI : (i : Int) < (l.length : Int) := by omega
        have bt := bl_alloc (Below.refl wr.heap.size wr) (.cells #[.int .i64 x.frm, .int .i64 x.to, .int .i64 x.sent, .int .i64 x.got] 47)
        have bb := alloc_new wr (.cells #[.int .i64 x.frm, .int .i64 x.to, .int .i64 x.sent, .int .i64 x.got] 47)
        have hbt := block_below bt hblk2
        have grt := gr_below gr bt
        have hcall := HP.out x _ grt
        have hMn : 4 ≤ M.length := by rw [hM.out]; omega
        obtain ⟨m0, m1, m2, m3, M', rfl⟩ : ∃ m0 m1 m2 m3 M', M = m0 :: m1 :: m2 :: m3 :: M' := by
          match M, hMn with
          | m0 :: m1 :: m2 :: m3 :: M', _ => exact ⟨m0, m1, m2, m3, M', rfl⟩
        have HX := Lib.hid hx
        have HKS := Lib.hid hks
        have HDR := Lib.hid hdr
        have HFL := Lib.hid hFl
        have HBT := Lib.hid hbt
        clear hx hks hdr hFl hFM hblk2 hblk hbt
        cases hpx : p x with
        | true =>
          rw [hpx] at hcall
          have HPX := Lib.hid hpx
          have HC := Lib.hid hcall
          clear hpx hcall hMn
          go_upto_region 8 with fail
          generalize wr.alloc (.cells #[.int .i64 x.frm, .int .i64 x.to, .int .i64 x.sent, .int .i64 x.got] 47) = V at *
          have y := block_cell bb (i := 0) rfl
          have y0 := block_cell bb (i := 0) rfl
          have y1 := block_cell bb (i := 1) rfl
          have y2 := block_cell bb (i := 2) rfl
          have y3 := block_cell bb (i := 3) rfl
          go_wp2_with (go_at_fn g; refine (HC.out).mono ?_; rintro e w3 ⟨rfl, b3⟩)
          go_roundw
          case rel =>
            refine ⟨i, j + 1, m0 :: m1 :: m2 :: m3 :: M' ++ encTrace x, by omega, by omega, rfl, by go_num, Lib.hid (by rw [HKS.out, HPX.out, List.length_append]; simpa using hfi.out), Lib.hid (by rw [List.length_append, hM.out]; simp [encTrace]; omega), Lib.hid ?_, gr_below grt b3⟩
            rw [block_below b3 HBT.out, HKS.out, HPX.out]
            simp only [if_true, List.append_nil, List.append_assoc]
          case measure => simp [intOf]; omega
        | false =>
          rw [hpx] at hcall
          have HPX := Lib.hid hpx
          have HC := Lib.hid hcall
          clear hpx hcall hMn
          go_upto_region 8 with fail
          generalize wr.alloc (.cells #[.int .i64 x.frm, .int .i64 x.to, .int .i64 x.sent, .int .i64 x.got] 47) = V at *
          have y := block_cell bb (i := 0) rfl
          have y0 := block_cell bb (i := 0) rfl
          have y1 := block_cell bb (i := 1) rfl
          have y2 := block_cell bb (i := 2) rfl
          have y3 := block_cell bb (i := 3) rfl
          go_upto_region 9 with (go_at_fn g; refine (HC.out).mono ?_; rintro e w3 ⟨rfl, b3⟩)
          have hb3 := block_below b3 HBT.out
          have gr3 := gr_below grt b3
          have x0 := cell_below b3 y0
          have x1 := cell_below b3 y1
          have x2 := cell_below b3 y2
          have x3 := cell_below b3 y3
          have c0 := cell_run (o := 0) hb3 HFL.out rfl
          have c1 := cell_run (o := 1) hb3 HFL.out rfl
          have c2 := cell_run (o := 2) hb3 HFL.out rfl
          have c3 := cell_run (o := 3) hb3 HFL.out rfl
          have z0 := frozen_of_row w3 G (i * 4) _ 47 hb3
          have z1 := frozen_of_row w3 G (i * 4 + 1) _ 47 hb3
          have z2 := frozen_of_row w3 G (i * 4 + 2) _ 47 hb3
          have z3 := frozen_of_row w3 G (i * 4 + 3) _ 47 hb3
          have hset := set_blkL (set_blkL (set_blkL (set_blkL (hb3) (i * 4) (.int .i64 x.frm)) (i * 4 + 1) (.int .i64 x.to)) (i * 4 + 2) (.int .i64 x.sent)) (i * 4 + 3) (.int .i64 x.got)
          rw [show ((((l.take j).filter fun y => !p y).flatMap encTrace ++ m0 :: m1 :: m2 :: m3 :: M') ++ (encTrace x ++ ((l.drop (j + 1)).flatMap encTrace ++ Z))) = (((l.take j).filter fun y => !p y).flatMap encTrace ++ m0 :: m1 :: m2 :: m3 :: (M' ++ (encTrace x ++ ((l.drop (j + 1)).flatMap encTrace ++ Z)))) by simp only [List.append_assoc, List.cons_append], ← HFL.out, set_runTrace, HFL.out] at hset
          have grs := gr_set (gr_set (gr_set (gr_set (gr3) (i * 4) (.int .i64 x.frm)) (i * 4 + 1) (.int .i64 x.to)) (i * 4 + 2) (.int .i64 x.sent)) (i * 4 + 3) (.int .i64 x.got)
          have hthere : w3.there G (i * 4) 4 := by
            intro o ho
            refine ⟨?_, frozen_of_row w3 G _ _ 47 hb3⟩
            match o, ho with
            | 0, _ => exact Option.isSome_iff_exists.2 ⟨_, c0⟩
            | 1, _ => exact Option.isSome_iff_exists.2 ⟨_, c1⟩
            | 2, _ => exact Option.isSome_iff_exists.2 ⟨_, c2⟩
            | 3, _ => exact Option.isSome_iff_exists.2 ⟨_, c3⟩
          obtain ⟨w4, hw4⟩ : ∃ w4, (((w3.setCell ⟨G, i * 4, none⟩ (.int .i64 x.frm)).setCell ⟨G, i * 4 + 1, none⟩ (.int .i64 x.to)).setCell ⟨G, i * 4 + 2, none⟩ (.int .i64 x.sent)).setCell ⟨G, i * 4 + 3, none⟩ (.int .i64 x.got) = w4 := ⟨_, rfl⟩
          rw [hw4] at hset grs
          have HSET := Lib.hid hset
          have HW4 := Lib.hid hw4
          have HTH := Lib.hid hthere
          clear hset c0 z0 c1 z1 c2 z2 c3 z3 hw4 hthere
          go_upto_region 10 with ((refine wpList_store_mid rfl 47 (.tmp 33) (.tmp 32) rfl G (i * 4) #[.int .i64 x.frm, .int .i64 x.to, .int .i64 x.sent, .int .i64 x.got] rfl rfl HTH.out size_kTrace (by simp [Value.oneCell']) ?_); rw [show w3.setCells G (i * 4) (#[.int .i64 x.frm, .int .i64 x.to, .int .i64 x.sent, .int .i64 x.got] : Array Value).toList = w4 from HW4.out])
          go_wp2_with fail
          go_roundw
          case rel =>
            refine ⟨i + 1, j + 1, M' ++ encTrace x, by omega, by omega, by go_num, by go_num, Lib.hid (by rw [HKS.out, HPX.out, List.length_append]; simpa using hfi.out), Lib.hid (by rw [List.length_append]; have := hM.out; simp [encTrace] at this ⊢; omega), Lib.hid ?_, grs⟩
            rw [HSET.out, HKS.out, HPX.out]
            simp only [Bool.false_eq_true, if_false, List.flatMap_append, List.append_assoc, List.flatMap_cons, List.flatMap_nil, List.append_nil]
            rfl
          case measure => simp [intOf]; omega
      · have hjl2 : j = l.length := by omega
        subst hjl2
        have hblk2 := hblk.out
        have hFl : (((l.take l.length).filter fun y => !p y).flatMap encTrace).length = i * 4 := by rw [encs_lenTrace, hfi.out]
        rw [List.drop_length, List.flatMap_nil, List.nil_append] at hblk2
        rw [List.take_of_length_le (Nat.le_refl _)] at hblk2 hFl
        have hfi2 := hfi.out
        rw [List.take_of_length_le (Nat.le_refl _)] at hfi2
        have hML := hM.out
        have hZ : Z.length + l.length * 4 = c * 4 := by
          have := HSZ.out
          rw [List.length_append, encs_lenTrace] at this
          omega
        have hcl := fun ty => run_clear_row (P := Try.prog) wr 43 47 ty _ Try.underlying43 zeroVTrace (by decide) G (i * 4) (l.length - i) (c - i) 47 _ hblk2 (by omega) (by decide) (by
          show i * 4 + (l.length - i) * 4 ≤ _
          simp only [List.size_toArray, List.length_append]
          omega)
        generalize hQ : (Builtin.zeroCells (Value.cells (.agg #[.int .i64 0, .int .i64 0, .int .i64 0, .int .i64 0])) (l.length - i)).toList = Q at hcl
        have hQl : Q.length = (l.length - i) * 4 := by rw [← hQ]; simp [size_zeroCells]; rfl
        have hX : (((l.filter fun y => !p y).flatMap encTrace ++ M ++ Z).toArray.toList.take (i * 4) ++ Q ++ ((l.filter fun y => !p y).flatMap encTrace ++ M ++ Z).toArray.toList.drop (i * 4 + Q.length)) = (l.filter fun y => !p y).flatMap encTrace ++ (Q ++ Z) := by
          rw [List.append_assoc (List.flatMap _ _) M Z, ← hFl]
          simp only [List.take_left', List.append_assoc]
          congr 2
          rw [List.drop_append, List.drop_append]
          simp only [hFl, hQl, hML]
          rw [List.drop_of_length_le (by omega), List.drop_of_length_le (by omega), show i * 4 + (l.length - i) * 4 - i * 4 - (l.length - i) * 4 = 0 by omega]
          simp
        rw [hX] at hcl
        have hfin : (wr.setRow G ((l.filter fun y => !p y).flatMap encTrace ++ (Q ++ Z)).toArray).heap[G]? = some (.cells ((l.filter fun y => !p y).flatMap encTrace ++ (Q ++ Z)).toArray 47 (0, 0)) := setRow_heap wr G _ _ 47 _ hblk2
        have hlenX : ((l.filter fun y => !p y).flatMap encTrace ++ (Q ++ Z)).length = c * 4 := by
          simp only [List.length_append, hFl, hQl]
          omega
        have hown : kTrace.Own 47 B (wr.setRow G ((l.filter fun y => !p y).flatMap encTrace ++ (Q ++ Z)).toArray) base (.slice (some ⟨G, 0, none⟩) i c) (l.filter fun x => !p x) :=
          Kd.own_of_form hfin (reps_mkTrace fun x hx => flat_kTrace _ _ _ _ _ _ (HK.out x (List.mem_filter.1 hx).1)) hG hfi2.symm (by omega) hcm hlenX
        have HOWN := Lib.hid hown
        have hic : ¬ (c = i) := by omega
        have hicI : (i : Int) < (c : Int) := by omega
        have hilI : (i : Int) ≤ (l.length : Int) := by omega
        clear hblk2 hFl hfi2 hML hZ hQ hQl hX hfin hlenX hown
        go_wp2_with fail
        go_ret
        exact ⟨⟨_, rfl, HOWN.out⟩, gr_setRow gr _⟩
end Go.Proofs.Ytflfpfaebndefab
