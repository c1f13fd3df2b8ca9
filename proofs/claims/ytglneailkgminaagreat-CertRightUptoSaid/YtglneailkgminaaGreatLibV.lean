/- Library functions at this program's structs: slices.Clone, IndexFunc, DeleteFunc. No claim of its own; no condition. -/
import Derived.Test.YtglneailkgminaaGreatLibM
import Derived.Lib.SliceRun
import Derived.Shelf.Abstract
import Derived.Deep.MidRow
import Derived.WalkSpells
namespace Go.Proofs.YtglneailkgminaaGreat
open Go.ChangeShapes Go.WideShapes Go.ChangeAt Go.RowKit
set_option linter.unusedVariables false
set_option linter.unusedSimpArgs false
set_option linter.unnecessarySimpa false
theorem info_kVote : (Tryz.prog.info? 29).map (fun i => (i.zero, i.size, i.bytes)) = some (some (.agg #[.int .i64 0, .int .i64 0, .int .i64 0, .string ⟨#[]⟩, .int .i64 0, .int .i64 0, .string ⟨#[]⟩]), 7, 72) := by kernel_rfl
theorem flat_kVote : kVote.Flat := Kd.flat_iso (Kd.flat_pair Kd.flat_int (Kd.flat_pair Kd.flat_int (Kd.flat_pair Kd.flat_int (Kd.flat_pair Kd.flat_str (Kd.flat_pair Kd.flat_int (Kd.flat_pair Kd.flat_int Kd.flat_str))))))
theorem size_kVote : (Tryz.prog.info? 29).map (·.size) = some 7 := by kernel_rfl
def encVote (x : Vote) : List Value := [.int .i64 x.kind, .int .i64 x.view, .int .i64 x.height, .string x.block, .int .i64 x.ticks, .int .i64 x.signer, .string x.sig]
theorem encs_lenVote : ∀ l : List Vote, (l.flatMap encVote).length = l.length * 7
  | [] => rfl
  | x :: l => by rw [List.flatMap_cons, List.length_append, encs_lenVote l, List.length_cons]; simp [encVote]; omega
theorem reps_encVote {B : Nat} {w : World} {l : List Vote} {cs : List Value} (h : Kd.Reps kVote B w l cs) : cs = l.flatMap encVote := by
  induction h with
  | nil => rfl
  | cons hc _ ih => rw [ih, List.flatMap_cons, (kVote_open hc).1]; rfl
theorem reps_mkVote {B : Nat} {w : World} : ∀ {l : List Vote}, (∀ x ∈ l, kVote.K B w x (encVote x)) → Kd.Reps kVote B w l (l.flatMap encVote)
  | [], _ => .nil
  | x :: l, h => .cons (h x (by simp)) (reps_mkVote fun y hy => h y (by simp [hy]))
theorem reps_allVote {B : Nat} {w : World} {l : List Vote} {cs : List Value} (h : Kd.Reps kVote B w l cs) : ∀ x ∈ l, kVote.K B w x (encVote x) := by
  induction h with
  | nil => intro x hx; cases hx
  | cons hc _ ih =>
    intro x hx
    rcases List.mem_cons.1 hx with rfl | hx
    · have e := (kVote_open hc).1
      rw [show encVote x = _ from e.symm]
      exact hc
    · exact ih x hx
theorem set_runVote (F R : List Value) (m0 m1 m2 m3 m4 m5 m6 u0 u1 u2 u3 u4 u5 u6 : Value) : ((((((((F ++ m0 :: m1 :: m2 :: m3 :: m4 :: m5 :: m6 :: R).set (F.length) u0).set (F.length + 1) u1).set (F.length + 2) u2).set (F.length + 3) u3).set (F.length + 4) u4).set (F.length + 5) u5).set (F.length + 6) u6) = F ++ u0 :: u1 :: u2 :: u3 :: u4 :: u5 :: u6 :: R := by
  induction F with
  | nil => rfl
  | cons y F ih => simpa [Nat.add_right_comm] using ih
def DelAtVote (w : World) (G k : Nat) (x : Vote) : Prop := w.cell? ⟨G, k, none⟩ = some (.int .i64 x.kind) ∧ w.cell? ⟨G, k + 1, none⟩ = some (.int .i64 x.view) ∧ w.cell? ⟨G, k + 2, none⟩ = some (.int .i64 x.height) ∧ w.cell? ⟨G, k + 3, none⟩ = some (.string x.block) ∧ w.cell? ⟨G, k + 4, none⟩ = some (.int .i64 x.ticks) ∧ w.cell? ⟨G, k + 5, none⟩ = some (.int .i64 x.signer) ∧ w.cell? ⟨G, k + 6, none⟩ = some (.string x.sig)
theorem zeroVVote : ∀ w, (zeroValue 29).run Tryz.prog w = .ok (.agg #[.int .i64 0, .int .i64 0, .int .i64 0, .string ⟨#[]⟩, .int .i64 0, .int .i64 0, .string ⟨#[]⟩]) w := fun w => by kernel_rfl
theorem DelInvVote_at {w : World} {G : Nat} {F M R : List Value} {x : Vote} (hb : w.heap[G]? = some (.cells (F ++ M ++ (encVote x ++ R)).toArray 29 (0, 0))) {j : Nat} (hj : (F ++ M).length = j * 7) : w.cell? ⟨G, j * 7, none⟩ = some (.int .i64 x.kind) ∧ w.cell? ⟨G, j * 7 + 1, none⟩ = some (.int .i64 x.view) ∧ w.cell? ⟨G, j * 7 + 2, none⟩ = some (.int .i64 x.height) ∧ w.cell? ⟨G, j * 7 + 3, none⟩ = some (.string x.block) ∧ w.cell? ⟨G, j * 7 + 4, none⟩ = some (.int .i64 x.ticks) ∧ w.cell? ⟨G, j * 7 + 5, none⟩ = some (.int .i64 x.signer) ∧ w.cell? ⟨G, j * 7 + 6, none⟩ = some (.string x.sig) := by
  have key : ∀ (o : Nat) (u : Value), (encVote x)[o]? = some u → w.cell? ⟨G, j * 7 + o, none⟩ = some u := fun o u ho => block_cell hb (by
    have hlt : o < (encVote x).length := (List.getElem?_eq_some_iff.1 ho).1
    rw [List.getElem?_toArray, List.getElem?_append_right (by omega), ← hj, Nat.add_sub_cancel_left, List.getElem?_append_left hlt]
    exact ho)
  exact ⟨key 0 _ rfl, key 1 _ rfl, key 2 _ rfl, key 3 _ rfl, key 4 _ rfl, key 5 _ rfl, key 6 _ rfl⟩
/-- The first place of which a test holds; -1: none. -/
def idxF {α : Type} (p : α → Bool) (l : List α) : Int := match l.findIdx? p with | some i => (i : Int) | none => -1
theorem idx_none {α : Type} {p : α → Bool} {l : List α} (h : ∀ x ∈ l, p x = false) : idxF p l = -1 := by
  unfold idxF
  rw [List.findIdx?_eq_none_iff.2 (fun x hx => h x hx)]
theorem idx_hit {α : Type} {p : α → Bool} {l : List α} {k : Nat} {x : α} (hk : l[k]? = some x) (h : ∀ y ∈ l.take k, p y = false) (hx : p x = true) : idxF p l = (k : Int) := by
  unfold idxF
  have hlt : k < l.length := (List.getElem?_eq_some_iff.1 hk).1
  have : l.findIdx? p = some k := by
    rw [List.findIdx?_eq_some_iff_getElem]
    refine ⟨hlt, by rw [(List.getElem?_eq_some_iff.1 hk).2]; exact hx, fun j hj => ?_⟩
    have hm : l[j]'(by omega) ∈ l.take k := by
      rw [List.mem_take_iff_getElem]
      exact ⟨j, by omega, rfl⟩
    rw [h _ hm]
    simp
  rw [this]
theorem take_all {α : Type} {p : α → Bool} {l : List α} {k : Nat} {x : α} (hk : l[k]? = some x) (h : ∀ y ∈ l.take k, p y = false) (hx : p x = false) : ∀ y ∈ l.take (k + 1), p y = false := by
  intro y hy
  rw [List.take_add_one, hk] at hy
  rcases List.mem_append.1 hy with hy | hy
  · exact h y hy
  · obtain rfl : y = x := by simpa using hy
    exact hx
set_option maxHeartbeats 1600000 in
set_option maxRecDepth 100000 in
theorem index_kVote (l : List Vote) (A : Option Addr) (n c : Nat) (w : World) (B g : Nat) (lb : Array Value) (p : Vote → Bool) (eg : ∀ args w, (callFunc g args).run Tryz.prog w = .ok (.enter g args) w) (hn : n = l.length) (hl : l.length ≤ 2097152) (hr : kVote.Row 29 B w A l)
    (hp : ∀ x W, Below w.heap.size w W → Calls Tryz.prog g (#[.agg #[.int .i64 x.kind, .int .i64 x.view, .int .i64 x.height, .string x.block, .int .i64 x.ticks, .int .i64 x.signer, .string x.sig]] ++ lb) W fun e W' => e = .returned (.bool (p x)) ∧ Below W.heap.size W W') :
    Calls Tryz.prog 27 #[.slice A n c, .func (.func g) #[] lb] w fun e w' => e = .returned (.int .i64 (idxF p l)) ∧ Below w.heap.size w w' := by
  subst hn
  have HP := Lib.hid hp
  clear hp
  go_enter Tryz.func27, Tryz.ntmps27
  go_wp2_with fail
  go_loopw [8] (fun kv w' => ∃ k : Nat, k ≤ l.length ∧ kv = .int .i64 k ∧ Hid (∀ x ∈ l.take k, p x = false) ∧ Below w.heap.size w w') (fun kv _ => l.length - (intOf kv).toNat)
  case atStart => exact ⟨0, by omega, rfl, Lib.hid (by simp), Below.refl _ _⟩
  case round =>
    obtain ⟨k, h1, rfl, hall, bel⟩ := hrel
    by_cases h : k < l.length
    · obtain ⟨x, hx⟩ : ∃ x, l[k]? = some x := ⟨_, List.getElem?_eq_getElem h⟩
      obtain ⟨ad, rfl, e0, e1, e2, e3, e4, e5, e6, _⟩ := kVote_at (Kd.row_below bel hr) hx
      have hi1 : (k : Int) < (l.length : Int) := by omega
      have hcall := HP.out x wr bel
      cases hpx : p x with
      | true =>
        rw [hpx] at hcall
        have hres := idx_hit hx hall.out hpx
        have HR := Lib.hid hres
        have HC := Lib.hid hcall
        clear hres hx hpx hcall
        go_wp2_with (go_at_fn g; refine (HC.out).mono ?_; rintro e w1 ⟨rfl, b1⟩)
        go_ret
        exact ⟨by rw [HR.out]; rfl, bl_trans bel b1⟩
      | false =>
        rw [hpx] at hcall
        have hres := take_all hx hall.out hpx
        have HR := Lib.hid hres
        have HC := Lib.hid hcall
        clear hres hx hpx hcall
        go_wp2_with (go_at_fn g; refine (HC.out).mono ?_; rintro e w1 ⟨rfl, b1⟩)
        go_roundw
        case rel => exact ⟨k + 1, by omega, by go_num, HR, bl_trans bel b1⟩
        case measure => simp [intOf]; omega
    · have hk : k = l.length := by omega
      subst hk
      rw [List.take_of_length_le (Nat.le_refl _)] at hall
      have hres := idx_none hall.out
      have HR := Lib.hid hres
      clear hres
      go_wp2_with fail
      go_ret
      exact ⟨by rw [HR.out]; rfl, bel⟩
end Go.Proofs.YtglneailkgminaaGreat
