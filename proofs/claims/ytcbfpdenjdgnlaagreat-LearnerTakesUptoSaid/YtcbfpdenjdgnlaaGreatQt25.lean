/- Library functions at this program's structs: slices.Clone, IndexFunc, DeleteFunc. No claim of its own; no condition. -/
import Derived.Test.YtcbfpdenjdgnlaaGreatQt24
import Derived.Test.YtcbfpdenjdgnlaaGreatQt04
import Derived.Lib.SliceRun
import Derived.Shelf.Abstract
import Derived.Deep.MidRow
import Derived.WalkSpells
namespace Go.Proofs.YtcbfpdenjdgnlaaGreat
open Go.ChangeShapes Go.WideShapes Go.ChangeAt Go.RowKit
set_option linter.unusedVariables false
set_option linter.unusedSimpArgs false
set_option linter.unnecessarySimpa false
theorem info_kTx : (Tryz.prog.info? 77).map (fun i => (i.zero, i.size, i.bytes)) = some (some (.agg #[.int .i64 0, .int .i64 0, .int .i64 0, .int .i64 0, .string ⟨#[]⟩]), 5, 48) := by kernel_rfl
theorem flat_kTx : kTx.Flat := Kd.flat_iso (Kd.flat_pair Kd.flat_int (Kd.flat_pair Kd.flat_int (Kd.flat_pair Kd.flat_int (Kd.flat_pair Kd.flat_int Kd.flat_str))))
theorem size_kTx : (Tryz.prog.info? 77).map (·.size) = some 5 := by kernel_rfl
def encTx (x : Tx) : List Value := [.int .i64 x.frm, .int .i64 x.to, .int .i64 x.amount, .int .i64 x.nonce, .string x.sig]
set_option maxHeartbeats 800000 in
theorem clone_kTx (l : List Tx) (A : Option Addr) (n c : Nat) (w : World) (B : Nat) (hn : n = l.length) (hl : l.length ≤ 2097152) (hr : kTx.Row 77 B w A l) :
    Calls Tryz.prog 107 #[.slice A n c] w fun e w' => (∃ v, e = .returned v ∧ kTx.Own 77 w.heap.size w' w.heap.size v l ∧ (v = .slice none 0 0 ↔ A = none)) ∧ Below w.heap.size w w' := by
  subst hn
  obtain ⟨i0, hi, hz0, hz1, hz2⟩ := info_parts info_kTx
  have hnil : ∀ (w : World) (a : Option Addr) (n c n' c' : Nat), (binOp .eql 38 (.slice a n c) (.slice none n' c')).run Tryz.prog w = .ok (.bool a.isNone) w := fun w a n c n' c' => Lib.run_eql_slice_nil w _ _ a n c n' c' Tryz.underlying38
  cases A with
  | none =>
    have hx : l = [] := by
      cases l with
      | nil => rfl
      | cons x l => obtain ⟨ad, h, _⟩ := hr (by simp); cases h
    subst hx
    go_enter Tryz.func107, Tryz.ntmps107
    go_wp2_with fail
    go_ret
    exact ⟨⟨_, rfl, Kd.own_nil _ _ _ _ _, by simp⟩, Below.refl _ _⟩
  | some ad =>
    have qe := bl_alloc (Below.refl w.heap.size w) (.cells #[] 77)
    have rowe := Kd.row_below qe (Kd.row_flat flat_kTx hr (Nat.le_refl _))
    go_enter Tryz.func107, Tryz.ntmps107
    go_wp2_with (at_builtin; refine wpList_append_row _ rfl (.tmp 5) (.tmp 6) 38 rfl kTx w.heap.size w.heap.size 77 i0 _ 48 Tryz.underlying38 hi hz0 hz1 hz2 rfl (by decide) (.slice (some ⟨w.heap.size, 0, none⟩) 0 0) [] rfl (Kd.own_empty (Nat.le_refl _)) (some ad) c l.length l rfl rfl rowe (by simp only [List.length_nil]; omega) (by decide) qe.size (Nat.le_refl _) (by decide) ?_; intro v1 w1 own1 grw1 at1; have b1 := Kd.own_step qe (Kd.own_empty (d := kTx) (e := 77) (B := w.heap.size) (Nat.le_refl _)) grw1; rw [List.nil_append] at own1)
    go_ret
    refine ⟨⟨v1, rfl, own1, ?_⟩, b1⟩
    constructor
    · rintro rfl
      rcases at1 with h | h <;> simp [Value.ownBlock] at h
    · intro h; cases h
theorem info_kVote : (Tryz.prog.info? 52).map (fun i => (i.zero, i.size, i.bytes)) = some (some (.agg #[.int .i64 0, .int .i64 0, .int .i64 0, .string ⟨#[]⟩, .int .i64 0, .int .i64 0, .string ⟨#[]⟩]), 7, 72) := by kernel_rfl
theorem flat_kVote : kVote.Flat := Kd.flat_iso (Kd.flat_pair Kd.flat_int (Kd.flat_pair Kd.flat_int (Kd.flat_pair Kd.flat_int (Kd.flat_pair Kd.flat_str (Kd.flat_pair Kd.flat_int (Kd.flat_pair Kd.flat_int Kd.flat_str))))))
theorem size_kVote : (Tryz.prog.info? 52).map (·.size) = some 7 := by kernel_rfl
def encVote (x : Vote) : List Value := [.int .i64 x.kind, .int .i64 x.view, .int .i64 x.height, .string x.block, .int .i64 x.ticks, .int .i64 x.signer, .string x.sig]
set_option maxHeartbeats 800000 in
theorem clone_kVote (l : List Vote) (A : Option Addr) (n c : Nat) (w : World) (B : Nat) (hn : n = l.length) (hl : l.length ≤ 2097152) (hr : kVote.Row 52 B w A l) :
    Calls Tryz.prog 108 #[.slice A n c] w fun e w' => (∃ v, e = .returned v ∧ kVote.Own 52 w.heap.size w' w.heap.size v l ∧ (v = .slice none 0 0 ↔ A = none)) ∧ Below w.heap.size w w' := by
  subst hn
  obtain ⟨i0, hi, hz0, hz1, hz2⟩ := info_parts info_kVote
  have hnil : ∀ (w : World) (a : Option Addr) (n c n' c' : Nat), (binOp .eql 28 (.slice a n c) (.slice none n' c')).run Tryz.prog w = .ok (.bool a.isNone) w := fun w a n c n' c' => Lib.run_eql_slice_nil w _ _ a n c n' c' Tryz.underlying28
  cases A with
  | none =>
    have hx : l = [] := by
      cases l with
      | nil => rfl
      | cons x l => obtain ⟨ad, h, _⟩ := hr (by simp); cases h
    subst hx
    go_enter Tryz.func108, Tryz.ntmps108
    go_wp2_with fail
    go_ret
    exact ⟨⟨_, rfl, Kd.own_nil _ _ _ _ _, by simp⟩, Below.refl _ _⟩
  | some ad =>
    have qe := bl_alloc (Below.refl w.heap.size w) (.cells #[] 52)
    have rowe := Kd.row_below qe (Kd.row_flat flat_kVote hr (Nat.le_refl _))
    go_enter Tryz.func108, Tryz.ntmps108
    go_wp2_with (at_builtin; refine wpList_append_row _ rfl (.tmp 5) (.tmp 6) 28 rfl kVote w.heap.size w.heap.size 52 i0 _ 72 Tryz.underlying28 hi hz0 hz1 hz2 rfl (by decide) (.slice (some ⟨w.heap.size, 0, none⟩) 0 0) [] rfl (Kd.own_empty (Nat.le_refl _)) (some ad) c l.length l rfl rfl rowe (by simp only [List.length_nil]; omega) (by decide) qe.size (Nat.le_refl _) (by decide) ?_; intro v1 w1 own1 grw1 at1; have b1 := Kd.own_step qe (Kd.own_empty (d := kVote) (e := 52) (B := w.heap.size) (Nat.le_refl _)) grw1; rw [List.nil_append] at own1)
    go_ret
    refine ⟨⟨v1, rfl, own1, ?_⟩, b1⟩
    constructor
    · rintro rfl
      rcases at1 with h | h <;> simp [Value.ownBlock] at h
    · intro h; cases h
/-- The first place of which a test holds; -1: none. -/
def idxF {α : Type} (p : α → Bool) (l : List α) : Int := match l.findIdx? p with | some i => (i : Int) | none => -1
theorem idx_none {α : Type} {p : α → Bool} {l : List α} (h : ∀ x ∈ l, p x = false) : idxF p l = -1 := by
  unfold idxF
  rw [List.findIdx?_eq_none_iff.2 (fun x hx => h x hx)]
theorem idx_hit {α : Type} {p : α → Bool} {l : List α} {k : Nat} {x : α} (hk : l[k]? = some x) (h : ∀ y ∈ l.take k, p y = false) (hx : p x = true) : idxF p l = (k : Int) := by
  unfold idxF
  have hlt : k < l.length := (List.getElem?_eq_some_iff.1 hk).1
  have : l.findIdx? p = some k := by
    rw [List.findIdx?_eq_some_iff_getElem]
    refine ⟨hlt, by rw [(List.getElem?_eq_some_iff.1 hk).2]; exact hx, fun j hj => ?_⟩
    have hm : l[j]'(by omega) ∈ l.take k := by
      rw [List.mem_take_iff_getElem]
      exact ⟨j, by omega, rfl⟩
    rw [h _ hm]
    simp
  rw [this]
theorem take_all {α : Type} {p : α → Bool} {l : List α} {k : Nat} {x : α} (hk : l[k]? = some x) (h : ∀ y ∈ l.take k, p y = false) (hx : p x = false) : ∀ y ∈ l.take (k + 1), p y = false := by
  intro y hy
  rw [List.take_add_one, hk] at hy
  rcases List.mem_append.1 hy with hy | hy
  · exact h y hy
  · obtain rfl : y = x := by simpa using hy
    exact hx
set_option maxHeartbeats 1600000 in
set_option maxRecDepth 100000 in
theorem index_kTx (l : List Tx) (A : Option Addr) (n c : Nat) (w : World) (B g : Nat) (lb : Array Value) (p : Tx → Bool) (eg : ∀ args w, (callFunc g args).run Tryz.prog w = .ok (.enter g args) w) (hn : n = l.length) (hl : l.length ≤ 2097152) (hr : kTx.Row 77 B w A l)
    (hp : ∀ x W, Below w.heap.size w W → Calls Tryz.prog g (#[.agg #[.int .i64 x.frm, .int .i64 x.to, .int .i64 x.amount, .int .i64 x.nonce, .string x.sig]] ++ lb) W fun e W' => e = .returned (.bool (p x)) ∧ Below W.heap.size W W') :
    Calls Tryz.prog 196 #[.slice A n c, .func (.func g) #[] lb] w fun e w' => e = .returned (.int .i64 (idxF p l)) ∧ Below w.heap.size w w' := by
  subst hn
  have HP := Lib.hid hp
  clear hp
  go_enter Tryz.func196, Tryz.ntmps196
  go_wp2_with fail
  go_loopw [8] (fun kv w' => ∃ k : Nat, k ≤ l.length ∧ kv = .int .i64 k ∧ Hid (∀ x ∈ l.take k, p x = false) ∧ Below w.heap.size w w') (fun kv _ => l.length - (intOf kv).toNat)
  case atStart => exact ⟨0, by omega, rfl, Lib.hid (by simp), Below.refl _ _⟩
  case round =>
    obtain ⟨k, h1, rfl, hall, bel⟩ := hrel
    by_cases h : k < l.length
    · obtain ⟨x, hx⟩ : ∃ x, l[k]? = some x := ⟨_, List.getElem?_eq_getElem h⟩
      obtain ⟨ad, rfl, e0, e1, e2, e3, e4, _⟩ := kTx_at (Kd.row_below bel hr) hx
      have hi1 : (k : Int) < (l.length : Int) := by omega
      have hcall := HP.out x wr bel
      cases hpx : p x with
      | true =>
        rw [hpx] at hcall
        have hres := idx_hit hx hall.out hpx
        have HR := Lib.hid hres
        have HC := Lib.hid hcall
        clear hres hx hpx hcall
        go_wp2_with (go_at_fn g; refine (HC.out).mono ?_; rintro e w1 ⟨rfl, b1⟩)
        go_ret
        exact ⟨by rw [HR.out]; rfl, bl_trans bel b1⟩
      | false =>
        rw [hpx] at hcall
        have hres := take_all hx hall.out hpx
        have HR := Lib.hid hres
        have HC := Lib.hid hcall
        clear hres hx hpx hcall
        go_wp2_with (go_at_fn g; refine (HC.out).mono ?_; rintro e w1 ⟨rfl, b1⟩)
        go_roundw
        case rel => exact ⟨k + 1, by omega, by go_num, HR, bl_trans bel b1⟩
        case measure => simp [intOf]; omega
    · have hk : k = l.length := by omega
      subst hk
      rw [List.take_of_length_le (Nat.le_refl _)] at hall
      have hres := idx_none hall.out
      have HR := Lib.hid hres
      clear hres
      go_wp2_with fail
      go_ret
      exact ⟨by rw [HR.out]; rfl, bel⟩
set_option maxHeartbeats 1600000 in
set_option maxRecDepth 100000 in
theorem index_kVote (l : List Vote) (A : Option Addr) (n c : Nat) (w : World) (B g : Nat) (lb : Array Value) (p : Vote → Bool) (eg : ∀ args w, (callFunc g args).run Tryz.prog w = .ok (.enter g args) w) (hn : n = l.length) (hl : l.length ≤ 2097152) (hr : kVote.Row 52 B w A l)
    (hp : ∀ x W, Below w.heap.size w W → Calls Tryz.prog g (#[.agg #[.int .i64 x.kind, .int .i64 x.view, .int .i64 x.height, .string x.block, .int .i64 x.ticks, .int .i64 x.signer, .string x.sig]] ++ lb) W fun e W' => e = .returned (.bool (p x)) ∧ Below W.heap.size W W') :
    Calls Tryz.prog 174 #[.slice A n c, .func (.func g) #[] lb] w fun e w' => e = .returned (.int .i64 (idxF p l)) ∧ Below w.heap.size w w' := by
  subst hn
  have HP := Lib.hid hp
  clear hp
  go_enter Tryz.func174, Tryz.ntmps174
  go_wp2_with fail
  go_loopw [8] (fun kv w' => ∃ k : Nat, k ≤ l.length ∧ kv = .int .i64 k ∧ Hid (∀ x ∈ l.take k, p x = false) ∧ Below w.heap.size w w') (fun kv _ => l.length - (intOf kv).toNat)
  case atStart => exact ⟨0, by omega, rfl, Lib.hid (by simp), Below.refl _ _⟩
  case round =>
    obtain ⟨k, h1, rfl, hall, bel⟩ := hrel
    by_cases h : k < l.length
    · obtain ⟨x, hx⟩ : ∃ x, l[k]? = some x := ⟨_, List.getElem?_eq_getElem h⟩
      obtain ⟨ad, rfl, e0, e1, e2, e3, e4, e5, e6, _⟩ := kVote_at (Kd.row_below bel hr) hx
      have hi1 : (k : Int) < (l.length : Int) := by omega
      have hcall := HP.out x wr bel
      cases hpx : p x with
      | true =>
        rw [hpx] at hcall
        have hres := idx_hit hx hall.out hpx
        have HR := Lib.hid hres
        have HC := Lib.hid hcall
        clear hres hx hpx hcall
        go_wp2_with (go_at_fn g; refine (HC.out).mono ?_; rintro e w1 ⟨rfl, b1⟩)
        go_ret
        exact ⟨by rw [HR.out]; rfl, bl_trans bel b1⟩
      | false =>
        rw [hpx] at hcall
        have hres := take_all hx hall.out hpx
        have HR := Lib.hid hres
        have HC := Lib.hid hcall
        clear hres hx hpx hcall
        go_wp2_with (go_at_fn g; refine (HC.out).mono ?_; rintro e w1 ⟨rfl, b1⟩)
        go_roundw
        case rel => exact ⟨k + 1, by omega, by go_num, HR, bl_trans bel b1⟩
        case measure => simp [intOf]; omega
    · have hk : k = l.length := by omega
      subst hk
      rw [List.take_of_length_le (Nat.le_refl _)] at hall
      have hres := idx_none hall.out
      have HR := Lib.hid hres
      clear hres
      go_wp2_with fail
      go_ret
      exact ⟨by rw [HR.out]; rfl, bel⟩
end Go.Proofs.YtcbfpdenjdgnlaaGreat
/- Package block: Check; slices.ContainsFunc at transactions and statements; what statements may be (message.voted). No claim of its own; no condition. -/
namespace Go.Proofs.YtcbfpdenjdgnlaaGreat
open Go.ChangeShapes Go.WideShapes Go.ChangeAt Go.RowKit
set_option linter.unusedVariables false
set_option linter.unusedSimpArgs false
theorem idx_any {α : Type} (p : α → Bool) (l : List α) : idxF p l = -1 ∧ l.any p = false ∨ 0 ≤ idxF p l ∧ l.any p = true := by
  cases h : l.any p
  · refine .inl ⟨?_, rfl⟩
    refine idx_none fun x hx => ?_
    cases hx2 : p x
    · rfl
    · rw [List.any_eq_true.2 ⟨x, hx, hx2⟩] at h
      cases h
  · refine .inr ⟨?_, rfl⟩
    unfold idxF
    rcases hf : l.findIdx? p with _ | i
    · rw [List.findIdx?_eq_none_iff] at hf
      obtain ⟨x, hx, hx2⟩ := List.any_eq_true.1 h
      rw [hf x hx] at hx2
      cases hx2
    · exact Int.natCast_nonneg i
set_option maxRecDepth 100000 in
theorem contains_kTx (l : List Tx) (A : Option Addr) (n c : Nat) (w : World) (B g : Nat) (lb : Array Value) (p : Tx → Bool) (eg : ∀ args w, (callFunc g args).run Tryz.prog w = .ok (.enter g args) w) (hn : n = l.length) (hl : l.length ≤ 2097152) (hr : kTx.Row 77 B w A l)
    (hp : ∀ x W, Below w.heap.size w W → Calls Tryz.prog g (#[.agg #[.int .i64 x.frm, .int .i64 x.to, .int .i64 x.amount, .int .i64 x.nonce, .string x.sig]] ++ lb) W fun e W' => e = .returned (.bool (p x)) ∧ Below W.heap.size W W') :
    Calls Tryz.prog 129 #[.slice A n c, .func (.func g) #[] lb] w fun e w' => e = .returned (.bool (l.any p)) ∧ Below w.heap.size w w' := by
  subst hn
  have hi := index_kTx l A _ c w B g lb p eg rfl hl hr hp
  have hk : idxF p l = -1 ∧ l.any p = false ∨ 0 ≤ idxF p l ∧ l.any p = true := idx_any p l
  have HI := Lib.hid hi
  clear hi hp hr
  generalize idxF p l = i at *
  rcases hk with ⟨h1, h2⟩ | ⟨h1, h2⟩
  · rw [h2]
    subst h1
    go_enter Tryz.func129, Tryz.ntmps129
    go_wp2_with (go_at_call 196; refine (HI.out).mono ?_; rintro e w1 ⟨rfl, b1⟩)
    go_ret
    exact ⟨rfl, b1⟩
  · rw [h2]
    have d : decide (0 ≤ i) = true := decide_eq_true h1
    go_enter Tryz.func129, Tryz.ntmps129
    go_wp2_with (go_at_call 196; refine (HI.out).mono ?_; rintro e w1 ⟨rfl, b1⟩)
    go_ret
    exact ⟨by simp [h1], b1⟩
set_option maxRecDepth 100000 in
theorem contains_kVote (l : List Vote) (A : Option Addr) (n c : Nat) (w : World) (B g : Nat) (lb : Array Value) (p : Vote → Bool) (eg : ∀ args w, (callFunc g args).run Tryz.prog w = .ok (.enter g args) w) (hn : n = l.length) (hl : l.length ≤ 2097152) (hr : kVote.Row 52 B w A l)
    (hp : ∀ x W, Below w.heap.size w W → Calls Tryz.prog g (#[.agg #[.int .i64 x.kind, .int .i64 x.view, .int .i64 x.height, .string x.block, .int .i64 x.ticks, .int .i64 x.signer, .string x.sig]] ++ lb) W fun e W' => e = .returned (.bool (p x)) ∧ Below W.heap.size W W') :
    Calls Tryz.prog 109 #[.slice A n c, .func (.func g) #[] lb] w fun e w' => e = .returned (.bool (l.any p)) ∧ Below w.heap.size w w' := by
  subst hn
  have hi := index_kVote l A _ c w B g lb p eg rfl hl hr hp
  have hk : idxF p l = -1 ∧ l.any p = false ∨ 0 ≤ idxF p l ∧ l.any p = true := idx_any p l
  have HI := Lib.hid hi
  clear hi hp hr
  generalize idxF p l = i at *
  rcases hk with ⟨h1, h2⟩ | ⟨h1, h2⟩
  · rw [h2]
    subst h1
    go_enter Tryz.func109, Tryz.ntmps109
    go_wp2_with (go_at_call 174; refine (HI.out).mono ?_; rintro e w1 ⟨rfl, b1⟩)
    go_ret
    exact ⟨rfl, b1⟩
  · rw [h2]
    have d : decide (0 ≤ i) = true := decide_eq_true h1
    go_enter Tryz.func109, Tryz.ntmps109
    go_wp2_with (go_at_call 174; refine (HI.out).mono ?_; rintro e w1 ⟨rfl, b1⟩)
    go_ret
    exact ⟨by simp [h1], b1⟩
set_option maxRecDepth 100000 in
theorem oddt_calls (t : Tx) (w : World) : Calls Tryz.prog 188 #[.agg (tcs t)] w fun e w' => e = .returned (.bool (!txOk t)) ∧ Below w.heap.size w w' := by
  have hc := fun W => tcheck_calls t W
  have q0 := bl_alloc (Below.refl w.heap.size w) (.cells (tcs t) 77)
  have a0 : (w.alloc (.cells (tcs t) 77)).heap[w.heap.size]? = some (.cells (tcs t) 77 (0, 0)) := alloc_new w _
  unfold tcs at *
  cases h : txOk t
  all_goals
    have h0 : chkT t = if txOk t = true then 0 else 9 := rfl
    rw [h] at h0
    simp at h0
    rw [h0] at hc
    have HC := Lib.hid hc
    clear hc h0 h
    go_enter Tryz.func188, Tryz.ntmps188
    go_upto_region 1 with fail
    change Code.wp _ _ _ _ (w.alloc (.cells (tcs t) 77))
    have a0 : (w.alloc (.cells (tcs t) 77)).heap[w.heap.size]? = some (.cells (tcs t) 77 (0, 0)) := a0
    have q0 : Below w.heap.size w (w.alloc (.cells (tcs t) 77)) := q0
    generalize w.alloc (.cells (tcs t) 77) = W at *
    obtain ⟨r0, r1, r2, r3, r4⟩ := tcells a0
    go_wp2_with (go_at_call 189; refine (HC.out _).mono ?_; rintro e w1 ⟨rfl, b1⟩)
    go_ret
    exact ⟨rfl, bl_trans q0 b1⟩
set_option maxRecDepth 100000 in
theorem oddv_calls (v : Vote) (w : World) : Calls Tryz.prog 215 #[.agg (vcs v)] w fun e w' => e = .returned (.bool (!voteOk v)) ∧ Below w.heap.size w w' := by
  have hc := fun W => vcheck_calls v W
  have q0 := bl_alloc (Below.refl w.heap.size w) (.cells (vcs v) 52)
  have a0 : (w.alloc (.cells (vcs v) 52)).heap[w.heap.size]? = some (.cells (vcs v) 52 (0, 0)) := alloc_new w _
  unfold vcs at *
  cases h : voteOk v
  all_goals
    have h0 : chkV v = if voteOk v = true then 0 else 9 := rfl
    rw [h] at h0
    simp at h0
    rw [h0] at hc
    have HC := Lib.hid hc
    clear hc h0 h
    go_enter Tryz.func215, Tryz.ntmps215
    go_upto_region 1 with fail
    change Code.wp _ _ _ _ (w.alloc (.cells (vcs v) 52))
    have a0 : (w.alloc (.cells (vcs v) 52)).heap[w.heap.size]? = some (.cells (vcs v) 52 (0, 0)) := a0
    have q0 : Below w.heap.size w (w.alloc (.cells (vcs v) 52)) := q0
    generalize w.alloc (.cells (vcs v) 52) = W at *
    obtain ⟨r0, r1, r2, r3, r4, r5, r6⟩ := vcells a0
    go_wp2_with (go_at_call 170; refine (HC.out _).mono ?_; rintro e w1 ⟨rfl, b1⟩)
    go_ret
    exact ⟨rfl, bl_trans q0 b1⟩
theorem any_not {α : Type} (p : α → Bool) (l : List α) : l.any (fun x => !p x) = !l.all p := by
  induction l with
  | nil => rfl
  | cons x l ih => simp [ih]
set_option maxRecDepth 100000 in
theorem voted_calls (l : List Vote) (A : Option Addr) (n c B : Nat) (w : World) (hn : n = l.length) (hl : l.length ≤ 2097152) (hr : kVote.Row 52 B w A l) :
    Calls Tryz.prog 214 #[.slice A n c] w fun e w' => e = .returned (.bool (votedOk l)) ∧ Below w.heap.size w w' := by
  have hc := fun W (hW : kVote.Row 52 B W A l) => contains_kVote l A n c W B 215 #[] (fun x => !voteOk x) (enters_of Tryz.func215 (by kernel_rfl) rfl) hn hl hW (fun x W' _ => oddv_calls x W')
  rw [any_not] at hc
  have HC := Lib.hid hc
  by_cases h7 : l.length ≤ 7
  · have hv : votedOk l = l.all voteOk := by unfold votedOk; rw [decide_eq_true h7, Bool.true_and]
    rw [hv]
    have h7' : decide ((n : Int) ≤ 7) = true := decide_eq_true (by omega)
    have h7'' : n ≤ 7 := by omega
    generalize l.all voteOk = b at *
    clear hc hv hn hl
    go_enter Tryz.func214, Tryz.ntmps214
    go_wp2_with (go_at_call 109; refine (HC.out _ hr).mono ?_; rintro e w1 ⟨rfl, b1⟩)
    go_ret
    exact ⟨by simp, b1⟩
  · have hv : votedOk l = false := by unfold votedOk; rw [decide_eq_false h7, Bool.false_and]
    rw [hv]
    have h7' : decide ((n : Int) ≤ 7) = false := decide_eq_false (by omega)
    have h7'' : ¬ n ≤ 7 := by omega
    clear hc hv hn hl
    go_enter Tryz.func214, Tryz.ntmps214
    go_wp2_with fail
    go_ret
    exact ⟨rfl, Below.refl _ _⟩
end Go.Proofs.YtcbfpdenjdgnlaaGreat
