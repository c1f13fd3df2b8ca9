/- Package script: may a step not be? No claim of its own; no condition. -/
import Derived.Test.YtflfpfaebndefabPut2
import Derived.Test.YtflfpfaebndefabLib1
import Derived.Test.YtflfpfaebndefabAppStep
import Derived.Test.YtflfpfaebndefabInts
namespace Go.Proofs.Ytflfpfaebndefab
open Go.ChangeShapes Go.WideShapes Go.ChangeAt Go.RowKit Go.Shelf
set_option linter.unusedVariables false
set_option linter.unusedSimpArgs false
def oddN (n : Int) : Bool := decide (n < -32768) || decide (32768 ≤ n)
def oddS (x : Step) : Bool := decide (x.kind < 0) || (decide (255 < x.kind) || [x.a, x.b, x.c, x.d].any oddN)
theorem oddn_calls (n : Int) (w : World) : Calls Try.prog 62 #[.int .i64 n] w fun e w' => e = .returned (.bool (oddN n)) ∧ Below w.heap.size w w' := by
  unfold oddN
  go_enter Try.func62, Try.ntmps62
  cases h1 : decide (n < -32768)
  · cases h2 : decide (32768 ≤ n)
    all_goals
      go_wp2_with fail
      go_ret
      exact ⟨by simp, Below.refl _ _⟩
  · go_wp2_with fail
    go_ret
    exact ⟨by simp, Below.refl _ _⟩
set_option maxHeartbeats 1600000 in
set_option maxRecDepth 100000 in
theorem index_int (l : List Int) (A : Option Addr) (n c : Nat) (w : World) (B g : Nat) (lb : Array Value) (p : Int → Bool) (eg : ∀ args w, (callFunc g args).run Try.prog w = .ok (.enter g args) w) (hn : n = l.length) (hl : l.length ≤ 2097152) (hr : Kd.int.Row 3 B w A l)
    (hp : ∀ x W, Below w.heap.size w W → Calls Try.prog g (#[.int .i64 x] ++ lb) W fun e W' => e = .returned (.bool (p x)) ∧ Below W.heap.size W W') :
    Calls Try.prog 70 #[.slice A n c, .func (.func g) #[] lb] w fun e w' => e = .returned (.int .i64 (idxF p l)) ∧ Below w.heap.size w w' := by
  subst hn
  have HP := Lib.hid hp
  clear hp
  go_enter Try.func70, Try.ntmps70
  go_wp2_with fail
  go_loopw [8] (fun kv w' => ∃ k : Nat, k ≤ l.length ∧ kv = .int .i64 k ∧ Hid (∀ x ∈ l.take k, p x = false) ∧ Below w.heap.size w w') (fun kv _ => l.length - (intOf kv).toNat)
  case atStart => exact ⟨0, by omega, rfl, Lib.hid (by simp), Below.refl _ _⟩
  case round =>
    obtain ⟨k, h1, rfl, hall, bel⟩ := hrel
    by_cases h : k < l.length
    · obtain ⟨x, hx⟩ : ∃ x, l[k]? = some x := ⟨_, List.getElem?_eq_getElem h⟩
      obtain ⟨ad, rfl, e0, _⟩ := int_at (Kd.row_below bel hr) hx
      have hi1 : (k : Int) < (l.length : Int) := by omega
      have hcall := HP.out x wr bel
      cases hpx : p x with
      | true =>
        rw [hpx] at hcall
        have hres := idx_hit hx hall.out hpx
        have HR := Lib.hid hres
        have HC := Lib.hid hcall
        clear hres hx hpx hcall
        go_wp2_with (go_at_fn g; refine (HC.out).mono ?_; rintro e w1 ⟨rfl, b1⟩)
        go_ret
        exact ⟨by rw [HR.out]; rfl, bl_trans bel b1⟩
      | false =>
        rw [hpx] at hcall
        have hres := take_all hx hall.out hpx
        have HR := Lib.hid hres
        have HC := Lib.hid hcall
        clear hres hx hpx hcall
        go_wp2_with (go_at_fn g; refine (HC.out).mono ?_; rintro e w1 ⟨rfl, b1⟩)
        go_roundw
        case rel => exact ⟨k + 1, by omega, by go_num, HR, bl_trans bel b1⟩
        case measure => simp [intOf]; omega
    · have hk : k = l.length := by omega
      subst hk
      rw [List.take_of_length_le (Nat.le_refl _)] at hall
      have hres := idx_none hall.out
      have HR := Lib.hid hres
      clear hres
      go_wp2_with fail
      go_ret
      exact ⟨by rw [HR.out]; rfl, bel⟩
theorem idx_any {α : Type} (p : α → Bool) (l : List α) : decide (0 ≤ idxF p l) = l.any p := by
  unfold idxF
  cases h : l.findIdx? p with
  | none =>
    rw [List.findIdx?_eq_none_iff] at h
    have : l.any p = false := by rw [List.any_eq_false]; intro x hx; simp [h x hx]
    rw [this]
    rfl
  | some i =>
    have h2 : l.any p = true := by
      rw [List.findIdx?_eq_some_iff_getElem] at h
      obtain ⟨hi, h1, _⟩ := h
      rw [List.any_eq_true]
      exact ⟨_, List.getElem_mem hi, h1⟩
    rw [h2]
    simp
theorem any_int (l : List Int) (A : Option Addr) (n c : Nat) (w : World) (B g : Nat) (lb : Array Value) (p : Int → Bool) (eg : ∀ args w, (callFunc g args).run Try.prog w = .ok (.enter g args) w) (hn : n = l.length) (hl : l.length ≤ 2097152) (hr : Kd.int.Row 3 B w A l)
    (hp : ∀ x W, Below w.heap.size w W → Calls Try.prog g (#[.int .i64 x] ++ lb) W fun e W' => e = .returned (.bool (p x)) ∧ Below W.heap.size W W') :
    Calls Try.prog 60 #[.slice A n c, .func (.func g) #[] lb] w fun e w' => e = .returned (.bool (l.any p)) ∧ Below w.heap.size w w' := by
  have hi := index_int l A n c w B g lb p eg hn hl hr hp
  rw [← idx_any p l]
  generalize idxF p l = r at *
  clear hn hl hr hp
  go_enter Try.func60, Try.ntmps60
  have HI := Lib.hid hi
  clear hi
  go_wp2_with (go_at_call 70; refine (HI.out).mono ?_; rintro e w1 ⟨rfl, b1⟩)
  go_ret
  exact ⟨rfl, b1⟩
theorem numbers_calls (x : Step) (A : Option Addr) (n c : Nat) (w : World) (h1 : IntOk x.a) (h2 : IntOk x.b) (h3 : IntOk x.c) (h4 : IntOk x.d) :
    Calls Try.prog 61 #[.agg #[.int .i64 x.kind, .int .i64 x.a, .int .i64 x.b, .int .i64 x.c, .int .i64 x.d, .slice A n c]] w fun e w' => (∃ g, e = .returned (.slice (some g) 4 4) ∧ ∀ B, Kd.int.Row 3 B w' (some g) [x.a, x.b, x.c, x.d]) ∧ Below w.heap.size w w' := by
  go_enter Try.func61, Try.ntmps61
  go_wp2_with fail
  go_ret
  refine ⟨⟨⟨w.heap.size + 1, 0, none⟩, by simp, fun B => ?_⟩, bl_alloc (bl_alloc (Below.refl _ _) _) _⟩
  have e1 : (w.alloc (.cells #[.int .i64 x.kind, .int .i64 x.a, .int .i64 x.b, .int .i64 x.c, .int .i64 x.d, .slice A n c] 66)).heap.size = w.heap.size + 1 := by simp
  rw [← e1]
  exact Kd.row_fresh (d := Kd.int) (xs := [x.a, x.b, x.c, x.d]) rfl (.cons (show Kd.int.K _ _ x.a [.int .i64 x.a] from ⟨rfl, h1⟩) (.cons (show Kd.int.K _ _ x.b [.int .i64 x.b] from ⟨rfl, h2⟩) (.cons (show Kd.int.K _ _ x.c [.int .i64 x.c] from ⟨rfl, h3⟩) (.cons (show Kd.int.K _ _ x.d [.int .i64 x.d] from ⟨rfl, h4⟩) .nil))))
theorem any_odd (a b c d : Int) (A : Option Addr) (w : World) (B : Nat) (hr : Kd.int.Row 3 B w A [a, b, c, d]) :
    Calls Try.prog 60 #[.slice A 4 4, .func (.func 62) #[] #[]] w fun e w' => e = .returned (.bool ([a, b, c, d].any oddN)) ∧ Below w.heap.size w w' :=
  any_int [a, b, c, d] A 4 4 w B 62 #[] oddN (enters_of Try.func62 (by kernel_rfl) rfl) rfl (by simp) hr (fun y W _ => oddn_calls y W)
set_option maxHeartbeats 1600000 in
theorem odd_calls (x : Step) (A : Option Addr) (n c : Nat) (w : World) (h1 : IntOk x.a) (h2 : IntOk x.b) (h3 : IntOk x.c) (h4 : IntOk x.d) :
    Calls Try.prog 49 #[.agg #[.int .i64 x.kind, .int .i64 x.a, .int .i64 x.b, .int .i64 x.c, .int .i64 x.d, .slice A n c]] w fun e w' => e = .returned (.bool (oddS x)) ∧ Below w.heap.size w w' := by
  unfold oddS
  obtain ⟨r, hr⟩ : ∃ r, [x.a, x.b, x.c, x.d].any oddN = r := ⟨_, rfl⟩
  rw [hr]
  have HR := Lib.hid hr
  clear hr
  go_enter Try.func49, Try.ntmps49
  cases k1 : decide (x.kind < 0)
  · cases k2 : decide (255 < x.kind)
    · go_wp2_with (first | (go_at_call 61; refine (numbers_calls x A n c _ h1 h2 h3 h4).mono ?_; rintro e w1 ⟨⟨g, rfl, r1⟩, b1⟩) | (go_at_call 60; (refine (any_odd x.a x.b x.c x.d _ _ 0 (r1 0)).mono ?_; rintro e w2 ⟨rfl, b2⟩; rw [HR.out])))
      go_ret
      exact ⟨by simp, bl_trans (bl_trans (bl_alloc (Below.refl _ _) _) b1) b2⟩
    · go_wp2_with fail
      go_ret
      exact ⟨by simp, bl_alloc (Below.refl _ _) _⟩
  · go_wp2_with fail
    go_ret
    exact ⟨by simp, bl_alloc (Below.refl _ _) _⟩
end Go.Proofs.Ytflfpfaebndefab
