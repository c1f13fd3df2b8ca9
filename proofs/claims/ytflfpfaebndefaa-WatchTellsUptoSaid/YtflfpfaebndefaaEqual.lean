/- Package slices: Equal of strings; package watch: Prefix. No claim of its own; no condition. -/
import Derived.Test.YtflfpfaebndefaaInts
import Derived.Test.YtflfpfaebndefaaWatchB
import Derived.Test.YtflfpfaebndefaaWordsB
namespace Go.Proofs.Ytflfpfaebndefaa
open Go.ChangeShapes Go.WideShapes Go.ChangeAt Go.RowKit
set_option linter.unusedVariables false
set_option linter.unusedSimpArgs false

theorem str_at {B e : Nat} {w : World} {A : Option Addr} {xs : List ByteArray} (h : Kd.Row Kd.str e B w A xs) {i : Nat} {x : ByteArray} (hx : xs[i]? = some x) : ∃ ad, A = some ad ∧ w.cell? (ad.add i) = some (.string x) ∧ x.size ≤ 140737488351232 := by
  obtain ⟨ad, cs, rfl, _, hK, hc⟩ := Kd.row_at h hx
  obtain ⟨rfl, hi⟩ := hK
  refine ⟨ad, rfl, ?_, hi⟩
  have := hc 0 _ rfl
  simpa [Kd.str] using this
theorem Kd.row_take {α : Type} {d : Kd α} {e : TypeId} {B : Nat} {w : World} {A : Option Addr} {xs : List α} (h : d.Row e B w A xs) (n : Nat) : d.Row e B w A (xs.take n) := by
  intro hne
  have hne2 : xs ≠ [] := by rintro rfl; simp at hne
  obtain ⟨ad, rfl, hb, hh⟩ := h hne2
  refine ⟨ad, rfl, hb, fun i x hi => ?_⟩
  rw [List.getElem?_take] at hi
  split at hi
  · exact hh i x hi
  · cases hi
set_option maxRecDepth 100000 in
theorem equalstr_calls (a b : List ByteArray) (A A' : Option Addr) (n c n' c' : Nat) (w : World) (B B' : Nat) (ha : n = a.length) (hb : n' = b.length) (hl : a.length ≤ 1048576) (hra : Kd.str.Row 9 B w A a) (hrb : Kd.str.Row 9 B' w A' b) :
    Calls Try.prog 44 #[.slice A n c, .slice A' n' c'] w fun e w' => e = .returned (.bool (decide (a = b))) ∧ Below w.heap.size w w' := by
  subst ha hb
  by_cases hlen : a.length = b.length
  · have hlI : (a.length : Int) = (b.length : Int) := by omega
    go_enter Try.func44, Try.ntmps44
    go_wp2_with fail
    go_loopw [13] (fun kv w' => ∃ k : Nat, k ≤ a.length ∧ kv = .int .i64 k ∧ a.take k = b.take k ∧ Below w.heap.size w w') (fun kv _ => a.length - (intOf kv).toNat)
    case atStart => exact ⟨0, by omega, rfl, by simp, Below.refl _ _⟩
    case round =>
      obtain ⟨k, h1, rfl, h2, bel⟩ := hrel
      by_cases h : k < a.length
      · obtain ⟨x, hx⟩ : ∃ x, a[k]? = some x := ⟨_, List.getElem?_eq_getElem h⟩
        obtain ⟨y, hy⟩ : ∃ y, b[k]? = some y := ⟨_, List.getElem?_eq_getElem (by omega)⟩
        obtain ⟨ad, rfl, e1, _⟩ := str_at (Kd.row_below bel hra) hx
        obtain ⟨ad', rfl, e2, _⟩ := str_at (Kd.row_below bel hrb) hy
        have hi1 : (k : Int) < (a.length : Int) := by omega
        have hi2 : (k : Int) < (b.length : Int) := by omega
        by_cases hxy : x = y
        · have H2 := Lib.hid (take_step hx (hxy ▸ hy) h2)
          subst hxy
          clear h2 hx hy
          go_wp2_with fail
          go_quiet (fail)
          go_wp2_with fail
          go_roundw
          case rel => exact ⟨k + 1, by omega, by go_num, H2.out, bl_drewN bel _⟩
          case measure => simp [intOf]; omega
        · have hd : decide (a = b) = false := by simp [ne_of_at hx hy hxy]
          have hne : (x.toList == y.toList) = false := by rw [bytes_beq]; simp [hxy]
          have HD := Lib.hid hd
          clear h2 hx hy hd
          go_wp2_with fail
          go_quiet (fail)
          go_wp2_with fail
          go_ret
          exact ⟨by rw [HD.out]; rfl, bl_drewN bel _⟩
      · have hk : k = a.length := by omega
        subst hk
        have hd : decide (a = b) = true := by
          rw [List.take_of_length_le (Nat.le_refl _), List.take_of_length_le (by omega)] at h2
          simp [h2]
        have HD := Lib.hid hd
        clear h2 hd
        go_wp2_with fail
        go_ret
        exact ⟨by rw [HD.out]; rfl, bel⟩
  · have hd : decide (a = b) = false := by
      simp; rintro rfl; exact hlen rfl
    have HD := Lib.hid hd
    have hlI : ¬ (a.length : Int) = (b.length : Int) := by omega
    clear hd
    go_enter Try.func44, Try.ntmps44
    go_wp2_with fail
    go_ret
    exact ⟨by rw [HD.out]; rfl, Below.refl _ _⟩
attribute [local go_sem high] run_max2 run_min2
def prefixF (a b : List ByteArray) : Bool := decide (a.take (min a.length b.length) = b.take (min a.length b.length))
theorem prefix_calls (a b : List ByteArray) (A A' : Option Addr) (n c n' c' : Nat) (w : World) (B B' : Nat) (ha : n = a.length) (hb : n' = b.length) (hl : a.length ≤ 1048576) (hl' : b.length ≤ 1048576) (hc : a.length ≤ c) (hc' : b.length ≤ c') (hra : Kd.str.Row 9 B w A a) (hrb : Kd.str.Row 9 B' w A' b) :
    Calls Try.prog 28 #[.slice A n c, .slice A' n' c'] w fun e w' => e = .returned (.bool (prefixF a b)) ∧ Below w.heap.size w w' := by
  subst ha hb
  obtain ⟨M, hM⟩ : ∃ M : Nat, M = min a.length b.length := ⟨_, rfl⟩
  have hMi : (M : Int) = min (a.length : Int) (b.length : Int) := by omega
  have hf : prefixF a b = decide (a.take M = b.take M) := by unfold prefixF; rw [← hM]
  have h1 : M ≤ a.length := by omega
  have h2 : M ≤ b.length := by omega
  have HF := Lib.hid hf
  have HM := Lib.hid hMi
  clear hf hM hMi
  go_enter Try.func28, Try.ntmps28
  go_wp2_with fail
  rw [← HM.out]
  have g1 : (M : Int) ≤ c := by omega
  have g2 : (M : Int) ≤ c' := by omega
  have g3 : (0 : Int) ≤ M := by omega
  go_region_held3 (fun w' => Below w.heap.size w w') (first | exact Below.refl _ _ | (apply bl_drew; exact Below.refl _ _) | (refine bl_trans ?_ (by assumption); assumption)) ((go_at_call 44; refine (equalstr_calls (a.take M) (b.take M) A A' _ _ _ _ _ B B' (by simp; omega) (by simp; omega) (by simp; omega) (Kd.row_take (Kd.row_below (by assumption) hra) M) (Kd.row_take (Kd.row_below (by assumption) hrb) M)).mono ?_; rintro e w' ⟨rfl, hb⟩))
  all_goals
    go_wp2_with fail
    go_ret
    exact ⟨by rw [HF.out]; rfl, by assumption⟩
end Go.Proofs.Ytflfpfaebndefaa
