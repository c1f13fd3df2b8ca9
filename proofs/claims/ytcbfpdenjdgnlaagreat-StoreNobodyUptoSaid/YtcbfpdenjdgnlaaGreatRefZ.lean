/- Words: rows of octets while other blocks are written; the common sum. No claim of its own; no condition. -/
import Derived.Test.YtcbfpdenjdgnlaaGreatRefB
namespace Go.Proofs.YtcbfpdenjdgnlaaGreat
open Go.ChangeShapes Go.WideShapes Go.ChangeAt Go.RowKit
set_option linter.unusedVariables false
set_option linter.unusedSimpArgs false
theorem own_rows {α : Type} {d : Kd α} (hf : d.Flat) {e : TypeId} {B base : Nat} {w : World} {A : Option Addr} {n c : Nat} {xs : List α} (h : d.Own e B w base (.slice A n c) xs) (B' : Nat) : d.Row e B' w A xs := by
  obtain ⟨A', c', h1, _, _, h2, _⟩ := Kd.own_row (Kd.own_flat (B' := B') hf h (Nat.le_refl _))
  cases h1
  exact h2
theorem row_any {α : Type} {d : Kd α} (hf : d.Flat) {e : TypeId} {w : World} {A : Option Addr} {xs : List α} (h : d.Row e 0 w A xs) (B : Nat) : d.Row e B w A xs := by
  intro hne
  obtain ⟨ad, rfl, hb, hx⟩ := h hne
  refine ⟨ad, rfl, ⟨hb.1, .inr (hb.2.resolve_left (by omega))⟩, fun i x hi => ?_⟩
  obtain ⟨cs, hK, hc⟩ := hx i x hi
  exact ⟨cs, hf _ _ _ _ _ _ hK, hc⟩
theorem row_set {α : Type} {d : Kd α} (hf : d.Flat) {e t : TypeId} {w : World} {N i : Nat} {cs : Array Value} {f : Nat × Nat} {A : Option Addr} {xs : List α} (hN : w.heap[N]? = some (.cells cs t f)) (ht : t ∉ e :: d.E) (u : Value) (h : ∀ B, d.Row e B w A xs) : ∀ B, d.Row e B (w.setCell ⟨N, i, none⟩ u) A xs :=
  row_any hf (Kd.row_keep (Keeps.set (p := ⟨N, i, none⟩) hN (Nat.zero_le _) ht u) (h 0))
theorem row_setRow {α : Type} {d : Kd α} (hf : d.Flat) {e t : TypeId} {w : World} {N : Nat} {cs cs' : Array Value} {f : Nat × Nat} {A : Option Addr} {xs : List α} (hN : w.heap[N]? = some (.cells cs t f)) (ht : t ∉ e :: d.E) (h : ∀ B, d.Row e B w A xs) : ∀ B, d.Row e B (w.setRow N cs') A xs := by
  refine row_any hf (Kd.row_keep ⟨by simp, fun b hb => setRow_far ?_⟩ (h 0))
  rintro rfl
  rcases hb.2 with h1 | ⟨c, t', f', h1, h2⟩
  · omega
  · rw [hN] at h1
    cases h1
    exact ht h2
/-- The state behind so many blocks of a text. -/
def shaS (p : List UInt8) : Nat → List UInt32
  | 0 => h0L
  | i + 1 => blkF (shaS p i) kL ((p.drop (64 * i)).take 64)
theorem shaS_len (p : List UInt8) (i : Nat) : (shaS p i).length = 8 := by
  induction i with
  | zero => rfl
  | succ i ih =>
    show (sums (rnds _ _ _ 64) _ 8).length = 8
    rw [sums_len, rnds_len _ _ ih]
/-- A text's sum. -/
def shaB (b : List UInt8) : List UInt8 := wordsB (shaS (padB b) ((padB b).length / 64))
end Go.Proofs.YtcbfpdenjdgnlaaGreat
