/- Package script: what a script's octets are, and what the iterator calls. No claim of its own; no condition. -/
import Derived.Test.YtflfpfaebndefabStpC
namespace Go.Proofs.Ytflfpfaebndefab
open Go.ChangeShapes Go.WideShapes Go.ChangeAt Go.RowKit Go.Shelf
set_option linter.unusedVariables false
set_option linter.unusedSimpArgs false
/-- Two octets at a place. -/
def get2 (b : List UInt8) (i : Nat) : Nat := getU ((b.drop i).take 2) % 4611686018427387904
def atI (b : List UInt8) (i : Nat) : Int := (get2 b i : Int) - 32768
/-- The first step, and what is behind it. -/
def headS (b : List UInt8) : Option (Step × List UInt8) :=
  if decide (b.length < 11) then none else if decide (4096 < get2 b 9) then none else if decide (b.length < 11 + get2 b 9) then none
  else some (⟨(b.headD 0).toNat, atI b 1, atI b 3, atI b 5, atI b 7, (b.drop 11).take (get2 b 9)⟩, b.drop (11 + get2 b 9))
theorem headS_lt {b : List UInt8} {x : Step} {r : List UInt8} (h : headS b = some (x, r)) : r.length < b.length := by
  unfold headS at h
  split at h
  · cases h
  · rename_i h1
    split at h
    · cases h
    · split at h
      · cases h
      · cases h
        rw [List.length_drop]
        simp at h1
        omega
def readAll (b : List UInt8) : List Step × Bool :=
  if b = [] then ([], true) else match h : headS b with
    | none => ([], false)
    | some (x, r) => (x :: (readAll r).1, (readAll r).2)
termination_by b.length
decreasing_by all_goals exact headS_lt h
def readR (b : List UInt8) : List Step × Int :=
  if decide (16384 < b.length) then ([], 5) else if (readAll b).2 then (if decide (1024 < (readAll b).1.length) then ([], 3) else ((readAll b).1, 0)) else ([], 33)
theorem readAll_nil : readAll [] = ([], true) := by rw [readAll]; simp
theorem readAll_bad {b : List UInt8} (hb : b ≠ []) (h : headS b = none) : readAll b = ([], false) := by
  rw [readAll, if_neg hb]
  split
  · rfl
  · rename_i h2; rw [h] at h2; cases h2
theorem readAll_ok {b : List UInt8} {x : Step} {r : List UInt8} (hb : b ≠ []) (h : headS b = some (x, r)) : readAll b = (x :: (readAll r).1, (readAll r).2) := by
  rw [readAll, if_neg hb]
  split
  · rename_i h2; rw [h] at h2; cases h2
  · rename_i h2; rw [h] at h2; cases h2; rfl
theorem urow_take {e : TypeId} {B : Nat} {w : World} {A : Option Addr} {xs : List UInt8} (h : Kd.u8.Row e B w A xs) (n : Nat) : Kd.u8.Row e B w A (xs.take n) := by
  intro hne
  have hx : xs ≠ [] := by rintro rfl; simp at hne
  obtain ⟨ad, rfl, hb, hk⟩ := h hx
  refine ⟨ad, rfl, hb, fun i x hi => hk i x ?_⟩
  rw [List.getElem?_take] at hi
  split at hi
  · exact hi
  · cases hi
theorem uadd_of_add (a : Addr) (i j : Nat) : (a.add i).add j = a.add (i + j) := by
  unfold Addr.add
  by_cases hi : i = 0 <;> by_cases hj : j = 0 <;> simp [hi, hj, Nat.add_assoc]
theorem ublock_of_add (a : Addr) (i : Nat) : (a.add i).block = a.block := by
  unfold Addr.add
  split <;> rfl
theorem urow_drop {e : TypeId} {B : Nat} {w : World} {ad : Addr} {xs : List UInt8} (h : Kd.u8.Row e B w (some ad) xs) (n : Nat) : Kd.u8.Row e B w (some (ad.add n)) (xs.drop n) := by
  intro hne
  have hx : xs ≠ [] := by rintro rfl; simp at hne
  obtain ⟨ad', hA, hb, hk⟩ := h hx
  injection hA with hA
  subst hA
  refine ⟨_, rfl, by rw [ublock_of_add]; exact hb, fun i x hi => ?_⟩
  rw [List.getElem?_drop] at hi
  obtain ⟨cs, hK, hc⟩ := hk (n + i) x hi
  refine ⟨cs, hK, fun j u hj => ?_⟩
  have := hc j u hj
  rw [uadd_of_add]
  have e7 : Kd.u8.sz = 1 := rfl
  rw [e7] at this ⊢
  rw [show n + (i * 1 + j) = (n + i) * 1 + j by omega]
  exact this
theorem at_calls (b : List UInt8) (ad : Addr) (n c Bx i : Nat) (w : World) (B : Nat) (hi : i = 1 ∨ i = 3 ∨ i = 5 ∨ i = 7) (hn : n = b.length) (h11 : 11 ≤ n) (hnc : n ≤ c) (hc : c ≤ maxLen) (hbx : w.cell? ⟨Bx, 0, none⟩ = some (.slice (some ad) n c)) (hr : Kd.u8.Row 5 B w (some ad) b) :
    Calls Try.prog 65 #[.int .i64 (i : Int), .pointer (some ⟨Bx, 0, none⟩)] w fun e w' => e = .returned (.int .i64 (atI b i)) ∧ Below w.heap.size w w' := by
  obtain ⟨g, hg⟩ : ∃ g, get2 b i = g := ⟨_, rfl⟩
  have hg2 : g < 4611686018427387904 := by rw [← hg]; exact Nat.mod_lt _ (by decide)
  unfold atI
  rw [hg]
  have hget := get_calls ((b.drop i).take 2) (some (ad.add i)) 2 (c - i) w B (by rw [List.length_take, List.length_drop]; omega) (by rw [List.length_take]; omega) (urow_take (urow_drop hr i) 2)
  unfold get2 at hg
  rw [hg] at hget
  have HG := Lib.hid hget
  have HN := Lib.hid hn
  clear hget hg hn hr
  have h1 : (0 : Int) ≤ (i : Int) := by omega
  have h2 : (i : Int) + 2 ≤ (c : Int) := by omega
  have h3 : (i : Int) ≤ (i : Int) + 2 := by omega
  go_enter Try.func65, Try.ntmps65
  go_wp2_with (go_at_call 66; refine (HG.out).mono ?_; rintro e w1 ⟨rfl, b1⟩)
  go_ret
  exact ⟨by go_num, b1⟩
set_option maxHeartbeats 800000 in
theorem clone_u8 (l : List UInt8) (ad : Addr) (n c : Nat) (w : World) (B : Nat) (hn : n = l.length) (hl : l.length ≤ 2097152) (hr : Kd.u8.Row 5 B w (some ad) l) :
    Calls Try.prog 67 #[.slice (some ad) n c] w fun e w' => (∃ v, e = .returned v ∧ Kd.u8.Own 5 w.heap.size w' w.heap.size v l) ∧ Below w.heap.size w w' := by
  subst hn
  obtain ⟨i0, hi, hz0, hz1, hz2⟩ := info_parts info_u8
  have hnil : ∀ (w : World) (a : Option Addr) (n c n' c' : Nat), (binOp .eql 58 (.slice a n c) (.slice none n' c')).run Try.prog w = .ok (.bool a.isNone) w := fun w a n c n' c' => Lib.run_eql_slice_nil w _ _ a n c n' c' Try.underlying58
  have qe := bl_alloc (Below.refl w.heap.size w) (.cells #[] 5)
  have rowe := Kd.row_below qe (Kd.row_flat Kd.flat_u8 hr (Nat.le_refl _))
  go_enter Try.func67, Try.ntmps67
  go_wp2_with (at_builtin; refine wpList_append_row _ rfl (.tmp 5) (.tmp 6) 58 rfl Kd.u8 w.heap.size w.heap.size 5 i0 _ 1 Try.underlying58 hi hz0 hz1 hz2 rfl (by decide) (.slice (some ⟨w.heap.size, 0, none⟩) 0 0) [] rfl (Kd.own_empty (Nat.le_refl _)) (some ad) c l.length l rfl rfl rowe (by simp only [List.length_nil]; omega) (by decide) qe.size (Nat.le_refl _) (by decide) ?_; intro v1 w1 own1 grw1 at1; have b1 := Kd.own_step qe (Kd.own_empty (d := Kd.u8) (e := 5) (B := w.heap.size) (Nat.le_refl _)) grw1; rw [List.nil_append] at own1)
  go_ret
  exact ⟨⟨v1, rfl, own1⟩, b1⟩
end Go.Proofs.Ytflfpfaebndefab
