/- Package rule, further: Enough, Check, and the law RuleMore's walk. No claim of its own; no condition. -/
import Derived.Test.YtflfpfaebndefaaRule
namespace Go.Proofs.Ytflfpfaebndefaa
open Go.ChangeShapes Go.WideShapes Go.ChangeAt Go.RowKit Go.Maps Go.WideMaps
set_option linter.unusedVariables false
set_option linter.unusedSimpArgs false

def enoughF (r : Rule) (q : Int) (m : Mark) (l : List Vote) : Bool :=
  if r.kind = 1 then decide (1 ≤ r.n) && decide (r.n ≤ signersF m 2 0 l)
  else if r.kind = 2 then decide (1 ≤ q) && (decide (0 ≤ r.n) && (decide (r.n ≤ 1048576) && decide (q ≤ signersF m 3 (2 * r.n) l)))
  else false

theorem addKey_len (xs : List Lit) : ∀ acc : List Lit, (xs.foldl addKey acc).length ≤ acc.length + xs.length := by
  induction xs with
  | nil => intro acc; simp
  | cons x xs ih =>
    intro acc
    have := ih (addKey acc x)
    have h2 : (addKey acc x).length ≤ acc.length + 1 := by unfold addKey; split <;> simp
    simp only [List.foldl_cons, List.length_cons]
    omega
theorem signersF_le (m : Mark) (kind ticks : Int) (l : List Vote) : signersF m kind ticks l ≤ l.length := by
  have h1 := addKey_len (keysOf m kind ticks l) []
  have h2 : (keysOf m kind ticks l).length ≤ l.length := by unfold keysOf; rw [List.length_map]; exact List.length_filter_le _ _
  unfold signersF
  simp only [List.length_nil] at h1
  omega

theorem enough_calls (r : Rule) (q : Int) (m : Mark) (l : List Vote) (A : Option Addr) (c : Nat) (w : World) (B : Nat)
    (hl : l.length ≤ 2097152) (hr : kVote.Row 90 B w A l) (hn : IntOk r.n) :
    Calls Try.prog 20 #[.agg #[.int .i64 r.kind, .int .i64 r.n], .int .i64 q, .agg #[.int .i64 m.view, .int .i64 m.height, .string m.block], .slice A l.length c] w
      fun e w' => e = .returned (.bool (enoughF r q m l)) ∧ Below w.heap.size w w' := by
  have hs1 := signersF_le m 2 0 l
  have hs2 := signersF_le m 3 (2 * r.n) l
  unfold IntOk at hn
  obtain ⟨hn1, hn2⟩ := hn
  obtain ⟨q1, q2⟩ := alloc2_new w (.cells #[.int .i64 r.kind, .int .i64 r.n] 30) (.cells #[.int .i64 m.view, .int .i64 m.height, .string m.block] 32)
  have q3 := bl_alloc (bl_alloc (Below.refl w.heap.size w) (.cells #[.int .i64 r.kind, .int .i64 r.n] 30)) (.cells #[.int .i64 m.view, .int .i64 m.height, .string m.block] 32)
  generalize hW : (w.alloc (.cells #[.int .i64 r.kind, .int .i64 r.n] 30)).alloc (.cells #[.int .i64 m.view, .int .i64 m.height, .string m.block] 32) = W at *
  have HW := Lib.hid hW
  have hrW := Kd.row_below q3 hr
  have a0 := block_cell q1 (i := 0) rfl
  have a1 := block_cell q1 (i := 1) rfl
  have f1 := held_cell (block_cell q1 (i := 1) rfl)
  have g0 := held_cell (block_cell q2 (i := 0) rfl)
  have g1 := held_cell (block_cell q2 (i := 1) rfl)
  have g2 := held_cell (block_cell q2 (i := 2) rfl)
  clear hW
  by_cases k1 : r.kind = 1
  · have k1b : (r.kind == 1) = true := by simp [k1]
    by_cases k2 : 1 ≤ r.n
    · have hfin : enoughF r q m l = decide (r.n ≤ signersF m 2 0 l) := by simp [enoughF, k1, k2]
      have HF := Lib.hid hfin
      clear hfin k1
      go_enter Try.func20, Try.ntmps20
      go_wp2
      rw [HW.out]
      go_region_held3 (fun w' => Below W.heap.size W w') (first | exact Below.refl _ _ | (apply bl_drew; exact Below.refl _ _) | (refine bl_trans ?_ (by assumption); assumption)) ((go_at_call 40; refine (signers_calls m l A c 2 0 _ B hl (by exact Kd.row_below (by assumption) hrW)).mono ?_; rintro e w' ⟨rfl, hb⟩))
      go_wp2
      go_ret
      exact ⟨by rw [HF.out]; rfl, bl_trans q3 (by assumption)⟩
    · have hfin : enoughF r q m l = false := by simp [enoughF, k1, k2]
      have k2b : decide (1 ≤ r.n) = false := by simpa using k2
      have HF := Lib.hid hfin
      clear hfin k1 k2
      go_enter Try.func20, Try.ntmps20
      go_wp2
      rw [HW.out]
      go_quiet (fail)
      go_wp2
      go_ret
      exact ⟨by rw [HF.out]; rfl, bl_drewN q3 _⟩
  · have k1b : (r.kind == 1) = false := by simp [k1]
    by_cases k2 : r.kind = 2
    · have k2b : (r.kind == 2) = true := by simp [k2]
      have hfin : enoughF r q m l = (decide (1 ≤ q) && (decide (0 ≤ r.n) && (decide (r.n ≤ 1048576) && decide (q ≤ signersF m 3 (2 * r.n) l)))) := by simp [enoughF, k1, k2]
      have HF := Lib.hid hfin
      clear hfin k1 k2
      go_enter Try.func20, Try.ntmps20
      go_wp2_with (go_at_call 40; rw [HW.out]; refine (signers_calls m l A c 3 (2 * r.n) _ B hl hrW).mono ?_; rintro e w' ⟨rfl, hb⟩)
      all_goals go_ret
      all_goals refine ⟨by rw [HF.out]; first | (simp [*]; done) | (simp [*]; omega), ?_⟩
      all_goals first | exact bl_trans q3 (by assumption) | (rw [HW.out]; exact q3)
    · have hfin : enoughF r q m l = false := by simp [enoughF, k1, k2]
      have k2b : (r.kind == 2) = false := by simp [k2]
      have HF := Lib.hid hfin
      clear hfin k1 k2
      go_enter Try.func20, Try.ntmps20
      go_wp2
      go_ret
      exact ⟨by rw [HF.out]; rfl, by rw [HW.out]; exact q3⟩

def checkF (r : Rule) (replicas quorum : Int) : Int :=
  if replicas ≤ 7 ∧ 1 ≤ quorum ∧ quorum ≤ replicas ∧ ((r.kind = 1 ∧ quorum ≤ r.n ∧ r.n ≤ replicas) ∨ (r.kind = 2 ∧ 1 ≤ r.n ∧ r.n ≤ 32)) then 0 else 81
theorem check_calls (r : Rule) (n q : Int) (w : World) :
    Calls Try.prog 39 #[.agg #[.int .i64 r.kind, .int .i64 r.n], .int .i64 n, .int .i64 q] w fun e w' => e = .returned (.int .i64 (checkF r n q)) ∧ Below w.heap.size w w' := by
  have hk : r.kind = 1 ∧ (r.kind == 1) = true ∨ r.kind = 2 ∧ (r.kind == 1) = false ∧ (r.kind == 2) = true ∨ (r.kind ≠ 1 ∧ r.kind ≠ 2) ∧ (r.kind == 1) = false ∧ (r.kind == 2) = false := by
    by_cases h1 : r.kind = 1
    · exact .inl ⟨h1, by simp [h1]⟩
    · by_cases h2 : r.kind = 2
      · exact .inr (.inl ⟨h2, by simp [h2], by simp [h2]⟩)
      · exact .inr (.inr ⟨⟨h1, h2⟩, by simp [h1], by simp [h2]⟩)
  rcases hk with ⟨h1, h2⟩ | ⟨h1, h2, h3⟩ | ⟨h1, h2, h3⟩
  all_goals
    have H1 := Lib.hid h1
    clear h1
    go_enter Try.func39, Try.ntmps39
    go_wp2
    all_goals go_ret
    all_goals refine ⟨?_, bl_alloc (Below.refl _ _) _⟩
    all_goals
      have H2 := H1.out
      first
        | (have e : checkF r n q = 0 := if_pos (by omega)
           rw [e]; rfl)
        | (have e : checkF r n q = 81 := if_neg (by omega)
           rw [e]; rfl)

theorem alive21_calls (w : World) : Calls Try.prog 19 #[] w fun e w' => e = .returned (.bool true) ∧ Below w.heap.size w w' := by
  go_enter Try.func19, Try.ntmps19
  go_wp2_with (first | (go_at_call_of 39 (Value.agg #[.int .i64 1, .int .i64 2]); refine (check_calls ⟨1, 2⟩ 4 3 _).mono ?_; rintro e w1 ⟨rfl, hb1⟩; rw [show checkF ⟨1, 2⟩ 4 3 = 81 by decide]) | (go_at_call_of 39 (Value.agg #[.int .i64 2, .int .i64 2]); refine (check_calls ⟨2, 2⟩ 4 3 _).mono ?_; rintro e w2 ⟨rfl, hb2⟩; rw [show checkF ⟨2, 2⟩ 4 3 = 0 by decide]))
  go_ret
  exact ⟨rfl, bl_trans hb1 hb2⟩
end Go.Proofs.Ytflfpfaebndefaa
