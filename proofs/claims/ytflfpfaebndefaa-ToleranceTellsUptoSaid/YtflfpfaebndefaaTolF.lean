/- Package tolerance: Bound; the walk of ToleranceTells. No claim of its own; no condition. -/
import Derived.Deep.DeepCutAuto
import Derived.Deep.RegionHeld3
import Derived.IntWalk
import Derived.Test.YtflfpfaebndefaaTolC
namespace Go.Proofs.Ytflfpfaebndefaa
open Go.ChangeShapes Go.WideShapes Go.ChangeAt Go.RowKit
set_option linter.unusedVariables false
set_option linter.unusedSimpArgs false

def sumW (b m : Int) : Nat → Int
  | 0 => 0
  | k + 1 => sumW b m k + waitF b k m
theorem sumW_bd (b m : Int) : ∀ k : Nat, 0 ≤ sumW b m k ∧ sumW b m k ≤ 1048576 * k
  | 0 => by simp [sumW]
  | k + 1 => by
    have := sumW_bd b m k
    have h2 := waitF_bd b k m
    simp only [sumW]
    omega
def boundF (c : Config) (d n : Int) : Int := 8 * (min (max d 0) 1048576 + 1) + sumW c.base c.cap (min (max n 0) 40).toNat
attribute [local go_sem high] run_max2 run_min2
theorem bound_calls (c : Config) (d n : Int) (A0 A1 : Option Addr) (c0 c1 : Nat) (w : World) :
    Calls Try.prog 30 #[.agg #[.slice A0 c.roots.length c0, .slice A1 c.clients.length c1, .int .i64 c.quorum, .int .i64 c.base, .int .i64 c.cap], .int .i64 d, .int .i64 n] w
      fun e w' => e = .returned (.int .i64 (boundF c d n)) ∧ Below w.heap.size w w' := by
  have b0 := alloc_new w (.cells #[.slice A0 c.roots.length c0, .slice A1 c.clients.length c1, .int .i64 c.quorum, .int .i64 c.base, .int .i64 c.cap] 47)
  have q0 := bl_alloc (Below.refl w.heap.size w) (.cells #[.slice A0 c.roots.length c0, .slice A1 c.clients.length c1, .int .i64 c.quorum, .int .i64 c.base, .int .i64 c.cap] 47)
  have k3 := block_cell b0 (i := 3) rfl
  have k4 := block_cell b0 (i := 4) rfl
  obtain ⟨K, hK⟩ : ∃ K : Nat, (K : Int) = min (max n 0) 40 := ⟨(min (max n 0) 40).toNat, by omega⟩
  obtain ⟨D, hD⟩ : ∃ D : Int, D = min (max d 0) 1048576 := ⟨_, rfl⟩
  have hF : boundF c d n = 8 * (D + 1) + sumW c.base c.cap K := by unfold boundF; rw [← hK, ← hD]; rfl
  have hK40 : K ≤ 40 := by omega
  have hD0 : 0 ≤ D ∧ D ≤ 1048576 := by omega
  have HF := Lib.hid hF
  have HK := Lib.hid hK
  have HD := Lib.hid hD
  clear hF hK hD b0
  go_enter Try.func30, Try.ntmps30
  go_wp2
  rw [← HK.out, ← HD.out]
  go_loop [7, 17] (fun nv kv => ∃ k : Nat, k ≤ K ∧ kv = .int .i64 k ∧ nv = .int .i64 (8 * (D + 1) + sumW c.base c.cap k)) (fun _ kv => K - (intOf kv).toNat)
  case atStart => exact ⟨0, by omega, rfl, by simp [sumW]⟩
  case round =>
    obtain ⟨k, h1, rfl, rfl⟩ := hrel
    obtain ⟨h2, h3⟩ := sumW_bd c.base c.cap k
    obtain ⟨h4, h5, _⟩ := waitF_bd c.base k c.cap
    by_cases h : k < K
    · have hs : sumW c.base c.cap (k + 1) = sumW c.base c.cap k + waitF c.base k c.cap := rfl
      have HS := Lib.hid hs
      clear hs
      go_wp2_with (go_at_call 16; refine (wait_calls _ _ _ _ (by omega) (by omega)).mono ?_; rintro e w' ⟨rfl, rfl⟩)
      go_round
      case rel => exact ⟨k + 1, by omega, by go_num, by rw [HS.out]; go_num⟩
      case measure => simp [intOf]; omega
    · have hk : k = K := by omega
      subst hk
      go_wp2
      go_ret
      exact ⟨ret_int HF.out.symm, q0⟩

theorem tells37_at (r : Rule) (n q : Int) (c : Config) (d v : Int) (A0 A1 : Option Addr) (c0 c1 : Nat) (w : World) (hv : IntOk v) (hn : IntOk n) (hq : IntOk q) (hr : IntOk r.n) :
    Calls Try.prog 10 #[.agg #[.int .i64 r.kind, .int .i64 r.n], .int .i64 n, .int .i64 q, .agg #[.slice A0 c.roots.length c0, .slice A1 c.clients.length c1, .int .i64 c.quorum, .int .i64 c.base, .int .i64 c.cap], .int .i64 d, .int .i64 v] w
      fun e w' => e = .returned (.bool true) ∧ Below w.heap.size w w' := by
  obtain ⟨q1, q2⟩ := alloc2_new w (.cells #[.int .i64 r.kind, .int .i64 r.n] 30) (.cells #[.slice A0 c.roots.length c0, .slice A1 c.clients.length c1, .int .i64 c.quorum, .int .i64 c.base, .int .i64 c.cap] 47)
  have q3 := bl_alloc (bl_alloc (Below.refl w.heap.size w) (.cells #[.int .i64 r.kind, .int .i64 r.n] 30)) (.cells #[.slice A0 c.roots.length c0, .slice A1 c.clients.length c1, .int .i64 c.quorum, .int .i64 c.base, .int .i64 c.cap] 47)
  generalize hW : (w.alloc (.cells #[.int .i64 r.kind, .int .i64 r.n] 30)).alloc (.cells #[.slice A0 c.roots.length c0, .slice A1 c.clients.length c1, .int .i64 c.quorum, .int .i64 c.base, .int .i64 c.cap] 47) = W at *
  have HW := Lib.hid hW
  clear hW
  obtain ⟨K, hK⟩ : ∃ K : Nat, (K : Int) = min (max v 0) 40 := ⟨(min (max v 0) 40).toNat, by omega⟩
  obtain ⟨D, hD⟩ : ∃ D : Int, D = min (max d 0) 1048576 := ⟨_, rfl⟩
  have hF : boundF c d v = 8 * (D + 1) + sumW c.base c.cap K := by unfold boundF; rw [← hK, ← hD]; rfl
  have hK40 : K ≤ 40 := by omega
  have hD0 : 0 ≤ D ∧ D ≤ 1048576 := by omega
  have HF := Lib.hid hF
  have HK := Lib.hid hK
  have HD := Lib.hid hD
  clear hF hK hD
  rcases checkF_or r n q with hz | hz
  · obtain ⟨h1, h2, h3, h4⟩ := checkF_zero hz
    rcases h4 with ⟨h4, h5, h6⟩ | ⟨h4, h5, h6⟩
    · have hm : mostF r n q = max (r.n + q - n - 1) 0 := by simp [mostF, hz, h4]
      have hl : liveF r n q = n - r.n := by simp [liveF, hz, h4]
      have k1 : (r.kind == 1) = true := by simp [h4]
      have HM := Lib.hid hm
      have HL := Lib.hid hl
      have HZ := Lib.hid hz
      clear hm hl hz h4
      go_enter Try.func10, Try.ntmps10
      go_wp2_with (go_at_call 23; rw [HW.out]; refine (may_calls r n q _).mono ?_; rw [HZ.out]; rintro e w1 ⟨rfl, b1⟩; have q4 := bl_trans q3 b1; have d0 := cell_below b1 (block_cell q1 (i := 0) rfl); have d1 := cell_below b1 (block_cell q1 (i := 1) rfl); have e3 := cell_below b1 (block_cell q2 (i := 3) rfl); have e4 := cell_below b1 (block_cell q2 (i := 4) rfl); have e0 := cell_below b1 (block_cell q2 (i := 0) rfl); have e1 := cell_below b1 (block_cell q2 (i := 1) rfl); have e2 := cell_below b1 (block_cell q2 (i := 2) rfl))
      have s1 : IntKind.i64.wrap (r.n + q) = r.n + q := IntWalk.i64_in _ (by omega)
      have s2 : IntKind.i64.wrap (r.n + q - n) = r.n + q - n := IntWalk.i64_in _ (by omega)
      have s3 : IntKind.i64.wrap (r.n + q - n - 1) = r.n + q - n - 1 := IntWalk.i64_in _ (by omega)
      have s4 : IntKind.i64.wrap (n - r.n) = n - r.n := IntWalk.i64_in _ (by omega)
      go_quiet (fail)
      clear s1 s2 s3 s4
      go_wp2_with fail
      rw [← HD.out]
      
      go_loop [15, 16] (fun nv kv => ∃ k : Nat, k ≤ K ∧ kv = .int .i64 k ∧ nv = .int .i64 (8 * (D + 1) + sumW c.base c.cap k)) (fun _ kv => K - (intOf kv).toNat)
      case atStart => exact ⟨0, by omega, rfl, by simp [sumW]⟩
      case round =>
        obtain ⟨k, g1, rfl, rfl⟩ := hrel
        obtain ⟨g2, g3⟩ := sumW_bd c.base c.cap k
        obtain ⟨g4, g5, _⟩ := waitF_bd c.base k c.cap
        have hk := HK.out
        by_cases h : k < K
        · have hs : sumW c.base c.cap (k + 1) = sumW c.base c.cap k + waitF c.base k c.cap := rfl
          have HS := Lib.hid hs
          have u1 : decide ((k : Int) < v) = true := by simp; omega
          have u2 : decide ((k : Int) < 40) = true := by simp; omega
          clear hs hk
          go_wp2_with (go_at_call 16; refine (wait_calls _ _ _ _ (by omega) (by omega)).mono ?_; rintro e w' ⟨rfl, rfl⟩)
          go_round
          case rel => exact ⟨k + 1, by omega, by go_num, by rw [HS.out]; go_num⟩
          case measure => simp [intOf]; omega
        · have hkk : k = K := by omega
          subst hkk
          have us : decide ((k : Int) < v) = false ∨ (decide ((k : Int) < v) = true ∧ decide ((k : Int) < 40) = false) := by simp; omega
          clear hk
          rcases us with u1 | ⟨u1, u2⟩
          all_goals
            go_wp2_with (first
              | (go_at_call 24; refine (most_calls r n q _).mono ?_; rw [HM.out]; rintro e w2 ⟨rfl, b2'⟩; have b2 := bl_trans (bl_drewN (Below.refl w1.heap.size w1) _) b2'; have q5 := bl_trans q4 b2; have d20 := cell_below b2 d0; have d21 := cell_below b2 d1)
              | (go_at_call 25; refine (live_calls r n q _).mono ?_; rw [HL.out]; rintro e w3 ⟨rfl, b3⟩; have q6 := bl_trans q5 b3; have b13 := bl_trans b2 b3; have f0 := cell_below b13 e0; have f1 := cell_below b13 e1; have f2 := cell_below b13 e2; have f3 := cell_below b13 e3; have f4 := cell_below b13 e4)
              | (go_at_call 30; refine (bound_calls c d v A0 A1 c0 c1 _).mono ?_; rw [HF.out]; rintro e w4 ⟨rfl, b4⟩; have q7 := bl_trans q6 b4)
              | (go_at_call 21; refine (alive37_calls _).mono ?_; rintro e w5 ⟨rfl, b5⟩; have q8 := bl_trans q7 b5))
            go_ret
            exact ⟨by simp, q8⟩
    · have hm : mostF r n q = q - 1 := by simp [mostF, hz, h4]
      have hl : liveF r n q = n - q := by simp [liveF, hz, h4]
      have k1 : (r.kind == 1) = false := by simp [h4]
      have HM := Lib.hid hm
      have HL := Lib.hid hl
      have HZ := Lib.hid hz
      clear hm hl hz h4
      go_enter Try.func10, Try.ntmps10
      go_wp2_with (go_at_call 23; rw [HW.out]; refine (may_calls r n q _).mono ?_; rw [HZ.out]; rintro e w1 ⟨rfl, b1⟩; have q4 := bl_trans q3 b1; have d0 := cell_below b1 (block_cell q1 (i := 0) rfl); have d1 := cell_below b1 (block_cell q1 (i := 1) rfl); have e3 := cell_below b1 (block_cell q2 (i := 3) rfl); have e4 := cell_below b1 (block_cell q2 (i := 4) rfl); have e0 := cell_below b1 (block_cell q2 (i := 0) rfl); have e1 := cell_below b1 (block_cell q2 (i := 1) rfl); have e2 := cell_below b1 (block_cell q2 (i := 2) rfl))
      rw [← HD.out]
      
      go_loop [15, 16] (fun nv kv => ∃ k : Nat, k ≤ K ∧ kv = .int .i64 k ∧ nv = .int .i64 (8 * (D + 1) + sumW c.base c.cap k)) (fun _ kv => K - (intOf kv).toNat)
      case atStart => exact ⟨0, by omega, rfl, by simp [sumW]⟩
      case round =>
        obtain ⟨k, g1, rfl, rfl⟩ := hrel
        obtain ⟨g2, g3⟩ := sumW_bd c.base c.cap k
        obtain ⟨g4, g5, _⟩ := waitF_bd c.base k c.cap
        have hk := HK.out
        by_cases h : k < K
        · have hs : sumW c.base c.cap (k + 1) = sumW c.base c.cap k + waitF c.base k c.cap := rfl
          have HS := Lib.hid hs
          have u1 : decide ((k : Int) < v) = true := by simp; omega
          have u2 : decide ((k : Int) < 40) = true := by simp; omega
          clear hs hk
          go_wp2_with (go_at_call 16; refine (wait_calls _ _ _ _ (by omega) (by omega)).mono ?_; rintro e w' ⟨rfl, rfl⟩)
          go_round
          case rel => exact ⟨k + 1, by omega, by go_num, by rw [HS.out]; go_num⟩
          case measure => simp [intOf]; omega
        · have hkk : k = K := by omega
          subst hkk
          have us : decide ((k : Int) < v) = false ∨ (decide ((k : Int) < v) = true ∧ decide ((k : Int) < 40) = false) := by simp; omega
          clear hk
          rcases us with u1 | ⟨u1, u2⟩
          all_goals
            go_wp2_with (first
              | (go_at_call 24; refine (most_calls r n q _).mono ?_; rw [HM.out]; rintro e w2 ⟨rfl, b2⟩; have q5 := bl_trans q4 b2; have d20 := cell_below b2 d0; have d21 := cell_below b2 d1)
              | (go_at_call 25; refine (live_calls r n q _).mono ?_; rw [HL.out]; rintro e w3 ⟨rfl, b3⟩; have q6 := bl_trans q5 b3; have b13 := bl_trans b2 b3; have f0 := cell_below b13 e0; have f1 := cell_below b13 e1; have f2 := cell_below b13 e2; have f3 := cell_below b13 e3; have f4 := cell_below b13 e4)
              | (go_at_call 30; refine (bound_calls c d v A0 A1 c0 c1 _).mono ?_; rw [HF.out]; rintro e w4 ⟨rfl, b4⟩; have q7 := bl_trans q6 b4)
              | (go_at_call 21; refine (alive37_calls _).mono ?_; rintro e w5 ⟨rfl, b5⟩; have q8 := bl_trans q7 b5))
            go_ret
            exact ⟨by simp, q8⟩
  · have hm : mostF r n q = -1 := by simp [mostF, hz]
    have hl : liveF r n q = -1 := by simp [liveF, hz]
    have HM := Lib.hid hm
    have HL := Lib.hid hl
    have HZ := Lib.hid hz
    clear hm hl hz
    go_enter Try.func10, Try.ntmps10
    go_wp2_with (go_at_call 23; rw [HW.out]; refine (may_calls r n q _).mono ?_; rw [HZ.out]; rintro e w1 ⟨rfl, b1⟩; have q4 := bl_trans q3 b1; have d0 := cell_below b1 (block_cell q1 (i := 0) rfl); have d1 := cell_below b1 (block_cell q1 (i := 1) rfl); have e3 := cell_below b1 (block_cell q2 (i := 3) rfl); have e4 := cell_below b1 (block_cell q2 (i := 4) rfl); have e0 := cell_below b1 (block_cell q2 (i := 0) rfl); have e1 := cell_below b1 (block_cell q2 (i := 1) rfl); have e2 := cell_below b1 (block_cell q2 (i := 2) rfl))
    rw [← HD.out]
    
    go_loop [15, 16] (fun nv kv => ∃ k : Nat, k ≤ K ∧ kv = .int .i64 k ∧ nv = .int .i64 (8 * (D + 1) + sumW c.base c.cap k)) (fun _ kv => K - (intOf kv).toNat)
    case atStart => exact ⟨0, by omega, rfl, by simp [sumW]⟩
    case round =>
      obtain ⟨k, g1, rfl, rfl⟩ := hrel
      obtain ⟨g2, g3⟩ := sumW_bd c.base c.cap k
      obtain ⟨g4, g5, _⟩ := waitF_bd c.base k c.cap
      have hk := HK.out
      by_cases h : k < K
      · have hs : sumW c.base c.cap (k + 1) = sumW c.base c.cap k + waitF c.base k c.cap := rfl
        have HS := Lib.hid hs
        have u1 : decide ((k : Int) < v) = true := by simp; omega
        have u2 : decide ((k : Int) < 40) = true := by simp; omega
        clear hs hk
        go_wp2_with (go_at_call 16; refine (wait_calls _ _ _ _ (by omega) (by omega)).mono ?_; rintro e w' ⟨rfl, rfl⟩)
        go_round
        case rel => exact ⟨k + 1, by omega, by go_num, by rw [HS.out]; go_num⟩
        case measure => simp [intOf]; omega
      · have hkk : k = K := by omega
        subst hkk
        have us : decide ((k : Int) < v) = false ∨ (decide ((k : Int) < v) = true ∧ decide ((k : Int) < 40) = false) := by simp; omega
        clear hk
        rcases us with u1 | ⟨u1, u2⟩
        all_goals
          go_wp2_with (first
            | (go_at_call 24; refine (most_calls r n q _).mono ?_; rw [HM.out]; rintro e w2 ⟨rfl, b2⟩; have q5 := bl_trans q4 b2; have d20 := cell_below b2 d0; have d21 := cell_below b2 d1)
            | (go_at_call 25; refine (live_calls r n q _).mono ?_; rw [HL.out]; rintro e w3 ⟨rfl, b3⟩; have q6 := bl_trans q5 b3; have b13 := bl_trans b2 b3; have f0 := cell_below b13 e0; have f1 := cell_below b13 e1; have f2 := cell_below b13 e2; have f3 := cell_below b13 e3; have f4 := cell_below b13 e4)
            | (go_at_call 30; refine (bound_calls c d v A0 A1 c0 c1 _).mono ?_; rw [HF.out]; rintro e w4 ⟨rfl, b4⟩; have q7 := bl_trans q6 b4)
            | (go_at_call 21; refine (alive37_calls _).mono ?_; rintro e w5 ⟨rfl, b5⟩; have q8 := bl_trans q7 b5))
          go_ret
          exact ⟨by simp, q8⟩
end Go.Proofs.Ytflfpfaebndefaa
