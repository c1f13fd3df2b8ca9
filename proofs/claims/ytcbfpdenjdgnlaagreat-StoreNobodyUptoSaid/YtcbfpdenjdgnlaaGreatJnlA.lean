/- Package journal: Frame, Write of one record. No claim of its own; no condition. -/
import Derived.Test.YtcbfpdenjdgnlaaGreatDskB
import Derived.Test.YtcbfpdenjdgnlaaGreatShaH
import Derived.Test.YtcbfpdenjdgnlaaGreatPutN
import Derived.Test.YtcbfpdenjdgnlaaGreatJoiA
namespace Go.Proofs.YtcbfpdenjdgnlaaGreat
open Go.ChangeShapes Go.WideShapes Go.ChangeAt Go.RowKit
set_option linter.unusedVariables false
set_option linter.unusedSimpArgs false
def frameB (b : List UInt8) : List UInt8 := putB 3 b.length ++ b
theorem frameB_len (b : List UInt8) : (frameB b).length = 3 + b.length := by simp [frameB, putB_len]
set_option maxHeartbeats 1600000 in
set_option maxRecDepth 100000 in
theorem frame_calls (b : List UInt8) (A : Option Addr) (c : Nat) (w : World) (hl : b.length ≤ 16384) (hbc : b.length ≤ c) (hc : c ≤ maxLen) (hr : Kd.u8.Row 5 0 w A b) :
    Calls Tryz.prog 163 #[.slice A b.length c] w fun x w' => (∃ v, x = .returned (.tuple #[v, .int .i64 0]) ∧ Kd.u8.Own 5 w.heap.size w' w.heap.size v (frameB b)) ∧ Below w.heap.size w w' := by
  have HP := Lib.hid (putn_row 3 b.length (by omega) (by omega) (by omega) w)
  have hgt : ¬ ((b.length : Int) > 16384) := by omega
  have HR := Lib.hid hr
  have HC := Lib.hid hc
  have HBC := Lib.hid hbc
  clear hr hc hbc
  go_enter Tryz.func163, Tryz.ntmps163
  go_wp2_with first
    | (go_at_call 153; refine Calls.mono (HP.out) ?_; rintro x w1 ⟨⟨g, rfl, row1⟩, b1⟩)
    | (go_at_call 191; have ba := bl_alloc (Below.refl w1.heap.size w1) (.cells #[.slice (some g) 3 3, .slice A b.length c] 60); refine Calls.mono (join_calls [putB 3 b.length, b] _ 2 2 _ 0 rfl (by simp) (by simp [putB_len]; omega) (Kd.row_fresh rfl (.cons (by have := k_slice (c := 3) (by rw [putB_len]; exact Nat.le_refl 3) (by simp [maxLen]) (Kd.row_below ba (row1 0)); rwa [putB_len] at this) (.cons (k_slice HBC.out HC.out (Kd.row_below ba (Kd.row_below b1 HR.out))) .nil)))) ?_; rintro x w2 ⟨⟨v2, rfl, own2⟩, b2⟩)
  go_ret2
  have hz : (w1.alloc (.cells #[.slice (some g) 3 3, .slice A b.length c] 60)).heap.size = w1.heap.size + 1 := World.size_alloc _ _
  have z1 := b1.size
  refine ⟨⟨_, rfl, Kd.own_flat Kd.flat_u8 (by simpa [frameB] using own2) (by omega)⟩, (bl_alloc b1 _).trans (b2.mono (by omega))⟩
end Go.Proofs.YtcbfpdenjdgnlaaGreat
