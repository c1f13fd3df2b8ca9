/- Package store: a store that nobody made. No claim of its own; no condition. -/
import Derived.Test.YtcbfpdenjdgnlaaGreatFlat
import Derived.Lib.Hide
namespace Go.Proofs.YtcbfpdenjdgnlaaGreat
open Go.ChangeShapes Go.WideShapes Go.ChangeAt Go.RowKit
set_option linter.unusedVariables false
set_option linter.unusedSimpArgs false
theorem sis_nil (w : World) : Calls Tryz.prog 93 #[.pointer none] w fun e w' => e = .returned (.bool false) ∧ w' = w := by
  go_enter Tryz.func93, Tryz.ntmps93
  go_wp2
  go_ret
  exact ⟨rfl, rfl⟩
theorem sis_at (b : Nat) (L : Option Addr) (w : World) (h : w.cell? ⟨b, 7, none⟩ = some (.pointer L)) : Calls Tryz.prog 93 #[.pointer (some ⟨b, 0, none⟩)] w fun e w' => e = .returned (.bool L.isSome) ∧ w' = w := by
  cases L with
  | none =>
    go_enter Tryz.func93, Tryz.ntmps93
    go_wp2
    go_ret
    exact ⟨rfl, rfl⟩
  | some a =>
    go_enter Tryz.func93, Tryz.ntmps93
    go_wp2
    go_ret
    exact ⟨rfl, rfl⟩
def Nob (p : Option Addr) (w : World) : Prop := p = none ∨ ∃ b, p = some ⟨b, 0, none⟩ ∧ w.cell? ⟨b, 7, none⟩ = some (.pointer none)
theorem sis_nob {p : Option Addr} {w : World} (h : Nob p w) : Calls Tryz.prog 93 #[.pointer p] w fun e w' => e = .returned (.bool false) ∧ w' = w := by
  rcases h with rfl | ⟨b, rfl, hc⟩
  · exact sis_nil w
  · exact sis_at b none w hc
theorem sdown_nob {p : Option Addr} {w : World} (h : Nob p w) : Calls Tryz.prog 38 #[.pointer p] w fun e w' => e = .returned (.bool true) ∧ w' = w := by
  have H := Lib.hid (sis_nob h)
  clear h
  go_enter Tryz.func38, Tryz.ntmps38
  go_wp2_with (go_at_call 93; refine (H.out).mono ?_; rintro e w' ⟨rfl, rfl⟩)
  go_ret
  exact ⟨rfl, rfl⟩
theorem sdown_at (b : Nat) (a : Addr) (d : Bool) (w : World) (h : w.cell? ⟨b, 7, none⟩ = some (.pointer (some a))) (hd : w.cell? ⟨b, 9, none⟩ = some (.bool d)) : Calls Tryz.prog 38 #[.pointer (some ⟨b, 0, none⟩)] w fun e w' => e = .returned (.bool d) ∧ w' = w := by
  have H := Lib.hid (sis_at b (some a) w h)
  go_enter Tryz.func38, Tryz.ntmps38
  go_wp2_with (go_at_call 93; refine (H.out).mono ?_; rintro e w' ⟨rfl, rfl⟩)
  go_ret
  exact ⟨rfl, rfl⟩
theorem sfail_nob {p : Option Addr} {w : World} (h : Nob p w) (A : Option Addr) (n c : Nat) (k : Int) : Calls Tryz.prog 42 #[.pointer p, .slice A n c, .int .i64 k] w fun e w' => (∃ u, e = .returned u) ∧ w' = w := by
  have H := Lib.hid (sdown_nob h)
  clear h
  go_enter Tryz.func42, Tryz.ntmps42
  go_wp2_with (go_at_call 38; refine (H.out).mono ?_; rintro e w' ⟨rfl, rfl⟩)
  (try simp only [Exit.inBlock, Exit.then]); refine bodyPost_ret (results_none rfl _ _ _) rfl ?_
  exact ⟨⟨_, rfl⟩, rfl⟩
theorem shear_nob {p : Option Addr} {w : World} (h : Nob p w) (A : Option Addr) (n c : Nat) : Calls Tryz.prog 37 #[.pointer p, .slice A n c] w fun e w' => e = .returned (.bool false) ∧ w' = w := by
  have H := Lib.hid (sdown_nob h)
  clear h
  go_enter Tryz.func37, Tryz.ntmps37
  go_wp2_with (go_at_call 38; refine (H.out).mono ?_; rintro e w' ⟨rfl, rfl⟩)
  go_ret
  exact ⟨rfl, rfl⟩
theorem slearner_nob {p : Option Addr} {w : World} (h : Nob p w) : Calls Tryz.prog 41 #[.pointer p] w fun e w' => e = .returned (.pointer none) ∧ w' = w := by
  have H := Lib.hid (sdown_nob h)
  clear h
  go_enter Tryz.func41, Tryz.ntmps41
  go_wp2_with (go_at_call 38; refine (H.out).mono ?_; rintro e w' ⟨rfl, rfl⟩)
  go_ret
  exact ⟨rfl, rfl⟩
theorem sup_nob {p : Option Addr} {w : World} (h : Nob p w) : Calls Tryz.prog 39 #[.pointer p] w fun e w' => e = .returned (.int .i64 9) ∧ w' = w := by
  have H := Lib.hid (sis_nob h)
  clear h
  go_enter Tryz.func39, Tryz.ntmps39
  go_wp2_with (go_at_call 93; refine (H.out).mono ?_; rintro e w' ⟨rfl, rfl⟩)
  go_ret
  exact ⟨rfl, rfl⟩
/-- One that is up is not up again. -/
theorem sup_at (b : Nat) (a : Addr) (w : World) (h : w.cell? ⟨b, 7, none⟩ = some (.pointer (some a))) (hd : w.cell? ⟨b, 9, none⟩ = some (.bool false)) : Calls Tryz.prog 39 #[.pointer (some ⟨b, 0, none⟩)] w fun e w' => e = .returned (.int .i64 9) ∧ w' = w := by
  have H := Lib.hid (sis_at b (some a) w h)
  go_enter Tryz.func39, Tryz.ntmps39
  go_wp2_with (go_at_call 93; refine (H.out).mono ?_; rintro e w' ⟨rfl, rfl⟩)
  go_ret
  exact ⟨rfl, rfl⟩
theorem sledger_nob {p : Option Addr} {w : World} (h : Nob p w) : Calls Tryz.prog 43 #[.pointer p] w fun e w' => e = .returned (.tuple #[.slice none 0 0, .int .i64 9]) ∧ w' = w := by
  have H := Lib.hid (sis_nob h)
  clear h
  go_enter Tryz.func43, Tryz.ntmps43
  go_wp2_with (go_at_call 93; refine (H.out).mono ?_; rintro e w' ⟨rfl, rfl⟩)
  go_ret2
  exact ⟨rfl, rfl⟩
theorem snames_nob {p : Option Addr} {w : World} (h : Nob p w) : Calls Tryz.prog 40 #[.pointer p] w fun e w' => e = .returned (.tuple #[.slice none 0 0, .int .i64 9]) ∧ w' = w := by
  have H := Lib.hid (sis_nob h)
  clear h
  go_enter Tryz.func40, Tryz.ntmps40
  go_wp2_with (go_at_call 93; refine (H.out).mono ?_; rintro e w' ⟨rfl, rfl⟩)
  go_ret2
  exact ⟨rfl, rfl⟩
/-- One that is down. -/
theorem snames_down (b : Nat) (a : Addr) (w : World) (h : w.cell? ⟨b, 7, none⟩ = some (.pointer (some a))) (hd : w.cell? ⟨b, 9, none⟩ = some (.bool true)) : Calls Tryz.prog 40 #[.pointer (some ⟨b, 0, none⟩)] w fun e w' => e = .returned (.tuple #[.slice none 0 0, .int .i64 74]) ∧ w' = w := by
  have H := Lib.hid (sis_at b (some a) w h)
  go_enter Tryz.func40, Tryz.ntmps40
  go_wp2_with (go_at_call 93; refine (H.out).mono ?_; rintro e w' ⟨rfl, rfl⟩)
  go_ret2
  exact ⟨rfl, rfl⟩
end Go.Proofs.YtcbfpdenjdgnlaaGreat
