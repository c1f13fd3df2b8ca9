/- Package mootlaw23: alive. No claim of its own; no condition. -/
import Derived.Test.YtcbfpdenjdgnlaaGreatStoD
namespace Go.Proofs.YtcbfpdenjdgnlaaGreat
open Go.ChangeShapes Go.WideShapes Go.ChangeAt Go.RowKit
set_option linter.unusedVariables false
set_option linter.unusedSimpArgs false
theorem fineR : Fine [⟨#[114]⟩] [] 1 1 1 := ⟨by decide, by decide, by decide, by decide, by decide, by decide⟩
theorem rowR (w : World) (B : Nat) : Kd.str.Row 9 B (w.alloc (.cells #[.string ⟨#[114]⟩] 9)) (some ⟨w.heap.size, 0, none⟩) [⟨#[114]⟩] := Kd.row_fresh1 (show Kd.str.K _ _ ⟨#[114]⟩ [.string ⟨#[114]⟩] from ⟨rfl, by decide⟩)
theorem snewR (w : World) : Calls Tryz.prog 36 #[.agg #[.slice (some ⟨w.heap.size, 0, none⟩) 1 1, .slice none 0 0, .int .i64 1, .int .i64 0, .int .i64 0], .agg #[.int .i64 1, .int .i64 1], .int .i64 900] (w.alloc (.cells #[.string ⟨#[114]⟩] 9))
    fun x w' => (∃ S L D m, x = .returned (.tuple #[.pointer (some ⟨S, 0, none⟩), .int .i64 0]) ∧ StoAt (w.heap.size + 1) w' S L D [⟨#[114]⟩] [] 1 0 0 1 1 false [] 0 900 ∧ w'.cell? ⟨L, 8, none⟩ = some (.map (some m))) ∧ Below w.heap.size w w' := by
  have hz : (w.alloc (.cells #[.string ⟨#[114]⟩] 9)).heap.size = w.heap.size + 1 := World.size_alloc _ _
  refine (snew_ok [⟨#[114]⟩] [] (some ⟨w.heap.size, 0, none⟩) none 1 0 1 0 0 1 1 900 (w.alloc (.cells #[.string ⟨#[114]⟩] 9)) 0 (rowR w 0) (Kd.row_nil _ _ _ _ _) fineR.1 fineR.2.1 fineR.2.2.1 fineR.2.2.2.1 fineR.2.2.2.2.1 fineR.2.2.2.2.2 (by omega)).mono ?_
  rintro x w' ⟨⟨S, rfl, h⟩, b⟩
  obtain ⟨L, D, h1, h2⟩ := stoat_new h (by omega)
  obtain ⟨T, M, m, A1, c1, A2, c2, h3, _⟩ := h2
  rw [hz] at h1
  exact ⟨⟨S, L, D, m, rfl, h1, block_cell h3 (i := 8) rfl⟩, (bl_alloc (Below.refl _ _) _).trans (b.mono (by omega))⟩
set_option maxHeartbeats 1600000 in
set_option maxRecDepth 100000 in
theorem alive23_calls (w : World) : Calls Tryz.prog 35 #[] w fun e w' => e = .returned (.bool true) ∧ Below w.heap.size w w' := by
  have HN := Lib.hid (snewR w)
  go_enter Tryz.func35, Tryz.ntmps35
  go_wp2_with first
    | (go_at_call 36; refine Calls.mono (HN.out) ?_; rintro x w1 ⟨⟨S, L, D, m, rfl, st, hm⟩, b1⟩; have F1 := Lib.hid (sfail_nil _ S L D m _ _ _ _ _ _ _ _ w1 st hm); have Z1 := Lib.hid ((stoat_cells st).2.2.2.2.2.2); clear st hm)
    | (go_at_call 42; refine Calls.mono (F1.out) ?_; rintro x w2 ⟨⟨vx, rfl⟩, st2, b2⟩; have s7 := (stoat_cells st2).1; have s9 := (stoat_cells st2).2.2.1; have D2 := Lib.hid (sdown_at S ⟨L, 0, none⟩ true w2 s7 s9); have U2 := Lib.hid (sup_ok _ S L D _ _ _ _ _ _ _ _ w2 st2 fineR); have ST2 := Lib.hid st2; have NM2 := Lib.hid (snames_down S ⟨L, 0, none⟩ w2 s7 s9); have B2 := Lib.hid b2; clear st2 b2 s7 s9)
    | (go_at_call 40; refine Calls.mono (NM2.out) ?_; rintro x w3 ⟨rfl, hw⟩; subst hw)
    | (go_at_call 38; refine Calls.mono (D2.out) ?_; rintro x w4 ⟨rfl, hw⟩; subst hw)
    | (go_at_call 39; refine Calls.mono (U2.out) ?_; rintro x w5 ⟨rfl, ⟨L5, st5⟩, b5⟩; have D5 := Lib.hid (sdown_at S ⟨L5, 0, none⟩ false w5 (sto0_cells st5).1 (sto0_cells st5).2); have B5 := Lib.hid b5; clear st5 b5)
    | (go_at_call 38; refine Calls.mono (D5.out) ?_; rintro x w6 ⟨rfl, hw⟩; subst hw)
  go_ret
  have z := b1.size
  exact ⟨rfl, (b1.trans (B2.out.mono (by omega))).trans (B5.out.mono (by omega))⟩
end Go.Proofs.YtcbfpdenjdgnlaaGreat
