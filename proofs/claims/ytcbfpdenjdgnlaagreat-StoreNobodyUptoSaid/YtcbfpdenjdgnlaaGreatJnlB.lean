/- Package journal: Write of one record. No claim of its own; no condition. -/
import Derived.Test.YtcbfpdenjdgnlaaGreatJnlA
namespace Go.Proofs.YtcbfpdenjdgnlaaGreat
open Go.ChangeShapes Go.WideShapes Go.ChangeAt Go.RowKit
set_option linter.unusedVariables false
set_option linter.unusedSimpArgs false
set_option maxHeartbeats 1600000 in
set_option maxRecDepth 100000 in
theorem write1_calls (M N sure : Nat) (b l : List UInt8) (room : Int) (A : Option Addr) (c c1 : Nat) (R : Addr) (w : World) (h : Dsk M w N b sure room)
    (hl : l.length ≤ 16384) (hfit : ((3 + l.length : Nat) : Int) ≤ room - b.length) (hlc : l.length ≤ c) (hc : c ≤ maxLen)
    (hcell : ∀ W, Dk M w W → W.cell? R = some (.slice A l.length c)) (hrow : ∀ W, Below M w W → Kd.u8.Row 5 0 W A l) :
    Calls Tryz.prog 91 #[.pointer (some ⟨N, 0, none⟩), .slice (some R) 1 c1] w fun x w' => x = .returned (.int .i64 0) ∧ Dsk M w' N (b ++ frameB l) sure room ∧ Dk M w w' := by
  have hMw := dsk_size h
  have HA := Lib.hid (dappend_ok M N sure b [] room none 0 w h (by simp; omega) (Kd.row_nil _ _ _ _ _))
  have HCELL := Lib.hid hcell
  have HROW := Lib.hid hrow
  have HL := Lib.hid hl
  have HF := Lib.hid hfit
  have HLC := Lib.hid hlc
  have HC := Lib.hid hc
  have HM := Lib.hid hMw
  obtain ⟨i0, hi, hz0, hz1, hz2⟩ := info_parts info_u8
  clear h hcell hrow hl hfit hlc hc hMw
  go_enter Tryz.func91, Tryz.ntmps91
  go_wp2_with (go_at_call 162; refine Calls.mono (HA.out) ?_; rintro x w1 ⟨rfl, d1, k1⟩; rw [List.append_nil] at d1; have D1 := Lib.hid d1; have K1 := Lib.hid k1; clear d1 k1)
  go_loopw [5, 15] (fun ov kv wr => Below w1.heap.size w1 wr ∧ ((kv = .int .i64 0 ∧ ov = .slice none 0 0) ∨ (kv = .int .i64 1 ∧ Kd.u8.Own 5 w1.heap.size wr w1.heap.size ov (frameB l)))) (fun _ kv _ => 1 - (intOf kv).toNat)
  case atStart => exact ⟨Below.refl _ _, .inl ⟨rfl, rfl⟩⟩
  case round =>
    obtain ⟨bel, hrel | hrel⟩ := hrel
    · obtain ⟨rfl, rfl⟩ := hrel
      have kw : Dk M w wr := dk_trans K1.out (dk_below bel (by have := HM.out; have := K1.out.1.size; omega))
      have c0 := HCELL.out wr kw
      have HFR := Lib.hid (frame_calls l A c wr HL.out HLC.out HC.out (HROW.out wr kw.1))
      have BEL := Lib.hid bel
      clear bel kw
      go_wp2_with first
        | (go_at_call 163; refine Calls.mono (HFR.out) ?_; rintro x w2 ⟨⟨v2, rfl, own2⟩, b2⟩; obtain ⟨A2, c2, rfl, l2, m2, row2, _⟩ := Kd.own_row own2)
        | (at_builtin; refine wpList_append_row _ rfl (.tmp 27) (.tmp 28) 60 rfl Kd.u8 w2.heap.size w2.heap.size 5 i0 _ 1 Tryz.underlying60 hi hz0 hz1 hz2 rfl (by decide) _ [] rfl (Kd.own_nil _ _ _ _ _) _ _ _ (frameB l) rfl rfl (own_rows Kd.flat_u8 own2 _) (by rw [frameB_len]; have := HL.out; simp; omega) (by decide) (Nat.le_refl _) (Nat.le_refl _) (by decide) ?_; intro v4 w4 own4 grw4 at4; have bel4 := Kd.own_step (Below.refl w2.heap.size w2) (Kd.own_nil Kd.u8 5 w2.heap.size w2 w2.heap.size) grw4; rw [List.nil_append] at own4)
      go_roundw
      case rel => exact ⟨((BEL.out).trans (b2.mono (BEL.out).size)).trans (bel4.mono (by have := (BEL.out).size; have := b2.size; omega)), .inr ⟨rfl, Kd.own_flat Kd.flat_u8 own4 (by have := (BEL.out).size; have := b2.size; omega)⟩⟩
      case measure => simp [intOf]
    · obtain ⟨rfl, own⟩ := hrel
      obtain ⟨A2, c2, rfl, l2, m2, row2, _⟩ := Kd.own_row own
      have HA2 := Lib.hid (dappend_ok M N sure b (frameB l) room A2 c2 wr (dsk_below D1.out bel) (by rw [frameB_len]; exact HF.out) (own_rows Kd.flat_u8 own 0))
      have BEL := Lib.hid bel
      clear bel own l2
      go_wp2_with (go_at_call 162; refine Calls.mono (HA2.out) ?_; rintro x w3 ⟨rfl, d3, k3⟩)
      go_ret
      exact ⟨rfl, d3, dk_trans (dk_trans K1.out (dk_below BEL.out (by have := HM.out; have := K1.out.1.size; omega))) k3⟩
end Go.Proofs.YtcbfpdenjdgnlaaGreat
