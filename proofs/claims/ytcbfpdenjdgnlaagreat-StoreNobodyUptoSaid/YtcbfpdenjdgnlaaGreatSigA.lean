/- Package signer: Size, texts. No claim of its own; no condition. -/
import Derived.Test.YtcbfpdenjdgnlaaGreatWotF
namespace Go.Proofs.YtcbfpdenjdgnlaaGreat
open Go.ChangeShapes Go.WideShapes Go.ChangeAt Go.RowKit
set_option linter.unusedVariables false
set_option linter.unusedSimpArgs false
theorem size_calls (h : Nat) (w : World) (hh : h ≤ 4) : Calls Tryz.prog 230 #[.int .i64 (h : Int)] w fun e w' => e = .returned (.int .i64 (90 + 8 * (h : Int))) ∧ w = w' := by
  have h0 : ¬ ((h : Int) < 0) := by omega
  have h4 : ¬ ((h : Int) > 4) := by omega
  go_enter Tryz.func230, Tryz.ntmps230
  go_wp2_with fail
  go_ret
  exact ⟨ret_int (by omega), rfl⟩
/-- Pieces of eight octets, so many. -/
def pcs (l : List UInt8) (m : Nat) : List ByteArray := (List.range m).map fun i => sb ((l.drop (8 * i)).take 8)
theorem pcs_len (l : List UInt8) (m : Nat) : (pcs l m).length = m := by simp [pcs]
theorem pcs_get (l : List UInt8) {m i : Nat} (h : i < m) : (pcs l m)[i]? = some (sb ((l.drop (8 * i)).take 8)) := by
  unfold pcs
  rw [List.getElem?_map, List.getElem?_range h]
  rfl
theorem pcs_eight {l : List UInt8} {m : Nat} (h : l.length = 8 * m) : ∀ x ∈ pcs l m, x.size = 8 := by
  intro x hx
  obtain ⟨i, hi, rfl⟩ := List.mem_map.1 hx
  rw [sb_size, List.length_take, List.length_drop, h]
  have := List.mem_range.1 hi
  omega
set_option maxHeartbeats 3200000 in
set_option maxRecDepth 100000 in
theorem texts_calls (s : ByteArray) (m : Nat) (w : World) (hs : s.size = 8 * m) (hm : m ≤ 64) :
    Calls Tryz.prog 231 #[.string s] w fun e w' => (∃ v, e = .returned v ∧ Kd.str.Own 9 w.heap.size w' w.heap.size v (pcs (bl s) m)) ∧ Below w.heap.size w w' := by
  obtain ⟨i0, hi, hz0, hz1, hz2⟩ := info_parts info_str
  obtain ⟨l, hl⟩ : ∃ l, bl s = l := ⟨_, rfl⟩
  have hll : l.length = 8 * m := by rw [← hl]; exact hs
  obtain ⟨C, hC⟩ : ∃ C, pcs l m = C := ⟨_, rfl⟩
  have hCl : C.length = m := by rw [← hC]; exact pcs_len l m
  have hCg : ∀ i, i < m → C[i]? = some (sb ((l.drop (8 * i)).take 8)) := fun i h => by rw [← hC]; exact pcs_get l h
  rw [hl, hC]
  have HLL := Lib.hid hll
  have HCL := Lib.hid hCl
  have HCG := Lib.hid hCg
  have HS := Lib.hid hl
  clear hs hl hll hC hCl hCg
  go_enter Tryz.func231, Tryz.ntmps231
  go_wp2_with fail
  have own0 : Kd.str.Own 9 w.heap.size w w.heap.size (.slice none 0 0) (C.take 0) := Kd.own_nil _ _ _ _ _
  go_loopw [0, 3] (fun sv ov w' => ∃ (k : Nat) (S : ByteArray), k ≤ m ∧ sv = .string S ∧ bl S = l.drop (8 * k) ∧ Kd.str.Own 9 w.heap.size w' w.heap.size ov (C.take k) ∧ Below w.heap.size w w') (fun sv _ _ => match sv with | .string S => S.size | _ => 0)
  case atStart => exact ⟨0, s, by omega, rfl, by rw [HS.out]; rfl, own0, Below.refl _ _⟩
  case round =>
    clear own0
    obtain ⟨k, S, hk, rfl, hS, own, bel⟩ := hrel
    have hSz : S.size = 8 * m - 8 * k := by rw [← bl_len, hS, List.length_drop, HLL.out]
    by_cases h : k < m
    · have hge : (S.size : Int) ≥ 8 := by omega
      have hge8 : 8 ≤ S.size := by omega
      have he0 : S.extract 0 8 = sb ((l.drop (8 * k)).take 8) := by rw [extract_sb, hS]; rfl
      have he1 : bl (S.extract 8 S.size) = l.drop (8 * (k + 1)) := by
        rw [extract_sb, bl_sb, List.take_of_length_le (by rw [bl_len]; omega), hS, List.drop_drop]
        congr 1
      have hz1' : (S.extract 8 S.size).size < S.size := by rw [← bl_len, he1, List.length_drop, HLL.out]; omega
      have hs : C.take (k + 1) = C.take k ++ [sb ((l.drop (8 * k)).take 8)] := by rw [List.take_add_one, HCG.out k h]; rfl
      obtain ⟨Y, hY⟩ : ∃ Y, sb ((l.drop (8 * k)).take 8) = Y := ⟨_, rfl⟩
      have hy8 : Y.size ≤ 140737488351232 := by rw [← hY, sb_size, List.length_take]; omega
      obtain ⟨X, hX⟩ : ∃ X, S.extract 8 S.size = X := ⟨_, rfl⟩
      rw [hX] at he1 hz1'
      rw [hY] at hs he0
      have hlo : (C.take k).length ≤ 64 := by rw [List.length_take, HCL.out]; omega
      obtain ⟨T, hT⟩ : ∃ T, C.take k = T := ⟨_, rfl⟩
      rw [hT] at hs hlo own
      have HT := Lib.hid hs
      have HE := Lib.hid he1
      have HY := Lib.hid hy8
      clear hs hT hY he1 hSz hS hy8
      obtain ⟨Ao, co, rfl, _, _, _, _⟩ := Kd.own_row own
      have al := bl_alloc (Below.refl wr.heap.size wr) (.cells #[.string Y] 9)
      have ownA := Kd.own_below own al
      have belA := bl_trans bel al
      have row1 : Kd.str.Row 9 w.heap.size (wr.alloc (.cells #[.string Y] 9)) (some ⟨wr.heap.size, 0, none⟩) [Y] := Kd.row_fresh1 (show Kd.str.K _ _ _ [_] from ⟨rfl, HY.out⟩)
      go_wp2_with ((at_builtin; refine wpList_append_row _ rfl (.tmp 9) (.tmp 12) 22 rfl Kd.str w.heap.size w.heap.size 9 i0 _ 16 Tryz.underlying22 hi hz0 hz1 hz2 rfl (by decide) _ T rfl ownA _ _ _ [Y] rfl rfl row1 (by simp only [List.length_cons, List.length_nil]; omega) (by decide) belA.size (Nat.le_refl _) (by decide) ?_; intro v4 w4 own4 grw4 at4; have bel4 := Kd.own_step belA ownA grw4))
      go_roundw
      case rel => exact ⟨k + 1, X, by omega, rfl, HE.out, (by rw [HT.out]; exact own4), bel4⟩
      case measure => simpa using hz1'
    · have hk' : k = m := by omega
      subst hk'
      have hlt : ¬ ((S.size : Int) ≥ 8) := by omega
      rw [List.take_of_length_le (by rw [HCL.out]; omega)] at own
      clear hSz
      go_wp2_with fail
      go_ret
      exact ⟨⟨_, rfl, own⟩, bel⟩
end Go.Proofs.YtcbfpdenjdgnlaaGreat
