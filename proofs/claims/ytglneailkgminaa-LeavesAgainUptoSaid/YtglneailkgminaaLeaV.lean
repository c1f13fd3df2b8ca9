/- Package mootlaw33: the walk of LeavesAgain. No claim of its own; no condition. -/
import Derived.Test.YtglneailkgminaaLeaT
import Derived.Test.YtglneailkgminaaLeaL
import Derived.Test.YtglneailkgminaaLeaP
namespace Go.Proofs.Ytglneailkgminaa
open Go.ChangeShapes Go.WideShapes Go.ChangeAt Go.RowKit
set_option linter.unusedVariables false
set_option linter.unusedSimpArgs false
theorem vinfo_kVote : (Try.prog.info? 28).map (fun i => (i.zero, i.size, i.bytes)) = some (some (.agg #[.int .i64 0, .int .i64 0, .int .i64 0, .string ⟨#[]⟩, .int .i64 0, .int .i64 0, .string ⟨#[]⟩]), 7, 72) := by kernel_rfl
theorem vflat_kVote : kVote.Flat := Kd.flat_iso (Kd.flat_pair Kd.flat_int (Kd.flat_pair Kd.flat_int (Kd.flat_pair Kd.flat_int (Kd.flat_pair Kd.flat_str (Kd.flat_pair Kd.flat_int (Kd.flat_pair Kd.flat_int Kd.flat_str))))))
theorem rowc_take {α : Type} {d : Kd α} {e : TypeId} {B : Nat} {w : World} {A : Option Addr} {xs : List α} (n : Nat) (h : d.Row e B w A xs) : d.Row e B w A (xs.take n) := by
  intro hne
  obtain ⟨ad, rfl, hb, hx⟩ := h (by intro e; rw [e] at hne; simp at hne)
  refine ⟨ad, rfl, hb, fun i x hi => hx i x ?_⟩
  rw [List.getElem?_take] at hi
  split at hi
  · exact hi
  · cases hi
theorem drop_rev {α : Type} (l : List α) (j : Nat) (x : α) (h : l[j]? = some x) : (l.drop j).reverse = (l.drop (j + 1)).reverse ++ [x] := by
  have hj : j < l.length := (List.getElem?_eq_some_iff.1 h).1
  rw [List.drop_eq_getElem_cons hj, List.reverse_cons]
  rw [List.getElem?_eq_getElem hj] at h
  cases h
  rfl
set_option maxHeartbeats 16000000 in
set_option maxRecDepth 100000 in
theorem leavesagain_walk (l : List Vote) (roots : List ByteArray) (A Ar : Option Addr) (c cr B0 : Nat) (w : World) (hB0 : B0 ≤ w.heap.size) (hl : l.length ≤ 1048576) (hcl : l.length ≤ c) (hlr : roots.length ≤ 1048576)
    (hr : kVote.Row 28 B0 w A l) (hrr : Kd.str.Row 9 B0 w Ar roots) :
    Calls Try.prog 9 #[.slice A l.length c, .slice Ar roots.length cr] w fun e w' => e = .returned (.bool true) ∧ Below w.heap.size w w' := by
  obtain ⟨i0, hi, hz0, hz1, hz2⟩ := info_parts vinfo_kVote
  by_cases h15 : l.length > 15
  case pos =>
    have hc15 : 15 ≤ c := by omega
    have hd15 : decide (15 < (l.length : Int)) = true := by rw [decide_eq_true_eq]; omega
    obtain ⟨l', hl'⟩ : ∃ l', l' = l.take 15 := ⟨_, rfl⟩
    have hrl' : kVote.Row 28 B0 w A l' := hl' ▸ rowc_take 15 hr
    have hnl : 15 = l'.length := by rw [hl', List.length_take]; omega
    have hlen15 : l'.length ≤ 15 := by omega
    have HNL := Lib.hid hnl
    clear hl' hnl hr
    go_enter Try.func9, Try.ntmps9
    go_upto_region 3 with (go_at_call 34; refine (alive33_calls _).mono ?_; rintro x w1 ⟨rfl, b1⟩)
    go_upto_region 6 with fail
    have hl1 := Kd.row_below b1 hrl'
    go_wp2_with fail
    go_loopw [5, 7] (fun bv iv w' => ∃ (j : Nat) (i : Int), j ≤ l'.length ∧ i + 1 = (j : Int) ∧ iv = .int .i64 i ∧ kVote.Own 28 w.heap.size w' w.heap.size bv (l'.drop j).reverse ∧ Below w.heap.size w w') (fun _ iv _ => (intOf iv + 1).toNat)
    case atStart => exact ⟨l'.length, 15 - 1, Nat.le_refl _, by have := HNL.out; omega, rfl, by rw [List.drop_length]; exact Kd.own_nil _ _ _ _ _, b1⟩
    case round =>
      obtain ⟨j1, i, hj1, hi1, rfl, own, bel⟩ := hrel
      rename World => wr
      by_cases hi0 : i < 0
      case neg =>
        obtain ⟨j, hj⟩ : ∃ j : Nat, i = (j : Int) := ⟨i.toNat, by omega⟩
        subst hj
        obtain rfl : j1 = j + 1 := by omega
        have hjl : j < l'.length := by omega
        obtain ⟨x, hx⟩ : ∃ x, l'[j]? = some x := ⟨_, List.getElem?_eq_getElem hjl⟩
        have hdr := drop_rev l' j x hx
        obtain ⟨ad, rfl, e0, e1, e2, e3, e4, e5, e6, g0, g1, g2, g3, g4, g5, g6⟩ := kVote_at (Kd.row_below bel hrl') hx
        have hkI : (j : Int) < 15 := by have := HNL.out; omega
        have hk0 : (0 : Int) ≤ (j : Int) := by omega
        have HDR := Lib.hid hdr
        have bt := bl_alloc (Below.refl wr.heap.size wr) (.cells #[.int .i64 x.kind, .int .i64 x.view, .int .i64 x.height, .string x.block, .int .i64 x.ticks, .int .i64 x.signer, .string x.sig] 28)
        have own4 := Kd.own_below own bt
        have bel4 := bl_trans bel bt
        have hlb : (l'.drop (j + 1)).reverse.length ≤ 15 := by simp; omega
        clear hx hdr own hi0 hi1
        go_wp2_with (at_builtin; refine wpList_append_row _ rfl (.tmp 26) (.tmp 31) 22 rfl kVote w.heap.size w.heap.size 28 i0 _ 72 Try.underlying22 hi hz0 hz1 hz2 rfl (by decide) _ _ rfl own4 _ _ _ [x] rfl rfl (Kd.row_fresh1 (kVote_mk x g0 g1 g2 g3 g4 g5 g6)) (by simp only [List.length_singleton]; omega) (by decide) bel4.size (Nat.le_refl _) (by decide) ?_; intro v' w' own' grw at'; rw [← HDR.out] at own')
        go_roundw
        case rel => exact ⟨j, (j : Int) - 1, by omega, by omega, by go_num, own', Kd.own_step bel4 own4 grw⟩
        case measure => simp [intOf]
      case pos =>
        obtain rfl : j1 = 0 := by omega
        obtain rfl : i = -1 := by omega
        rw [List.drop_zero] at own
        obtain ⟨A5, c5, rfl, o1, o2, rowb, _⟩ := Kd.own_row own
        obtain ⟨nb, hnb⟩ : ∃ nb, l'.reverse.length = nb := ⟨_, rfl⟩
        have hnbl : nb = l'.length := by rw [← hnb, List.length_reverse]
        rw [hnb]
        have rl := Kd.row_flat vflat_kVote (Kd.row_below bel hrl') (Nat.le_refl _)
        have HRL := Lib.hid (Kd.row_below bel hrl')
        have HRB := Lib.hid rowb
        have HRF := Lib.hid rl
        have HRFB := Lib.hid (Kd.row_flat vflat_kVote rowb (Nat.le_refl wr.heap.size))
        have HNB := Lib.hid hnb
        have HNBL := Lib.hid hnbl
        have hown0 : kVote.Own 28 wr.heap.size wr wr.heap.size (.slice none 0 0) [] := Kd.own_nil _ _ _ _ _
        have HO0 := Lib.hid hown0
        have HRR0 := Lib.hid (Kd.row_below bel hrr)
        clear own hnb hnbl o1 o2 hi0 hi1 hj1 rl rowb hown0
        go_upto_region 11 with (first
          | (at_builtin; refine wpList_append_row _ rfl (.tmp 33) (.tmp 34) 22 rfl kVote wr.heap.size wr.heap.size 28 i0 _ 72 Try.underlying22 hi hz0 hz1 hz2 rfl (by decide) _ [] rfl HO0.out _ _ _ l' rfl HNL.out HRF.out (by simp only [List.length_nil]; omega) (by decide) (Nat.le_refl _) (Nat.le_refl _) (by decide) ?_; intro v6 w6 own6 grw6 at6; rw [List.nil_append] at own6; have b6 : Below wr.heap.size wr w6 := Kd.own_step (Below.refl _ _) HO0.out grw6; have HO6 := Lib.hid own6; clear own6 grw6 at6)
          | (at_builtin; refine wpList_append_row _ rfl (.tmp 35) (.tmp 36) 22 rfl kVote wr.heap.size wr.heap.size 28 i0 _ 72 Try.underlying22 hi hz0 hz1 hz2 rfl (by decide) _ _ rfl HO6.out _ _ _ l'.reverse rfl HNB.out.symm (Kd.row_below b6 HRFB.out) (by simp only [List.length_reverse]; omega) (by decide) b6.size (Nat.le_refl _) (by decide) ?_; intro v7 w7 own7 grw7 at7; have b7 : Below wr.heap.size wr w7 := Kd.own_step b6 HO6.out grw7; have HO7 := Lib.hid own7; clear own7 grw7 at7))
        obtain ⟨A7, c7, rfl, o1, o2, row7, _⟩ := Kd.own_row HO7.out
        obtain ⟨n7, hn7⟩ : ∃ n7, (l' ++ l'.reverse).length = n7 := ⟨_, rfl⟩
        have hl7 : (l' ++ l'.reverse).length ≤ 30 := by simp; omega
        rw [hn7]
        have HN7 := Lib.hid hn7
        have HR7 := Lib.hid row7
        have hA1 := fun W (b : Below wr.heap.size wr W) => all_calls l' roots A Ar 15 roots.length c cr W W.heap.size HNL.out rfl (by omega) hlr (Kd.row_flat vflat_kVote (Kd.row_below b HRL.out) (Nat.le_refl _)) (Kd.row_flat Kd.flat_str (Kd.row_below b HRR0.out) (Nat.le_refl _))
        have hA2 := fun W (b : Below wr.heap.size wr W) => all_calls l'.reverse roots A5 Ar nb roots.length c5 cr W W.heap.size HNB.out.symm rfl (by simp; omega) hlr (Kd.row_flat vflat_kVote (Kd.row_below b HRB.out) (Nat.le_refl _)) (Kd.row_flat Kd.flat_str (Kd.row_below b HRR0.out) (Nat.le_refl _))
        have hA3 := fun W (b : Below w7.heap.size w7 W) => all_calls (l' ++ l'.reverse) roots A7 Ar n7 roots.length c7 cr W W.heap.size HN7.out.symm rfl (by omega) hlr (Kd.row_flat vflat_kVote (Kd.row_below b HR7.out) (Nat.le_refl _)) (Kd.row_flat Kd.flat_str (Kd.row_below (bl_trans b7 b) HRR0.out) (Nat.le_refl _))
        have HA1 := Lib.hid hA1
        have HA2 := Lib.hid hA2
        have HA3 := Lib.hid hA3
        have bel7 := bl_trans bel b7
        clear hA1 hA2 hA3 hn7 o1 o2 row7 HRL HRF HRFB
        go_upto_region 12 with (first
          | (go_at_call_of 35 (Value.slice A 15 c); refine (HA1.out _ b7).mono ?_; rintro x w8 ⟨⟨v8, M8, rfl, own8, p8, s8⟩, b8⟩; have HP8 := Lib.hid p8; have HS8 := Lib.hid s8; have HO8 := Lib.hid own8; clear p8 s8 own8)
          | (go_at_call_of 35 (Value.slice A5 nb c5); refine (HA2.out _ (bl_trans b7 b8)).mono ?_; rintro x w9 ⟨⟨v9, M9, rfl, own9, p9, s9⟩, b9⟩; have HP9 := Lib.hid p9; have HS9 := Lib.hid s9; have HO9 := Lib.hid own9; clear p9 s9 own9)
          | (go_at_call_of 35 (Value.slice A7 n7 c7); refine (HA3.out _ (bl_trans b8 b9)).mono ?_; rintro x w10 ⟨⟨v10, M10, rfl, own10, p10, s10⟩, b10⟩; have HP10 := Lib.hid p10; have HS10 := Lib.hid s10; have HO10 := Lib.hid own10; clear p10 s10 own10))
        have e9 : compF M9 = compF M8 := all_same (fun v => by simp) HP9.out HS9.out HP8.out HS8.out
        have e10 : compF M10 = compF M8 := all_same (fun v => by simp) HP10.out HS10.out HP8.out HS8.out
        have hLl := all_len HP8.out
        obtain ⟨A8, c8, rfl, _, _, row8, _⟩ := Kd.own_row HO8.out
        obtain ⟨A9, c9, rfl, _, _, row9, _⟩ := Kd.own_row HO9.out
        obtain ⟨A10, c10, rfl, _, _, row10, _⟩ := Kd.own_row HO10.out
        rw [e9] at row9
        rw [e10] at row10
        simp only [e9, e10]
        obtain ⟨L, hL⟩ : ∃ L, compF M8 = L := ⟨_, rfl⟩
        rw [hL] at row8 row9 row10 hLl
        simp only [hL]
        have bel10 := bl_trans bel7 (bl_trans b8 (bl_trans b9 b10))
        have r8 := Kd.row_below (bl_trans b9 b10) row8
        have r9 := Kd.row_below b10 row9
        have HR8 := Lib.hid r8
        have HR9 := Lib.hid r9
        have HR10 := Lib.hid row10
        have hT1 := fun W (b : Below w10.heap.size w10 W) => twice_calls L A8 L.length c8 W _ rfl (by omega) (Kd.row_below b HR8.out)
        have hT2 := fun W (b : Below w10.heap.size w10 W) => twice_calls L A10 L.length c10 W _ rfl (by omega) (Kd.row_below b HR10.out)
        have HT1 := Lib.hid hT1
        have HT2 := Lib.hid hT2
        clear hT1 hT2 e9 e10 hL row8 row9 row10 r8 r9 HP8 HP9 HP10 HS8 HS9 HS10 HO8 HO9 HO10 HA1 HA2 HA3
        go_upto_region 14 with (first
          | (go_at_call_of 36 (Value.slice A8 L.length c8); refine (HT1.out _ (Below.refl _ _)).mono ?_; rintro x w11 ⟨⟨v11, bs11, rfl, own11⟩, b11⟩; obtain ⟨A11, c11, rfl, _, _, _, _⟩ := Kd.own_row own11; clear own11)
          | (go_at_call_of 36 (Value.slice A10 L.length c10); refine (HT2.out _ b11).mono ?_; rintro x w12 ⟨⟨v12, bs12, rfl, own12⟩, b12⟩; obtain ⟨A12, c12, rfl, _, _, _, _⟩ := Kd.own_row own12; clear own12))
        have bel12 := bl_trans bel10 (bl_trans b11 b12)
        have r8 := Kd.row_below (bl_trans b11 b12) HR8.out
        have r9 := Kd.row_below (bl_trans b11 b12) HR9.out
        have r10 := Kd.row_below (bl_trans b11 b12) HR10.out
        have HR8' := Lib.hid r8
        have HR9' := Lib.hid r9
        have HR10' := Lib.hid r10
        clear r8 r9 r10 HR8 HR9 HR10 HT1 HT2 bel7 bel10 b7 b8 b9 b10 b11 HRB HRR0 HNB HNBL HN7 HR7 HO7 HO6
        go_wp2_with fail
        go_loopw [11] (fun iv w' => ∃ k : Nat, k ≤ L.length ∧ iv = .int .i64 k ∧ Below w.heap.size w w' ∧ Below w12.heap.size w12 w') (fun iv _ => L.length - (intOf iv).toNat)
        case atStart => exact ⟨0, by omega, rfl, bel12, Below.refl _ _⟩
        case round =>
          obtain ⟨k, hk1, rfl, bel', bk⟩ := hrel
          rename World => wq
          by_cases hk : k < L.length
          case neg =>
            have hkI : ¬ ((k : Int) < (L.length : Int)) := by omega
            go_wp2_with fail
            go_ret
            exact ⟨rfl, bel'⟩
          case pos =>
            obtain ⟨u, hu⟩ : ∃ u, L[k]? = some u := ⟨_, List.getElem?_eq_getElem hk⟩
            obtain ⟨a8, rfl, d0, d1, d2, _⟩ := kUse_at (Kd.row_below bk HR8'.out) hu
            obtain ⟨a9, rfl, f0, f1, f2, _⟩ := kUse_at (Kd.row_below bk HR9'.out) hu
            obtain ⟨a10, rfl, g0, g1, g2, _⟩ := kUse_at (Kd.row_below bk HR10'.out) hu
            have hkI : (k : Int) < (L.length : Int) := by omega
            have hk0 : (0 : Int) ≤ (k : Int) := by omega
            have hq : ∀ W, (binOp .neq 71 (.agg #[.int .i64 u.signer, .int .i64 u.leaf, .string u.text]) (.agg #[.int .i64 u.signer, .int .i64 u.leaf, .string u.text])).run Try.prog W = .ok (.bool false) W := fun W => by rw [neqUse, decide_eq_true rfl]; rfl
            clear hu
            go_upto_region 17 with fail
            go_quiet (fail)
            go_wp2_with fail
            go_roundw
            case rel => exact ⟨k + 1, by omega, by go_num, bl_drewN bel' _, bl_drewN bk _⟩
            case measure => simp [intOf]; omega
  case neg =>
    have hrl' := hr
    have hlen15 : l.length ≤ 15 := by omega
    go_enter Try.func9, Try.ntmps9
    go_upto_region 3 with (go_at_call 34; refine (alive33_calls _).mono ?_; rintro x w1 ⟨rfl, b1⟩)
    go_upto_region 6 with fail
    have hl1 := Kd.row_below b1 hrl'
    go_wp2_with fail
    go_loopw [5, 7] (fun bv iv w' => ∃ (j : Nat) (i : Int), j ≤ l.length ∧ i + 1 = (j : Int) ∧ iv = .int .i64 i ∧ kVote.Own 28 w.heap.size w' w.heap.size bv (l.drop j).reverse ∧ Below w.heap.size w w') (fun _ iv _ => (intOf iv + 1).toNat)
    case atStart => exact ⟨l.length, (l.length : Int) - 1, Nat.le_refl _, by omega, rfl, by rw [List.drop_length]; exact Kd.own_nil _ _ _ _ _, b1⟩
    case round =>
      obtain ⟨j1, i, hj1, hi1, rfl, own, bel⟩ := hrel
      rename World => wr
      by_cases hi0 : i < 0
      case neg =>
        obtain ⟨j, hj⟩ : ∃ j : Nat, i = (j : Int) := ⟨i.toNat, by omega⟩
        subst hj
        obtain rfl : j1 = j + 1 := by omega
        have hjl : j < l.length := by omega
        obtain ⟨x, hx⟩ : ∃ x, l[j]? = some x := ⟨_, List.getElem?_eq_getElem hjl⟩
        have hdr := drop_rev l j x hx
        obtain ⟨ad, rfl, e0, e1, e2, e3, e4, e5, e6, g0, g1, g2, g3, g4, g5, g6⟩ := kVote_at (Kd.row_below bel hrl') hx
        have hkI : (j : Int) < (l.length : Int) := by omega
        have hk0 : (0 : Int) ≤ (j : Int) := by omega
        have HDR := Lib.hid hdr
        have bt := bl_alloc (Below.refl wr.heap.size wr) (.cells #[.int .i64 x.kind, .int .i64 x.view, .int .i64 x.height, .string x.block, .int .i64 x.ticks, .int .i64 x.signer, .string x.sig] 28)
        have own4 := Kd.own_below own bt
        have bel4 := bl_trans bel bt
        have hlb : (l.drop (j + 1)).reverse.length ≤ 15 := by simp; omega
        clear hx hdr own hi0 hi1
        go_wp2_with (at_builtin; refine wpList_append_row _ rfl (.tmp 26) (.tmp 31) 22 rfl kVote w.heap.size w.heap.size 28 i0 _ 72 Try.underlying22 hi hz0 hz1 hz2 rfl (by decide) _ _ rfl own4 _ _ _ [x] rfl rfl (Kd.row_fresh1 (kVote_mk x g0 g1 g2 g3 g4 g5 g6)) (by simp only [List.length_singleton]; omega) (by decide) bel4.size (Nat.le_refl _) (by decide) ?_; intro v' w' own' grw at'; rw [← HDR.out] at own')
        go_roundw
        case rel => exact ⟨j, (j : Int) - 1, by omega, by omega, by go_num, own', Kd.own_step bel4 own4 grw⟩
        case measure => simp [intOf]
      case pos =>
        obtain rfl : j1 = 0 := by omega
        obtain rfl : i = -1 := by omega
        rw [List.drop_zero] at own
        obtain ⟨A5, c5, rfl, o1, o2, rowb, _⟩ := Kd.own_row own
        obtain ⟨nb, hnb⟩ : ∃ nb, l.reverse.length = nb := ⟨_, rfl⟩
        have hnbl : nb = l.length := by rw [← hnb, List.length_reverse]
        rw [hnb]
        have rl := Kd.row_flat vflat_kVote (Kd.row_below bel hrl') (Nat.le_refl _)
        have HRL := Lib.hid (Kd.row_below bel hrl')
        have HRB := Lib.hid rowb
        have HRF := Lib.hid rl
        have HRFB := Lib.hid (Kd.row_flat vflat_kVote rowb (Nat.le_refl wr.heap.size))
        have HNB := Lib.hid hnb
        have HNBL := Lib.hid hnbl
        have hown0 : kVote.Own 28 wr.heap.size wr wr.heap.size (.slice none 0 0) [] := Kd.own_nil _ _ _ _ _
        have HO0 := Lib.hid hown0
        have HRR0 := Lib.hid (Kd.row_below bel hrr)
        clear own hnb hnbl o1 o2 hi0 hi1 hj1 rl rowb hown0
        go_upto_region 11 with (first
          | (at_builtin; refine wpList_append_row _ rfl (.tmp 33) (.tmp 34) 22 rfl kVote wr.heap.size wr.heap.size 28 i0 _ 72 Try.underlying22 hi hz0 hz1 hz2 rfl (by decide) _ [] rfl HO0.out _ _ _ l rfl rfl HRF.out (by simp only [List.length_nil]; omega) (by decide) (Nat.le_refl _) (Nat.le_refl _) (by decide) ?_; intro v6 w6 own6 grw6 at6; rw [List.nil_append] at own6; have b6 : Below wr.heap.size wr w6 := Kd.own_step (Below.refl _ _) HO0.out grw6; have HO6 := Lib.hid own6; clear own6 grw6 at6)
          | (at_builtin; refine wpList_append_row _ rfl (.tmp 35) (.tmp 36) 22 rfl kVote wr.heap.size wr.heap.size 28 i0 _ 72 Try.underlying22 hi hz0 hz1 hz2 rfl (by decide) _ _ rfl HO6.out _ _ _ l.reverse rfl HNB.out.symm (Kd.row_below b6 HRFB.out) (by simp only [List.length_reverse]; omega) (by decide) b6.size (Nat.le_refl _) (by decide) ?_; intro v7 w7 own7 grw7 at7; have b7 : Below wr.heap.size wr w7 := Kd.own_step b6 HO6.out grw7; have HO7 := Lib.hid own7; clear own7 grw7 at7))
        obtain ⟨A7, c7, rfl, o1, o2, row7, _⟩ := Kd.own_row HO7.out
        obtain ⟨n7, hn7⟩ : ∃ n7, (l ++ l.reverse).length = n7 := ⟨_, rfl⟩
        have hl7 : (l ++ l.reverse).length ≤ 30 := by simp; omega
        rw [hn7]
        have HN7 := Lib.hid hn7
        have HR7 := Lib.hid row7
        have hA1 := fun W (b : Below wr.heap.size wr W) => all_calls l roots A Ar l.length roots.length c cr W W.heap.size rfl rfl (by omega) hlr (Kd.row_flat vflat_kVote (Kd.row_below b HRL.out) (Nat.le_refl _)) (Kd.row_flat Kd.flat_str (Kd.row_below b HRR0.out) (Nat.le_refl _))
        have hA2 := fun W (b : Below wr.heap.size wr W) => all_calls l.reverse roots A5 Ar nb roots.length c5 cr W W.heap.size HNB.out.symm rfl (by simp; omega) hlr (Kd.row_flat vflat_kVote (Kd.row_below b HRB.out) (Nat.le_refl _)) (Kd.row_flat Kd.flat_str (Kd.row_below b HRR0.out) (Nat.le_refl _))
        have hA3 := fun W (b : Below w7.heap.size w7 W) => all_calls (l ++ l.reverse) roots A7 Ar n7 roots.length c7 cr W W.heap.size HN7.out.symm rfl (by omega) hlr (Kd.row_flat vflat_kVote (Kd.row_below b HR7.out) (Nat.le_refl _)) (Kd.row_flat Kd.flat_str (Kd.row_below (bl_trans b7 b) HRR0.out) (Nat.le_refl _))
        have HA1 := Lib.hid hA1
        have HA2 := Lib.hid hA2
        have HA3 := Lib.hid hA3
        have bel7 := bl_trans bel b7
        clear hA1 hA2 hA3 hn7 o1 o2 row7 HRL HRF HRFB
        go_upto_region 12 with (first
          | (go_at_call_of 35 (Value.slice A l.length c); refine (HA1.out _ b7).mono ?_; rintro x w8 ⟨⟨v8, M8, rfl, own8, p8, s8⟩, b8⟩; have HP8 := Lib.hid p8; have HS8 := Lib.hid s8; have HO8 := Lib.hid own8; clear p8 s8 own8)
          | (go_at_call_of 35 (Value.slice A5 nb c5); refine (HA2.out _ (bl_trans b7 b8)).mono ?_; rintro x w9 ⟨⟨v9, M9, rfl, own9, p9, s9⟩, b9⟩; have HP9 := Lib.hid p9; have HS9 := Lib.hid s9; have HO9 := Lib.hid own9; clear p9 s9 own9)
          | (go_at_call_of 35 (Value.slice A7 n7 c7); refine (HA3.out _ (bl_trans b8 b9)).mono ?_; rintro x w10 ⟨⟨v10, M10, rfl, own10, p10, s10⟩, b10⟩; have HP10 := Lib.hid p10; have HS10 := Lib.hid s10; have HO10 := Lib.hid own10; clear p10 s10 own10))
        have e9 : compF M9 = compF M8 := all_same (fun v => by simp) HP9.out HS9.out HP8.out HS8.out
        have e10 : compF M10 = compF M8 := all_same (fun v => by simp) HP10.out HS10.out HP8.out HS8.out
        have hLl := all_len HP8.out
        obtain ⟨A8, c8, rfl, _, _, row8, _⟩ := Kd.own_row HO8.out
        obtain ⟨A9, c9, rfl, _, _, row9, _⟩ := Kd.own_row HO9.out
        obtain ⟨A10, c10, rfl, _, _, row10, _⟩ := Kd.own_row HO10.out
        rw [e9] at row9
        rw [e10] at row10
        simp only [e9, e10]
        obtain ⟨L, hL⟩ : ∃ L, compF M8 = L := ⟨_, rfl⟩
        rw [hL] at row8 row9 row10 hLl
        simp only [hL]
        have bel10 := bl_trans bel7 (bl_trans b8 (bl_trans b9 b10))
        have r8 := Kd.row_below (bl_trans b9 b10) row8
        have r9 := Kd.row_below b10 row9
        have HR8 := Lib.hid r8
        have HR9 := Lib.hid r9
        have HR10 := Lib.hid row10
        have hT1 := fun W (b : Below w10.heap.size w10 W) => twice_calls L A8 L.length c8 W _ rfl (by omega) (Kd.row_below b HR8.out)
        have hT2 := fun W (b : Below w10.heap.size w10 W) => twice_calls L A10 L.length c10 W _ rfl (by omega) (Kd.row_below b HR10.out)
        have HT1 := Lib.hid hT1
        have HT2 := Lib.hid hT2
        clear hT1 hT2 e9 e10 hL row8 row9 row10 r8 r9 HP8 HP9 HP10 HS8 HS9 HS10 HO8 HO9 HO10 HA1 HA2 HA3
        go_upto_region 14 with (first
          | (go_at_call_of 36 (Value.slice A8 L.length c8); refine (HT1.out _ (Below.refl _ _)).mono ?_; rintro x w11 ⟨⟨v11, bs11, rfl, own11⟩, b11⟩; obtain ⟨A11, c11, rfl, _, _, _, _⟩ := Kd.own_row own11; clear own11)
          | (go_at_call_of 36 (Value.slice A10 L.length c10); refine (HT2.out _ b11).mono ?_; rintro x w12 ⟨⟨v12, bs12, rfl, own12⟩, b12⟩; obtain ⟨A12, c12, rfl, _, _, _, _⟩ := Kd.own_row own12; clear own12))
        have bel12 := bl_trans bel10 (bl_trans b11 b12)
        have r8 := Kd.row_below (bl_trans b11 b12) HR8.out
        have r9 := Kd.row_below (bl_trans b11 b12) HR9.out
        have r10 := Kd.row_below (bl_trans b11 b12) HR10.out
        have HR8' := Lib.hid r8
        have HR9' := Lib.hid r9
        have HR10' := Lib.hid r10
        clear r8 r9 r10 HR8 HR9 HR10 HT1 HT2 bel7 bel10 b7 b8 b9 b10 b11 HRB HRR0 HNB HNBL HN7 HR7 HO7 HO6
        go_wp2_with fail
        go_loopw [11] (fun iv w' => ∃ k : Nat, k ≤ L.length ∧ iv = .int .i64 k ∧ Below w.heap.size w w' ∧ Below w12.heap.size w12 w') (fun iv _ => L.length - (intOf iv).toNat)
        case atStart => exact ⟨0, by omega, rfl, bel12, Below.refl _ _⟩
        case round =>
          obtain ⟨k, hk1, rfl, bel', bk⟩ := hrel
          rename World => wq
          by_cases hk : k < L.length
          case neg =>
            have hkI : ¬ ((k : Int) < (L.length : Int)) := by omega
            go_wp2_with fail
            go_ret
            exact ⟨rfl, bel'⟩
          case pos =>
            obtain ⟨u, hu⟩ : ∃ u, L[k]? = some u := ⟨_, List.getElem?_eq_getElem hk⟩
            obtain ⟨a8, rfl, d0, d1, d2, _⟩ := kUse_at (Kd.row_below bk HR8'.out) hu
            obtain ⟨a9, rfl, f0, f1, f2, _⟩ := kUse_at (Kd.row_below bk HR9'.out) hu
            obtain ⟨a10, rfl, g0, g1, g2, _⟩ := kUse_at (Kd.row_below bk HR10'.out) hu
            have hkI : (k : Int) < (L.length : Int) := by omega
            have hk0 : (0 : Int) ≤ (k : Int) := by omega
            have hq : ∀ W, (binOp .neq 71 (.agg #[.int .i64 u.signer, .int .i64 u.leaf, .string u.text]) (.agg #[.int .i64 u.signer, .int .i64 u.leaf, .string u.text])).run Try.prog W = .ok (.bool false) W := fun W => by rw [neqUse, decide_eq_true rfl]; rfl
            clear hu
            go_upto_region 17 with fail
            go_quiet (fail)
            go_wp2_with fail
            go_roundw
            case rel => exact ⟨k + 1, by omega, by go_num, bl_drewN bel' _, bl_drewN bk _⟩
            case measure => simp [intOf]; omega
end Go.Proofs.Ytglneailkgminaa
