/- Package wots: digits, Parts. No claim of its own; no condition. -/
import Derived.Test.YtcbfpdenjdgnlaaGreatQt10
namespace Go.Proofs.YtcbfpdenjdgnlaaGreat
open Go.ChangeShapes Go.WideShapes Go.ChangeAt Go.RowKit
set_option linter.unusedVariables false
set_option linter.unusedSimpArgs false
/-- Whole numbers as cells. -/
def ics (l : List Int) : Array Value := (l.map (Value.int .i64)).toArray
theorem ics_reps {B : Nat} {w : World} : ∀ l : List Int, (∀ x ∈ l, IntOk x) → Kd.Reps Kd.int B w l (ics l).toList
  | [], _ => .nil
  | x :: l, h => .cons (show Kd.int.K _ _ _ [_] from ⟨rfl, h x (by simp)⟩) (ics_reps l fun y hy => h y (by simp [hy]))
theorem ics_set (l : List Int) (i : Nat) (u : Int) : (ics l).setIfInBounds i (.int .i64 u) = ics (l.set i u) := by
  unfold ics
  rw [List.setIfInBounds_toArray, List.map_set]
theorem ics_get {l : List Int} {i : Nat} {x : Int} (h : l[i]? = some x) : (ics l)[i]? = some (.int .i64 x) := by
  unfold ics
  rw [List.getElem?_toArray, List.getElem?_map, h]
  rfl
theorem ics_made (n : Nat) : madeCells #[Value.int .i64 0] n = ics (List.replicate n 0) := by
  apply Array.ext'
  apply List.ext_getElem
  · simp [madeCells, ics]
  · intro i h1 h2
    simp [madeCells, ics, Nat.mod_one]
theorem info_i64 : (Tryz.prog.info? 3).map (fun i => (i.zero, i.size, i.bytes)) = some (some (.int .i64 0), 1, 8) := by kernel_rfl
theorem and3 (m : Nat) (h : m < 9223372036854775808) : bits .and .i64 (m : Int) 3 = ((m % 4 : Nat) : Int) := by
  have hx : m &&& 3 = m % 4 := Nat.and_two_pow_sub_one_eq_mod m 2
  have ho : ∀ a : Nat, a < 9223372036854775808 → (BitVec.ofInt 64 (a : Int)).toNat = a := fun a ha => by
    rw [BitVec.ofInt_natCast, BitVec.toNat_ofNat]; exact Nat.mod_eq_of_lt (by omega)
  show IntKind.i64.wrap ((BitVec.ofInt 64 (m : Int) &&& BitVec.ofInt 64 ((3 : Nat) : Int)).toNat : Int) = _
  rw [BitVec.toNat_and, ho m h, ho 3 (by omega), hx, IntKind.wrap_i64]
  omega
/-- A number's digits of two bits. -/
def digF (n c : Nat) : List Int := (List.range c).map fun i => ((n / 4 ^ (c - 1 - i) % 4 : Nat) : Int)
theorem digF_len (n c : Nat) : (digF n c).length = c := by simp [digF]
theorem digF_bd (n c : Nat) : ∀ x ∈ digF n c, 0 ≤ x ∧ x ≤ 3 := by
  intro x hx
  obtain ⟨i, _, rfl⟩ := List.mem_map.1 hx
  omega
theorem digF_get (n c i : Nat) (h : i < c) : (digF n c)[i]? = some ((n / 4 ^ (c - 1 - i) % 4 : Nat) : Int) := by
  unfold digF
  rw [List.getElem?_map, List.getElem?_range h]
  rfl
theorem set_next (l : List Int) (c k : Nat) (hl : l.length = c) (h : k < c) (x : Int) (hx : l[k]? = some x) : (l.take k ++ List.replicate (c - k) 0).set k x = l.take (k + 1) ++ List.replicate (c - (k + 1)) 0 := by
  rw [List.set_append_right _ _ (by simp; omega), List.length_take, Nat.min_eq_left (by omega), Nat.sub_self]
  rw [show c - k = (c - (k + 1)) + 1 by omega, List.replicate_succ, List.set_cons_zero]
  rw [List.take_add_one, hx]
  simp
set_option maxHeartbeats 3200000 in
set_option maxRecDepth 100000 in
theorem digits_calls (n c : Nat) (w : World) (hn : n ≤ 65536) (hc : c ≤ 8) :
    Calls Tryz.prog 279 #[.int .i64 (n : Int), .int .i64 (c : Int)] w fun e w' => (∃ v, e = .returned v ∧ Kd.int.Own 3 w.heap.size w' w.heap.size v (digF n c)) ∧ Below w.heap.size w w' := by
  obtain ⟨i0, hi, hz0, hz1, hz2⟩ := info_parts info_i64
  have hmk : ∀ w : World, (Instr.makeSlice 234 (.int .i64 (c : Int)) (.int .i64 (c : Int))).run Tryz.prog w = .ok (.slice (some ⟨w.heap.size, 0, none⟩) c c) (w.alloc (.cells (ics (List.replicate c 0)) 3)) := fun w => by
    have h := run_make (P := Tryz.prog) w 234 3 i0 _ Tryz.underlying234 hi hz0 .i64 .i64 (c : Int) (c : Int) (by omega) (by omega) (by rw [hz2]; omega) (by omega)
    simp only [Int.toNat_natCast, hz1, Nat.mul_one] at h
    rw [h, ← ics_made]
    rfl
  go_enter Tryz.func279, Tryz.ntmps279
  go_upto_region 2 with fail
  have g0 : (w.alloc (.cells (ics (List.replicate c 0)) 3)).heap[w.heap.size]? = some (.cells (ics ((digF n c).take 0 ++ List.replicate (c - 0) 0)) 3 (0, 0)) := alloc_new w _
  have b0 : Below w.heap.size w (w.alloc (.cells (ics (List.replicate c 0)) 3)) := bl_alloc (Below.refl _ _) _
  generalize w.alloc (.cells (ics (List.replicate c 0)) 3) = W0 at *
  obtain ⟨M, hM⟩ : ∃ M, w.heap.size = M := ⟨_, rfl⟩
  simp only [hM] at g0 b0 ⊢
  have HM := Lib.hid hM
  clear hmk hM
  go_wp2_with fail
  go_loopw [11] (fun kv w' => ∃ k : Nat, k ≤ c ∧ kv = .int .i64 k ∧ w'.heap[M]? = some (.cells (ics ((digF n c).take k ++ List.replicate (c - k) 0)) 3 (0, 0)) ∧ Below M w w') (fun kv _ => c - (intOf kv).toNat)
  case atStart => exact ⟨0, by omega, rfl, g0, b0⟩
  case round =>
    clear g0 b0
    obtain ⟨k, hk, rfl, g, bel⟩ := hrel
    by_cases h : k < c
    · have hkI : (k : Int) < (c : Int) := by omega
      have hk0 : (0 : Int) ≤ (k : Int) := by omega
      obtain ⟨j, hj⟩ : ∃ j, c - 1 - k = j := ⟨_, rfl⟩
      have hjc : j ≤ 7 := by omega
      have hjI : (c : Int) - 1 - (k : Int) = (j : Int) := by omega
      have hx := digF_get n c k h
      rw [hj] at hx
      have hd : (n : Int) / 2 ^ (2 * j) = ((n / 4 ^ j : Nat) : Int) := by rw [Int.pow_mul]; simp
      have hlt : n / 4 ^ j < 9223372036854775808 := Nat.lt_of_le_of_lt (Nat.div_le_self _ _) (by omega)
      have ha := and3 _ hlt
      rw [← hd] at ha
      have hsn := set_next (digF n c) c k (digF_len n c) h _ hx
      obtain ⟨x, hxx⟩ : ∃ x : Int, ((n / 4 ^ j % 4 : Nat) : Int) = x := ⟨_, rfl⟩
      rw [hxx] at ha hsn
      obtain ⟨L, hL⟩ : ∃ L, (digF n c).take k ++ List.replicate (c - k) 0 = L := ⟨_, rfl⟩
      have hLl : L.length = c := by rw [← hL]; simp [digF_len]; omega
      rw [hL] at g hsn
      obtain ⟨y, hLk⟩ : ∃ y, L[k]? = some y := ⟨_, List.getElem?_eq_getElem (by omega)⟩
      have ck := block_cell g (ics_get hLk)
      have fk : wr.frozen? ⟨M, k, none⟩ = false := block_free g
      have HSN := Lib.hid hsn
      clear hx hsn hL hxx hLk hj hd
      go_wp2_with fail
      go_roundw
      case rel =>
        refine ⟨k + 1, by omega, by go_num, ?_, bel.setCell (Nat.le_refl _) _⟩
        rw [← HSN.out, ← ics_set]
        exact block_set g
      case measure => simp [intOf]; omega
    · have hk' : k = c := by omega
      subst hk'
      have hnI : ¬ ((k : Int) < (k : Int)) := by omega
      go_wp2_with fail
      go_ret
      rw [Nat.sub_self, List.take_of_length_le (by rw [digF_len]; omega), List.replicate_zero, List.append_nil] at g
      have h1 : Kd.int.Own 3 M wr M (.slice (some ⟨M, 0, none⟩) k k) (digF n k) :=
        own_of_block g (ics_reps _ fun x hx => by have := digF_bd n k x hx; unfold IntOk; omega) (Nat.le_refl _) (digF_len n k).symm (by simp only [maxLen]; omega)
      rw [← HM.out] at h1 bel
      exact ⟨⟨_, rfl, by rw [HM.out] at h1 ⊢; exact h1⟩, bel⟩
end Go.Proofs.YtcbfpdenjdgnlaaGreat
/- Package wots: Parts. No claim of its own; no condition. -/
namespace Go.Proofs.YtcbfpdenjdgnlaaGreat
open Go.ChangeShapes Go.WideShapes Go.ChangeAt Go.RowKit
set_option linter.unusedVariables false
set_option linter.unusedSimpArgs false
def sumD (l : List Int) : Int := (l.map (3 - ·)).sum
theorem sumD_snoc (l : List Int) (x : Int) : sumD (l ++ [x]) = sumD l + (3 - x) := by simp [sumD]
theorem sumD_bd (l : List Int) (h : ∀ x ∈ l, 0 ≤ x ∧ x ≤ 3) : 0 ≤ sumD l ∧ sumD l ≤ 3 * l.length := by
  induction l with
  | nil => simp [sumD]
  | cons x l ih =>
    have h1 := ih fun y hy => h y (by simp [hy])
    have h2 := h x (by simp)
    have h3 : sumD (x :: l) = (3 - x) + sumD l := by simp [sumD]
    rw [h3, List.length_cons]
    omega
/-- The first two octets of a text's sum. -/
def partN (t : List UInt8) : Nat := ((shaB t).getD 0 0).toNat * 256 + ((shaB t).getD 1 0).toNat
def partsL (t : List UInt8) : List Int := digF (partN t) 8 ++ digF (sumD (digF (partN t) 8)).toNat 3
theorem partN_lt (t : List UInt8) : partN t < 65536 := by
  have h1 := ((shaB t).getD 0 0).toNat_lt
  have h2 := ((shaB t).getD 1 0).toNat_lt
  unfold partN
  omega
theorem or_w8' (u : UInt32) (d : UInt8) (hu : u.toNat < 16777216) : UInt32.ofNat (u.toNat * 256) ||| w8 d = UInt32.ofNat (u.toNat * 256 + d.toNat) := by
  have hd := d.toNat_lt
  apply UInt32.toNat_inj.1
  rw [UInt32.toNat_or]
  unfold w8
  rw [UInt32.toNat_ofNat', UInt32.toNat_ofNat', UInt32.toNat_ofNat', Nat.mod_eq_of_lt (by omega), Nat.mod_eq_of_lt (by omega), Nat.mod_eq_of_lt (by omega)]
  have h4 := Nat.two_pow_add_eq_or_of_lt (i := 8) (b := d.toNat) (by omega) u.toNat
  rw [show (2 : Nat) ^ 8 = 256 from rfl, Nat.mul_comm] at h4
  exact h4.symm
theorem beW_hi (b : List UInt8) : tn (beW b 0) / 65536 = (((b.getD 0 0).toNat * 256 + (b.getD 1 0).toNat : Nat) : Int) := by
  have g : ∀ i, (b.getD i 0).toNat < 256 := fun i => (b.getD i 0).toNat_lt
  have b0 := g 0
  have b1 := g 1
  have b2 := g 2
  have b3 := g 3
  have e1 : (beG b 0 1).toNat = (b.getD 0 0).toNat := by
    have : beG b 0 1 = UInt32.ofNat ((0 : UInt32).toNat * 256) ||| w8 (b.getD (0 + 0) 0) := rfl
    rw [this, or_w8' _ _ (by decide), UInt32.toNat_ofNat', Nat.mod_eq_of_lt (by rw [Nat.zero_add]; show 0 * 256 + _ < _; omega)]
    show 0 * 256 + (b.getD 0 0).toNat = _
    omega
  have e2 : (beG b 0 2).toNat = (b.getD 0 0).toNat * 256 + (b.getD 1 0).toNat := by
    have : beG b 0 2 = UInt32.ofNat ((beG b 0 1).toNat * 256) ||| w8 (b.getD (0 + 1) 0) := rfl
    rw [this, or_w8' _ _ (by omega), UInt32.toNat_ofNat', e1, Nat.zero_add, Nat.mod_eq_of_lt (by omega)]
  have e3 : (beG b 0 3).toNat = ((b.getD 0 0).toNat * 256 + (b.getD 1 0).toNat) * 256 + (b.getD 2 0).toNat := by
    have : beG b 0 3 = UInt32.ofNat ((beG b 0 2).toNat * 256) ||| w8 (b.getD (0 + 2) 0) := rfl
    rw [this, or_w8' _ _ (by omega), UInt32.toNat_ofNat', e2, Nat.zero_add, Nat.mod_eq_of_lt (by omega)]
  have e4 : (beW b 0).toNat = (((b.getD 0 0).toNat * 256 + (b.getD 1 0).toNat) * 256 + (b.getD 2 0).toNat) * 256 + (b.getD 3 0).toNat := by
    have : beW b 0 = UInt32.ofNat ((beG b 0 3).toNat * 256) ||| w8 (b.getD (0 + 3) 0) := rfl
    rw [this, or_w8' _ _ (by omega), UInt32.toNat_ofNat', e3, Nat.zero_add, Nat.mod_eq_of_lt (by omega)]
  unfold tn
  rw [e4]
  omega
theorem int_at {e : TypeId} {B : Nat} {w : World} {A : Option Addr} {xs : List Int} (h : Kd.int.Row e B w A xs) {i : Nat} {x : Int} (hx : xs[i]? = some x) : ∃ ad, A = some ad ∧ w.cell? (ad.add i) = some (.int .i64 x) ∧ IntOk x := by
  obtain ⟨ad, cs, h1, _, ⟨rfl, hI⟩, hc⟩ := Kd.row_at h hx
  refine ⟨ad, h1, ?_, hI⟩
  have := hc 0 _ rfl
  have e1 : Kd.int.sz = 1 := rfl
  rw [e1] at this
  simpa using this
set_option maxHeartbeats 3200000 in
set_option maxRecDepth 100000 in
theorem parts_calls (t : List UInt8) (A : Option Addr) (n c : Nat) (w : World) (B : Nat) (hn : n = t.length) (hl : t.length ≤ 1048576) (hc : t.length ≤ c) (hm : c ≤ maxLen) (hr : Kd.u8.Row 5 B w A t) :
    Calls Tryz.prog 263 #[.slice A n c] w fun e w' => (∃ v, e = .returned v ∧ Kd.int.Own 3 w.heap.size w' w.heap.size v (partsL t)) ∧ Below w.heap.size w w' := by
  subst hn
  obtain ⟨i0, hi, hz0, hz1, hz2⟩ := info_parts info_i64
  obtain ⟨pn, hpn⟩ : ∃ pn, partN t = pn := ⟨_, rfl⟩
  obtain ⟨D, hD⟩ : ∃ D, digF pn 8 = D := ⟨_, rfl⟩
  have hDl : D.length = 8 := by rw [← hD]; exact digF_len _ _
  have hDb : ∀ x ∈ D, 0 ≤ x ∧ x ≤ 3 := by rw [← hD]; exact digF_bd _ _
  have hp : partsL t = D ++ digF (sumD D).toNat 3 := by unfold partsL; rw [hpn, hD]
  have hpl : pn < 65536 := by rw [← hpn]; exact partN_lt t
  obtain ⟨S, hS⟩ : ∃ S, shaB t = S := ⟨_, rfl⟩
  have hSl : S.length = 32 := by rw [← hS]; exact shaB_len t
  have hw := beW_hi S
  have hpS : (S.getD 0 0).toNat * 256 + (S.getD 1 0).toNat = pn := by rw [← hpn, ← hS]; rfl
  rw [hpS] at hw
  have hsum := shasum_calls t A t.length c w B rfl hl hc hm hr
  rw [hS] at hsum
  have hdig : ∀ W : World, Calls Tryz.prog 279 #[.int .i64 (pn : Int), .int .i64 8] W fun e w' => (∃ v, e = .returned v ∧ Kd.int.Own 3 W.heap.size w' W.heap.size v D) ∧ Below W.heap.size W w' := fun W => by
    have := digits_calls pn 8 W (by omega) (by omega)
    rwa [hD] at this
  have hword : ∀ (W : World) (A2 : Option Addr) (c2 : Nat), Kd.u8.Row 5 w.heap.size W A2 S → Calls Tryz.prog 280 #[.slice A2 S.length c2, .int .i64 0] W fun e w' => e = .returned (.int .u32 (tn (beW S 0))) ∧ Below W.heap.size W w' := fun W A2 c2 h => word_calls S A2 S.length c2 0 W _ rfl (by omega) (by omega) h
  have HSUM := Lib.hid hsum
  have HDIG := Lib.hid hdig
  have HW := Lib.hid hword
  have HDB := Lib.hid hDb
  have HDL := Lib.hid hDl
  have HP := Lib.hid hp
  have htn := tn_bd (beW S 0)
  have hD8 : D.length ≤ 8 := by omega
  clear hDl
  clear hsum hdig hword hDb hp hpn hD hS hSl hpS hr hm
  go_enter Tryz.func263, Tryz.ntmps263
  go_wp2_with (first
    | (go_at_call 190; refine (HSUM.out).mono ?_; rintro e w1 ⟨⟨v1, rfl, own1⟩, b1⟩; obtain ⟨A1, c1, rfl, _, _, r1, _⟩ := Kd.own_row own1)
    | (go_at_call 280; refine (HW.out _ A1 c1 r1).mono ?_; rintro e w2 ⟨rfl, b2⟩)
    | (go_at_call 279; refine (HDIG.out _).mono ?_; rintro e w3 ⟨⟨v3, rfl, own3⟩, b3⟩; obtain ⟨A3, c3, rfl, _, _, r3, _⟩ := Kd.own_row own3))
  have bel3 := bl_trans (bl_trans b1 b2) b3
  have h12 := (bl_trans b1 b2).size
  clear b1 b2 b3 own1
  go_loop [4, 15] (fun sv kv => ∃ k : Nat, k ≤ D.length ∧ kv = .int .i64 k ∧ sv = .int .i64 (sumD (D.take k))) (fun _ kv => D.length - (intOf kv).toNat)
  case atStart => exact ⟨0, by omega, rfl, rfl⟩
  case round =>
    obtain ⟨k, hk, rfl, rfl⟩ := hrel
    by_cases h : k < D.length
    · obtain ⟨x, hx⟩ : ∃ x, D[k]? = some x := ⟨_, List.getElem?_eq_getElem h⟩
      obtain ⟨ad, rfl, c0, _⟩ := int_at r3 hx
      have hxb := HDB.out x (List.mem_of_getElem? hx)
      have hs : sumD (D.take (k + 1)) = sumD (D.take k) + (3 - x) := by rw [List.take_add_one, hx]; exact sumD_snoc _ _
      have hb := sumD_bd (D.take k) fun y hy => HDB.out y (List.mem_of_mem_take hy)
      have hb3 : ((D.take k).length : Int) ≤ 8 := by rw [List.length_take]; omega
      obtain ⟨U, hU⟩ : ∃ U, sumD (D.take k) = U := ⟨_, rfl⟩
      simp only [hU] at hs hb ⊢
      have HS := Lib.hid hs
      have hkI : (k : Int) < (D.length : Int) := by omega
      have hU2 : U ≤ 24 := by omega
      clear hs hU hx
      go_wp2_with fail
      go_round
      case rel => exact ⟨k + 1, by omega, by go_num, by rw [HS.out]⟩
      case measure => simp [intOf]; omega
    · have hk' : k = D.length := by omega
      subst hk'
      have hnI : ¬ ((D.length : Int) < (D.length : Int)) := by omega
      rw [List.take_of_length_le (Nat.le_refl _)]
      have hb := sumD_bd D HDB.out
      obtain ⟨U, hU⟩ : ∃ U : Nat, (sumD D).toNat = U := ⟨_, rfl⟩
      have hUI : sumD D = (U : Int) := by omega
      have hU24 : U ≤ 24 := by omega
      rw [hU] at HP
      rw [hUI]
      have hd3 : ∀ W : World, Calls Tryz.prog 279 #[.int .i64 (U : Int), .int .i64 3] W fun e w' => (∃ v, e = .returned v ∧ Kd.int.Own 3 W.heap.size w' W.heap.size v (digF U 3)) ∧ Below W.heap.size W w' := fun W => digits_calls U 3 W (by omega) (by omega)
      have HD3 := Lib.hid hd3
      have ownD : Kd.int.Own 3 w.heap.size w3 w.heap.size (.slice A3 D.length c3) D := Kd.own_flat Kd.flat_int own3 h12
      clear hd3 hUI hU hb r3
      go_wp2_with (first
        | (go_at_call 279; refine (HD3.out _).mono ?_; rintro e w4 ⟨⟨v4, rfl, own4⟩, b4⟩; obtain ⟨A4, c4, rfl, _, _, r4, _⟩ := Kd.own_row (Kd.own_flat (B' := w.heap.size) Kd.flat_int own4 (Nat.le_refl _)))
        | (at_builtin; refine wpList_append_row _ rfl (.tmp 24) (.tmp 26) 234 rfl Kd.int w.heap.size w.heap.size 3 i0 _ 8 Tryz.underlying234 hi hz0 hz1 hz2 rfl (by decide) _ D rfl (Kd.own_below ownD b4) _ _ _ (digF U 3) rfl rfl r4 (by rw [digF_len]; omega) (by decide) (bl_trans bel3 b4).size (Nat.le_refl _) (by decide) ?_; intro v5 w5 own5 grw5 at5; have bel5 := Kd.own_step (bl_trans bel3 b4) (Kd.own_below ownD b4) grw5))
      go_ret
      exact ⟨⟨_, rfl, by rw [HP.out]; exact own5⟩, bel5⟩
end Go.Proofs.YtcbfpdenjdgnlaaGreat
/- Package wots: Chain, ended; package merkle: Climb. No claim of its own; no condition. -/
namespace Go.Proofs.YtcbfpdenjdgnlaaGreat
open Go.ChangeShapes Go.WideShapes Go.ChangeAt Go.RowKit
set_option linter.unusedVariables false
set_option linter.unusedSimpArgs false
section
variable {P : Program}
theorem oct_law {e src dst : TypeId} (hs : P.underlying src = some .string) (hd : P.underlying dst = some (.slice e)) (he : P.underlying e = some (.int .u8)) (w : World) (s : ByteArray) (hl : s.size ≤ 1048576) :
    ∃ c w', (convert src dst (.string s)).run P w = .ok (.slice (some ⟨w.heap.size, 0, none⟩) s.size c) w' ∧ s.size ≤ c ∧ c ≤ maxLen ∧ Below w.heap.size w w' ∧ ∀ B, Kd.u8.Row e B w' (some ⟨w.heap.size, 0, none⟩) (bl s) := by
  obtain ⟨c, h1, h2, h3⟩ := run_oct hs hd he w s (by unfold maxLen; omega)
  exact ⟨c, _, h1, h2, h3, oct_world w e s, oct_row w e s⟩
end
/-- Short of slices that were just put side by side. -/
theorem short_fresh (ls : List (List UInt8)) (cs : Array Value) (n : Nat) (W : World) (hn : n = ls.length) (hl : ls.length ≤ 1048576) (ht : ls.flatten.length ≤ 1048576) (h : Kd.Reps kBB 0 (W.alloc (.cells cs 60)) ls cs.toList) :
    Calls Tryz.prog 262 #[.slice (some ⟨W.heap.size, 0, none⟩) n n] (W.alloc (.cells cs 60)) fun e w' => e = .returned (.string (shS ls.flatten)) ∧ Below (W.alloc (.cells cs 60)).heap.size (W.alloc (.cells cs 60)) w' :=
  short_calls ls _ n n _ 0 hn hl ht (Kd.row_fresh rfl h)
theorem short1 (l : List UInt8) (A : Option Addr) (n c : Nat) (W : World) (hn : n = l.length) (ht : l.length ≤ 1048576) (hc : l.length ≤ c) (hm : c ≤ maxLen) (hr : Kd.u8.Row 5 0 W A l) :
    Calls Tryz.prog 262 #[.slice (some ⟨W.heap.size, 0, none⟩) 1 1] (W.alloc (.cells #[.slice A n c] 60)) fun e w' => e = .returned (.string (shS l)) ∧ Below W.heap.size W w' := by
  subst hn
  have h := short_fresh [l] #[.slice A l.length c] 1 W rfl (by simp) (by simpa using ht) (.cons (show kBB.K _ _ _ [_] from ⟨A, c, rfl, hc, hm, Kd.row_below (bl_alloc (rb_refl _) _) hr⟩) .nil)
  rw [show [l].flatten = l by simp] at h
  exact h.mono fun e w' ⟨h1, h2⟩ => ⟨h1, bl_trans (bl_alloc (rb_refl _) _) h2⟩
theorem short2 (l k : List UInt8) (A A' : Option Addr) (n n' c c' : Nat) (W : World) (hn : n = l.length) (hn' : n' = k.length) (ht : l.length ≤ 4096) (ht' : k.length ≤ 4096) (hc : l.length ≤ c) (hm : c ≤ maxLen) (hr : Kd.u8.Row 5 0 W A l)
    (hc' : k.length ≤ c') (hm' : c' ≤ maxLen) (hr' : Kd.u8.Row 5 0 W A' k) :
    Calls Tryz.prog 262 #[.slice (some ⟨W.heap.size, 0, none⟩) 2 2] (W.alloc (.cells #[.slice A n c, .slice A' n' c'] 60)) fun e w' => e = .returned (.string (shS (l ++ k))) ∧ Below W.heap.size W w' := by
  subst hn hn'
  have h := short_fresh [l, k] #[.slice A l.length c, .slice A' k.length c'] 2 W rfl (by simp) (by simp; omega)
    (.cons (show kBB.K _ _ _ [_] from ⟨A, c, rfl, hc, hm, Kd.row_below (bl_alloc (rb_refl _) _) hr⟩) (.cons (show kBB.K _ _ _ [_] from ⟨A', c', rfl, hc', hm', Kd.row_below (bl_alloc (rb_refl _) _) hr'⟩) .nil))
  rw [show [l, k].flatten = l ++ k by simp] at h
  exact h.mono fun e w' ⟨h1, h2⟩ => ⟨h1, bl_trans (bl_alloc (rb_refl _) _) h2⟩
/-- A chain's step, so many times. -/
def chF (s : ByteArray) : Nat → ByteArray
  | 0 => s
  | k + 1 => shS (bl (chF s k))
theorem chF_size {s : ByteArray} (h : s.size ≤ 4096) (k : Nat) : (chF s k).size ≤ 4096 := by
  cases k with
  | zero => exact h
  | succ k => show (shS _).size ≤ _; rw [shS_size]; omega
theorem chF_eight {s : ByteArray} (h : s.size = 8) (k : Nat) : (chF s k).size = 8 := by
  cases k with
  | zero => exact h
  | succ k => exact shS_size _
set_option maxHeartbeats 3200000 in
set_option maxRecDepth 100000 in
theorem chain_calls (s : ByteArray) (n : Nat) (w : World) (hn : n ≤ 3) (hs : s.size ≤ 4096) :
    Calls Tryz.prog 264 #[.string s, .int .i64 (n : Int)] w fun e w' => e = .returned (.string (chF s n)) ∧ Below w.heap.size w w' := by
  have hmx : ∀ w : World, (Builtin.max_ #[3, 3] 3 #[.int .i64 (n : Int), .int .i64 0]).run Tryz.prog w = .ok (.int .i64 (n : Int)) w := fun w => by rw [run_max2, Int.max_eq_left (by omega)]
  have hmn : ∀ w : World, (Builtin.min_ #[3, 3] 3 #[.int .i64 (n : Int), .int .i64 3]).run Tryz.prog w = .ok (.int .i64 (n : Int)) w := fun w => by rw [run_min2, Int.min_eq_left (by omega)]
  go_enter Tryz.func264, Tryz.ntmps264
  go_wp2_with fail
  clear hmx hmn
  go_loopw [0, 8] (fun sv kv w' => ∃ k : Nat, k ≤ n ∧ kv = .int .i64 k ∧ sv = .string (chF s k) ∧ Below w.heap.size w w') (fun _ kv _ => n - (intOf kv).toNat)
  case atStart => exact ⟨0, by omega, rfl, rfl, Below.refl _ _⟩
  case round =>
    obtain ⟨k, hk, rfl, rfl, bel⟩ := hrel
    by_cases h : k < n
    · have hkI : (k : Int) < (n : Int) := by omega
      have hz := chF_size hs k
      have hnx : chF s (k + 1) = shS (bl (chF s k)) := rfl
      obtain ⟨S, hS⟩ : ∃ S, chF s k = S := ⟨_, rfl⟩
      rw [hS] at hz hnx
      simp only [hS]
      have HN := Lib.hid hnx
      have hz2 : (bl S).length ≤ 1048576 := by rw [bl_len]; omega
      clear hS hnx
      go_wp2_with (first
        | (obtain ⟨c1, W1, hrun, l1, m1, bw1, rw1⟩ := oct_law Tryz.underlying9 Tryz.underlying60 Tryz.underlying5 wr S (by omega); refine wpList_convert rfl 9 60 (.tmp 10) rfl _ rfl _ _ hrun ?_)
        | (go_at_call 262; refine (short1 (bl S) _ _ c1 W1 rfl hz2 l1 m1 (rw1 0)).mono ?_; rintro e w2 ⟨rfl, b2⟩))
      go_roundw
      case rel => exact ⟨k + 1, by omega, by go_num, by rw [HN.out], bl_trans (bl_trans bel bw1) b2⟩
      case measure => simp [intOf]; omega
    · have hk' : k = n := by omega
      subst hk'
      have hnI : ¬ ((k : Int) < (k : Int)) := by omega
      go_wp2_with fail
      go_ret
      exact ⟨rfl, bel⟩
end Go.Proofs.YtcbfpdenjdgnlaaGreat
