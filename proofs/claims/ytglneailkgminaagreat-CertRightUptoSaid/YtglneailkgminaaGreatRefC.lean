/- Package mootref01: Sha. No claim of its own; no condition. -/
import Derived.Test.YtglneailkgminaaGreatRefZ
import Derived.Test.YtglneailkgminaaGreatLate
namespace Go.Proofs.YtglneailkgminaaGreat
open Go.ChangeShapes Go.WideShapes Go.ChangeAt Go.RowKit
set_option linter.unusedVariables false
set_option linter.unusedSimpArgs false
/-- A block's words, so many. -/
def schC (b : List UInt8) : Nat → List UInt32
  | 0 => List.replicate 64 0
  | k + 1 => (schC b k).set k (if k < 16 then beW b (4 * k) else nextW (schC b k) (k - 16))
theorem schC_len (b : List UInt8) (k : Nat) : (schC b k).length = 64 := by
  induction k with
  | zero => simp [schC]
  | succ k ih => simp [schC, ih]
theorem schC_A (b : List UInt8) : ∀ k, k ≤ 16 → schC b k = schA b k
  | 0, _ => rfl
  | k + 1, h => by
    show (schC b k).set k _ = (schA b k).set k _
    rw [if_pos (by omega), schC_A b k (by omega)]
theorem schC_B (b : List UInt8) : ∀ t, schC b (16 + t) = schB b t
  | 0 => schC_A b 16 (Nat.le_refl _)
  | t + 1 => by
    show (schC b (16 + t)).set (16 + t) (if 16 + t < 16 then beW b (4 * (16 + t)) else nextW (schC b (16 + t)) (16 + t - 16)) = (schB b t).set (t + 16) _
    rw [if_neg (by omega), schC_B b t, show 16 + t - 16 = t by omega, Nat.add_comm 16 t]
/-- The sums at the end, so many. -/
def sumR (s v : List UInt32) : Nat → List UInt32
  | 0 => s
  | i + 1 => (sumR s v i).set i ((sumR s v i).getD i 0 + v.getD i 0)
theorem sumR_len (s v : List UInt32) (i : Nat) : (sumR s v i).length = s.length := by
  induction i with
  | zero => rfl
  | succ i ih => simp [sumR, ih]
theorem sumR_eq {s v : List UInt32} (hs : s.length = 8) (hv : v.length = 8) : sumR s v 8 = sums v s 8 := by
  obtain ⟨a, b, c, d, e, f, g, h, rfl⟩ := eight hs
  obtain ⟨a', b', c', d', e', f', g', h', rfl⟩ := eight hv
  simp [sumR, sums, UInt32.add_comm]
theorem cell_off {w : World} {a : Addr} {n : Nat} {v : Value} (h : w.cell? (a.add (n + 1)) = some v) : w.cell? ⟨a.block, a.off + (n + 1), none⟩ = some v := by
  have e : a.add (n + 1) = ⟨a.block, a.off + (n + 1), none⟩ := by unfold Addr.add; simp
  rwa [e] at h
def w4 (a b c d : UInt8) : UInt32 := UInt32.ofNat ((w8 a).toNat * 2 ^ 24) + UInt32.ofNat ((w8 b).toNat * 2 ^ 16) + UInt32.ofNat ((w8 c).toNat * 2 ^ 8) + w8 d
theorem or_w8 (u : UInt32) (d : UInt8) (hu : u.toNat < 16777216) : UInt32.ofNat (u.toNat * 256) ||| w8 d = UInt32.ofNat (u.toNat * 256 + d.toNat) := by
  have hd := d.toNat_lt
  apply UInt32.toNat_inj.1
  rw [UInt32.toNat_or]
  unfold w8
  rw [UInt32.toNat_ofNat', UInt32.toNat_ofNat', UInt32.toNat_ofNat', Nat.mod_eq_of_lt (by omega), Nat.mod_eq_of_lt (by omega), Nat.mod_eq_of_lt (by omega)]
  have h4 := Nat.two_pow_add_eq_or_of_lt (i := 8) (b := d.toNat) (by omega) u.toNat
  rw [show (2 : Nat) ^ 8 = 256 from rfl, Nat.mul_comm] at h4
  exact h4.symm
theorem beW_w4 {b : List UInt8} {a : Nat} {x0 x1 x2 x3 : UInt8} (h0 : b[a]? = some x0) (h1 : b[a + 1]? = some x1) (h2 : b[a + 2]? = some x2) (h3 : b[a + 3]? = some x3) : beW b a = w4 x0 x1 x2 x3 := by
  have b0 := x0.toNat_lt
  have b1 := x1.toNat_lt
  have b2 := x2.toNat_lt
  have b3 := x3.toNat_lt
  have g : ∀ {k : Nat} {x : UInt8}, b[a + k]? = some x → b.getD (a + k) 0 = x := fun h => by rw [List.getD_eq_getElem?_getD, h]; rfl
  have e1 : beG b a 1 = UInt32.ofNat x0.toNat := by
    show UInt32.ofNat ((0 : UInt32).toNat * 256) ||| w8 (b.getD (a + 0) 0) = _
    rw [or_w8 0 _ (by decide), g (k := 0) h0]
    simp
  have t1 : (beG b a 1).toNat = x0.toNat := by rw [e1, UInt32.toNat_ofNat', Nat.mod_eq_of_lt (by omega)]
  have e2 : beG b a 2 = UInt32.ofNat (x0.toNat * 256 + x1.toNat) := by
    show UInt32.ofNat ((beG b a 1).toNat * 256) ||| w8 (b.getD (a + 1) 0) = _
    rw [or_w8 _ _ (by rw [t1]; omega), g (k := 1) h1, t1]
  have t2 : (beG b a 2).toNat = x0.toNat * 256 + x1.toNat := by rw [e2, UInt32.toNat_ofNat', Nat.mod_eq_of_lt (by omega)]
  have e3 : beG b a 3 = UInt32.ofNat ((x0.toNat * 256 + x1.toNat) * 256 + x2.toNat) := by
    show UInt32.ofNat ((beG b a 2).toNat * 256) ||| w8 (b.getD (a + 2) 0) = _
    rw [or_w8 _ _ (by rw [t2]; omega), g (k := 2) h2, t2]
  have t3 : (beG b a 3).toNat = (x0.toNat * 256 + x1.toNat) * 256 + x2.toNat := by rw [e3, UInt32.toNat_ofNat', Nat.mod_eq_of_lt (by omega)]
  show UInt32.ofNat ((beG b a 3).toNat * 256) ||| w8 (b.getD (a + 3) 0) = _
  rw [or_w8 _ _ (by rw [t3]; omega), g (k := 3) h3, t3]
  have w : ∀ x : UInt8, (w8 x).toNat = x.toNat := fun x => by have := x.toNat_lt; unfold w8; rw [UInt32.toNat_ofNat', Nat.mod_eq_of_lt (by omega)]
  apply UInt32.toNat_inj.1
  unfold w4
  rw [UInt32.toNat_add, UInt32.toNat_add, UInt32.toNat_add, UInt32.toNat_ofNat', UInt32.toNat_ofNat', UInt32.toNat_ofNat', UInt32.toNat_ofNat', w, w, w, w]
  omega
theorem w4_mul (a b c d : UInt8) : w8 a * 16777216 + w8 b * 65536 + w8 c * 256 + w8 d = w4 a b c d := by
  have m : ∀ (x : UInt32) (n : Nat), n < 4294967296 → UInt32.ofNat (x.toNat * n) = x * UInt32.ofNat n := by
    intro x n hn
    apply UInt32.toNat_inj.1
    rw [UInt32.toNat_mul, UInt32.toNat_ofNat', UInt32.toNat_ofNat', Nat.mod_eq_of_lt hn]
  unfold w4
  rw [m _ _ (by decide), m _ _ (by decide), m _ _ (by decide)]
  rfl
theorem shl24 (x : UInt32) : tn x * 16777216 % 4294967296 = tn (UInt32.ofNat (x.toNat * 2 ^ 24)) := tn_shl' x 24
theorem shl16 (x : UInt32) : tn x * 65536 % 4294967296 = tn (UInt32.ofNat (x.toNat * 2 ^ 16)) := tn_shl' x 16
theorem shl8' (x : UInt32) : tn x * 256 % 4294967296 = tn (UInt32.ofNat (x.toNat * 2 ^ 8)) := tn_shl' x 8
theorem w8_wrap (x : UInt8) : IntKind.u32.wrap (x.toNat : Int) = tn (w8 x) := by rw [wrap_nat, ← w8_mod]; omega
theorem shl24w (x : UInt32) : IntKind.u32.wrap (tn x * 16777216) = tn (UInt32.ofNat (x.toNat * 2 ^ 24)) := tn_shl x 24
theorem shl16w (x : UInt32) : IntKind.u32.wrap (tn x * 65536) = tn (UInt32.ofNat (x.toNat * 2 ^ 16)) := tn_shl x 16
theorem shl8w (x : UInt32) : IntKind.u32.wrap (tn x * 256) = tn (UInt32.ofNat (x.toNat * 2 ^ 8)) := tn_shl x 8
theorem turn_any (x : UInt32) (n : Int) (h : 1 ≤ n ∧ n ≤ 31) (w : World) :
    Calls Tryz.prog 89 #[.int .u32 (tn x), .int .u64 n] w fun e w' => e = .returned (.int .u32 (tn (rotr x n.toNat))) ∧ w' = w := by
  obtain ⟨k, rfl⟩ : ∃ k : Nat, n = (k : Int) := ⟨n.toNat, by omega⟩
  refine (turn_calls x k (by omega) (by omega) w).mono ?_
  rintro e w' ⟨rfl, rfl⟩
  exact ⟨rfl, rfl⟩
theorem info_212 : (Tryz.prog.info? 124).map (·.size) = some 8 := by kernel_rfl
theorem turn_q (x : UInt32) (n : Int) (h : 1 ≤ n ∧ n ≤ 31) (w : World) (a d : Nat) :
    Calls Tryz.prog 89 #[.int .u32 (tn x), .int .u64 n] (w.drewN (a + d)) fun e w' => e = .returned (.int .u32 (tn (rotr x n.toNat))) ∧ ∃ m, w' = w.drewN (a + m) := by
  refine (turn_any x n h _).mono ?_
  rintro e w' ⟨rfl, rfl⟩
  exact ⟨rfl, d, rfl⟩
attribute [local go_sem] b_xor b_and b_or b_add b_add' b_not b_notM d8 d1024 w8_mod shl24 shl16 shl8' w8_wrap shl24w shl16w shl8w ob24 ob16 ob8 ob0
set_option maxHeartbeats 40000000 in
set_option maxRecDepth 100000 in
theorem refsha_calls (b : List UInt8) (A : Option Addr) (n c : Nat) (w : World) (B : Nat) (hn : n = b.length) (hl : b.length ≤ 1048576) (hr : Kd.u8.Row 5 B w A b) :
    Calls Tryz.prog 71 #[.slice A n c] w fun e w' => (∃ v, e = .returned v ∧ Kd.u8.Own 5 w.heap.size w' w.heap.size v (shaB b)) ∧ Below w.heap.size w w' := by
  subst hn
  obtain ⟨p, hp⟩ : ∃ p, padB b = p := ⟨_, rfl⟩
  have hpl : p.length = 64 * (p.length / 64) := by
    have : (padB b).length = b.length + 1 + zpad b.length + 8 := by simp [padB, putB]; omega
    rw [← hp, this]
    unfold zpad
    omega
  have hpb : p.length ≤ 1100000 := by
    have : (padB b).length = b.length + 1 + zpad b.length + 8 := by simp [padB, putB]; omega
    rw [← hp, this]
    unfold zpad
    omega
  have hpad := fun (w' : World) (h : Below w.heap.size w w') => refpad_calls b A b.length c w' B rfl (by omega) (Kd.row_below h hr)
  rw [hp] at hpad
  have HPAD := Lib.hid hpad
  obtain ⟨nb, hnb⟩ : ∃ nb, p.length / 64 = nb := ⟨_, rfl⟩
  rw [hnb] at hpl
  have HSB : Hid (shaB b = wordsB (shaS p nb)) := Lib.hid (by unfold shaB; rw [hp, hnb])
  have HPL := Lib.hid hpl
  have HHC := Lib.hid h0_cells
  have i213 : Hid ((Tryz.prog.info? 124).map (·.size) = some 8) := Lib.hid (by kernel_rfl)
  have i215 := Lib.hid info_215
  have Z6 := Lib.hid zero64
  clear hpad hp hnb hpl
  go_enter Tryz.func71, Tryz.ntmps71
  go_wp2_with (first
    | (go_at_call 87; refine (words_calls _).mono ?_; rintro e w1 ⟨rfl, b1⟩)
    | (rw [← Z6.out]; refine wpList_store_new (wcs (List.replicate 64 0)) 122 _ rfl rfl 122 (.tmp 3) (.tmp 20) rfl rfl (wcs kL) rfl info_215 rfl (wcs_one _) ?_)
    | (go_at_call 88; refine (HPAD.out _ (bl_alloc (bl_alloc b1 _) _)).mono ?_; rintro e w2 ⟨⟨v2, rfl, own2⟩, b2⟩; obtain ⟨Ap, cp, rfl, q1, q2, rowp, _⟩ := Kd.own_row own2))
  have q3 : WB w2 w1.heap.size 122 kL := block_below b2 (alloc_old (alloc_new w1 _) _)
  have q4 : WB w2 (w1.heap.size + 1) 124 h0L := by
    have h := alloc_new (w1.alloc (.cells (wcs kL) 122)) (.cells (wcs h0L) 124)
    rw [World.size_alloc, HHC.out] at h
    have h2 := block_below b2 h
    rw [← HHC.out] at h2
    exact h2
  have q5 : ∀ B, Kd.u8.Row 5 B w2 Ap p := own_rows Kd.flat_u8 own2
  have q6 : Below w.heap.size w w2 := bl_trans (bl_alloc (bl_alloc b1 _) _) b2
  have hM : w.heap.size ≤ w1.heap.size := b1.size
  have hS2 : w1.heap.size + 1 < w2.heap.size := blk_lt q4
  obtain ⟨K, hK⟩ : ∃ K, w1.heap.size = K := ⟨_, rfl⟩
  obtain ⟨M, hMM⟩ : ∃ M, w.heap.size = M := ⟨_, rfl⟩
  rw [hK] at q3 q4 hM hS2
  rw [hMM] at q6 hM
  simp only [hK]
  have HM := Lib.hid hMM
  clear own2 rowp b2 HHC HPAD hMM hK b1
  go_loopw [6] (fun av w' => ∃ i : Nat, i ≤ nb ∧ av = .int .i64 (64 * (i : Int)) ∧ WB w' K 122 kL ∧ WB w' (K + 1) 124 (shaS p i) ∧ (∀ B, Kd.u8.Row 5 B w' Ap p) ∧ Below M w w') (fun av _ => p.length - (intOf av).toNat)
  case atStart => exact ⟨0, by omega, rfl, q3, q4, q5, q6⟩
  case round =>
    clear q3 q4 q5 q6 hS2
    obtain ⟨i, hi, rfl, q3, q4, q5, q6⟩ := hrel
    by_cases h : i < nb
    · have hpl := HPL.out
      have hiI : 64 * (i : Int) < (p.length : Int) := by omega
      have hb64 : 64 * i + 64 ≤ p.length := by omega
      obtain ⟨blk, hblk⟩ : ∃ blk, (p.drop (64 * i)).take 64 = blk := ⟨_, rfl⟩
      have hbg : ∀ j, j < 64 → blk[j]? = p[64 * i + j]? := fun j hj => by rw [← hblk, List.getElem?_take_of_lt hj, List.getElem?_drop]
      have hnext : shaS p (i + 1) = blkF (shaS p i) kL blk := by rw [← hblk]; rfl
      have hsl := shaS_len p i
      have HNEXT := Lib.hid hnext
      have HBG := Lib.hid hbg
      obtain ⟨s, hs⟩ : ∃ s, shaS p i = s := ⟨_, rfl⟩
      rw [hs] at q4 hsl HNEXT
      have HSL := Lib.hid hsl
      have HI := Lib.hid hb64
      have HI2 := Lib.hid hi
      clear hpl hblk hbg hnext hsl hs
      go_upto_region 8 with fail
      rw [← Z6.out]
      have al := bl_alloc (Below.refl wr.heap.size wr) (.cells (wcs (List.replicate 64 0)) 122)
      have g7 : WB (wr.alloc (.cells (wcs (List.replicate 64 0)) 122)) wr.heap.size 122 (schC blk 0) := alloc_new wr _
      have g3 : WB (wr.alloc (.cells (wcs (List.replicate 64 0)) 122)) K 122 kL := alloc_old q3 _
      have g4 : WB (wr.alloc (.cells (wcs (List.replicate 64 0)) 122)) (K + 1) 124 s := alloc_old q4 _
      have g5 : ∀ B, Kd.u8.Row 5 B (wr.alloc (.cells (wcs (List.replicate 64 0)) 122)) Ap p := fun B => Kd.row_below al (q5 B)
      have g6 : Below M w (wr.alloc (.cells (wcs (List.replicate 64 0)) 122)) := q6.alloc (by have := q6.size; have := blk_lt q4; omega) _
      have hN : K + 1 < wr.heap.size := blk_lt q4
      generalize wr.alloc (.cells (wcs (List.replicate 64 0)) 122) = W7 at *
      obtain ⟨N, hNN⟩ : ∃ N, wr.heap.size = N := ⟨_, rfl⟩
      rw [hNN] at g7 hN
      simp only [hNN]
      clear q3 q4 q5 q6 al hNN
      go_wp2_with fail
      go_loopw [8] (fun kv w' => ∃ k : Nat, k ≤ 64 ∧ kv = .int .i64 k ∧ WB w' N 122 (schC blk k) ∧ WB w' K 122 kL ∧ WB w' (K + 1) 124 s ∧ (∀ B, Kd.u8.Row 5 B w' Ap p) ∧ Below M w w') (fun kv _ => 64 - (intOf kv).toNat)
      case atStart => exact ⟨0, by omega, rfl, g7, g3, g4, g5, g6⟩
      case round =>
        clear g7 g3 g4 g5 g6
        obtain ⟨k, hk, rfl, g7, g3, g4, g5, g6⟩ := hrel
        have hcl := schC_len blk k
        by_cases hk64 : k < 64
        · have hkI : (k : Int) < 64 := by omega
          have hk0 : (0 : Int) ≤ (k : Int) := by omega
          obtain ⟨r, hr0⟩ : ∃ x, (schC blk k)[k]? = some x := ⟨_, List.getElem?_eq_getElem (by omega)⟩
          by_cases hk16 : k < 16
          · -- A{
            have hk16I : (k : Int) < 16 := by omega
            have hb64 := HI.out
            obtain ⟨x0, y0⟩ : ∃ x, p[64 * i + 4 * k]? = some x := ⟨_, List.getElem?_eq_getElem (by omega)⟩
            obtain ⟨x1, y1⟩ : ∃ x, p[64 * i + 4 * k + 1]? = some x := ⟨_, List.getElem?_eq_getElem (by omega)⟩
            obtain ⟨x2, y2⟩ : ∃ x, p[64 * i + 4 * k + 2]? = some x := ⟨_, List.getElem?_eq_getElem (by omega)⟩
            obtain ⟨x3, y3⟩ : ∃ x, p[64 * i + 4 * k + 3]? = some x := ⟨_, List.getElem?_eq_getElem (by omega)⟩
            have hw : schC blk (k + 1) = (schC blk k).set k (w4 x0 x1 x2 x3) := by
              show (schC blk k).set k _ = _
              rw [if_pos hk16, beW_w4 (x0 := x0) (x1 := x1) (x2 := x2) (x3 := x3) (by rw [HBG.out _ (by omega)]; exact y0) (by rw [HBG.out _ (by omega)]; exact y1) (by rw [HBG.out _ (by omega)]; exact y2) (by rw [HBG.out _ (by omega)]; exact y3)]
            obtain ⟨ad, rfl, c0⟩ := u8_at (g5 0) y0
            obtain ⟨_, e1, c1⟩ := u8_at (g5 0) y1
            cases e1
            obtain ⟨_, e1, c2⟩ := u8_at (g5 0) y2
            cases e1
            obtain ⟨_, e1, c3⟩ := u8_at (g5 0) y3
            cases e1
            have cr := WB.cell g7 hr0
            have zr := WB.free g7 k
            have HW := Lib.hid hw
            obtain ⟨X, hX⟩ : ∃ X, w4 x0 x1 x2 x3 = X := ⟨_, rfl⟩
            have HX : Hid (w8 x0 * 16777216 + w8 x1 * 65536 + w8 x2 * 256 + w8 x3 = X) := Lib.hid (by rw [w4_mul]; exact hX)
            rw [hX] at HW
            have i0 : (0 : Int) ≤ 64 * (i : Int) + 4 * (k : Int) := by omega
            have i1 : 64 * (i : Int) + 4 * (k : Int) + 3 < (p.length : Int) := by omega
            clear hw hX y0 y1 y2 y3 hr0 hb64
            go_upto_region 12 with fail
            refine wp_region_still_tail 43 (by kernel_rfl) (by kernel_rfl) ?_
            change wpStill _ _ wr.drew (fun a' => wpList _ _ _ _ a' wr.drew) _ _
            have f7 : WB wr.drew N 122 (schC blk k) := g7
            have f3 : WB wr.drew K 122 kL := g3
            have f4 : WB wr.drew (K + 1) 124 s := g4
            have f5 : ∀ B, Kd.u8.Row 5 B wr.drew (some ad) p := g5
            have f6 : Below M w wr.drew := g6.drew
            have d0 : wr.drew.cell? (ad.add (64 * i + 4 * k)) = some (.int .u8 (x0.toNat : Int)) := c0
            have d1 : wr.drew.cell? ⟨ad.block, ad.off + (64 * i + 4 * k + 1), none⟩ = some (.int .u8 (x1.toNat : Int)) := cell_off c1
            have d2 : wr.drew.cell? ⟨ad.block, ad.off + (64 * i + 4 * k + 2), none⟩ = some (.int .u8 (x2.toNat : Int)) := cell_off c2
            have d3 : wr.drew.cell? ⟨ad.block, ad.off + (64 * i + 4 * k + 3), none⟩ = some (.int .u8 (x3.toNat : Int)) := cell_off c3
            have dr : wr.drew.cell? ⟨N, k, none⟩ = some (.int .u32 (tn r)) := cr
            have zd : wr.drew.frozen? ⟨N, k, none⟩ = false := zr
            clear g7 g3 g4 g5 g6 c0 c1 c2 c3 cr zr
            generalize wr.drew = w5 at *
            have i2 : 64 * (i : Int) + 4 * (k : Int) < (p.length : Int) := by omega
            have i3 : 64 * (i : Int) + 4 * (k : Int) + 1 < (p.length : Int) := by omega
            have i4 : 64 * (i : Int) + 4 * (k : Int) + 2 < (p.length : Int) := by omega
            have i5 : (0 : Int) ≤ 64 * (i : Int) + 4 * (k : Int) + 1 := by omega
            have i6 : (0 : Int) ≤ 64 * (i : Int) + 4 * (k : Int) + 2 := by omega
            have i7 : (0 : Int) ≤ 64 * (i : Int) + 4 * (k : Int) + 3 := by omega
            have n0 : (64 * (i : Int) + 4 * (k : Int)).toNat = 64 * i + 4 * k := by omega
            have n1 : (64 * (i : Int) + 4 * (k : Int) + 1).toNat = 64 * i + 4 * k + 1 := by omega
            have n2 : (64 * (i : Int) + 4 * (k : Int) + 2).toNat = 64 * i + 4 * k + 2 := by omega
            have n3 : (64 * (i : Int) + 4 * (k : Int) + 3).toNat = 64 * i + 4 * k + 3 := by omega
            have v0 : IntKind.i64.wrap (4 * (k : Int)) = 4 * (k : Int) := IntWalk.i64_in _ (by omega)
            have v1 : IntKind.i64.wrap (64 * (i : Int) + 4 * (k : Int)) = 64 * (i : Int) + 4 * (k : Int) := IntWalk.i64_in _ (by omega)
            have v2 : IntKind.i64.wrap (64 * (i : Int) + 4 * (k : Int) + 1) = 64 * (i : Int) + 4 * (k : Int) + 1 := IntWalk.i64_in _ (by omega)
            have v3 : IntKind.i64.wrap (64 * (i : Int) + 4 * (k : Int) + 2) = 64 * (i : Int) + 4 * (k : Int) + 2 := IntWalk.i64_in _ (by omega)
            have v4 : IntKind.i64.wrap (64 * (i : Int) + 4 * (k : Int) + 3) = 64 * (i : Int) + 4 * (k : Int) + 3 := IntWalk.i64_in _ (by omega)
            simp only [List.take_succ_cons, List.take_zero, List.drop_succ_cons, List.drop_zero]
            repeat still_step
            try refine wpStill_nil ?_
            clear v0 v1 v2 v3 v4 n0 n1 n2 n3
            simp only [HX.out]
            clear HX
            go_wp2_with fail
            go_roundw
            case rel => exact ⟨k + 1, by omega, by go_num, by rw [HW.out]; exact WB.set f7 k _, block_far f3 (by omega), block_far f4 (by omega), row_set Kd.flat_u8 f7 (by decide) _ f5, f6.setCell (show M ≤ N by omega) _⟩
            case measure => simp [intOf]; omega
            -- }A
          · -- A{
            obtain ⟨t, rfl⟩ : ∃ t, k = t + 16 := ⟨k - 16, by omega⟩
            have hc : ((t + 16 : Nat) : Int) = (t : Int) + 16 := by omega
            simp only [hc] at hkI hk0 ⊢
            have hk16I : ¬ ((t : Int) + 16 < 16) := by omega
            clear hc hk16 hk0
            have hk0 : (0 : Int) ≤ (t : Int) := by omega
            obtain ⟨x, hx⟩ : ∃ x, (schC blk (t + 16))[t + 1]? = some x := ⟨_, List.getElem?_eq_getElem (by omega)⟩
            obtain ⟨y, hy⟩ : ∃ x, (schC blk (t + 16))[t + 14]? = some x := ⟨_, List.getElem?_eq_getElem (by omega)⟩
            obtain ⟨pp, hp⟩ : ∃ x, (schC blk (t + 16))[t + 9]? = some x := ⟨_, List.getElem?_eq_getElem (by omega)⟩
            obtain ⟨q, hq⟩ : ∃ x, (schC blk (t + 16))[t]? = some x := ⟨_, List.getElem?_eq_getElem (by omega)⟩
            have hs : schC blk (t + 16 + 1) = (schC blk (t + 16)).set (t + 16) (sg1 y + pp + sg0 x + q) := by
              show (schC blk (t + 16)).set (t + 16) _ = _
              rw [if_neg (by omega), show t + 16 - 16 = t by omega]
              unfold nextW
              simp only [List.getD_eq_getElem?_getD, hx, hy, hp, hq, Option.getD_some]
            have HS := Lib.hid hs
            clear hs
            have cx := WB.cell g7 hx
            have cy := WB.cell g7 hy
            have HP := Lib.hid hp
            have HQ := Lib.hid hq
            have HR := Lib.hid hr0
            have hk64' : t < 48 := by omega
            clear hp hq hr0 hx hy hcl
            go_upto_region 13 with fail
            go_quiet (fail)
            go_upto_region 14 with fail
            refine wp_region_still_tail 29 (by kernel_rfl) (by kernel_rfl) ?_
            change wpStill _ _ (wr.drewN nq).drew (fun a' => wpList _ _ _ _ a' (wr.drewN nq).drew) _ _
            have f7 : WB (wr.drewN nq).drew N 122 (schC blk (t + 16)) := g7
            have f3 : WB (wr.drewN nq).drew K 122 kL := g3
            have f4 : WB (wr.drewN nq).drew (K + 1) 124 s := g4
            have f5 : ∀ B, Kd.u8.Row 5 B (wr.drewN nq).drew Ap p := g5
            have f6 : Below M w (wr.drewN nq).drew := (bm_drewN g6 nq).drew
            clear g7 g3 g4 g5 g6 cx cy
            generalize (wr.drewN nq).drew = w5 at *
            have cp := WB.cell f7 HP.out
            have cq := WB.cell f7 HQ.out
            have cr := WB.cell f7 HR.out
            have zr := WB.free f7 (t + 16)
            have n1 : (0 : Int) ≤ (t : Int) + 9 := by omega
            have n2 : (t : Int) + 9 < 64 := by omega
            have n3 : (0 : Int) ≤ (t : Int) + 16 := by omega
            have n4 : (t : Int) < 64 := by omega
            have w9 : IntKind.i64.wrap ((t : Int) + 9) = (t : Int) + 9 := IntWalk.i64_in _ (by omega)
            have w0 : IntKind.i64.wrap (t : Int) = (t : Int) := IntWalk.i64_in _ (by omega)
            have m1 : ((t : Int) + 9).toNat = t + 9 := by omega
            have m2 : ((t : Int) + 16).toNat = t + 16 := by omega
            have p7 : (t : Int) + 16 - 7 = (t : Int) + 9 := by omega
            have p16 : (t : Int) + 16 - 16 = (t : Int) := by omega
            have w7 : IntKind.i64.wrap ((t : Int) + 16 - 7) = (t : Int) + 9 := (IntWalk.i64_in _ (by omega)).trans (by omega)
            have w16 : IntKind.i64.wrap ((t : Int) + 16 - 16) = (t : Int) := (IntWalk.i64_in _ (by omega)).trans (by omega)
            simp only [List.take_succ_cons, List.take_zero, List.drop_succ_cons, List.drop_zero]
            repeat (first | still_step | still_call (turn_any _ _ (by omega) _))
            try refine wpStill_nil ?_
            clear w7 w16 m1 m2 p7 p16 w9 w0
            go_wp2_with fail
            go_roundw
            case rel => exact ⟨t + 16 + 1, by omega, congrArg (Value.int .i64) (by omega), by rw [HS.out]; exact WB.set f7 (t + 16) _, block_far f3 (by omega), block_far f4 (by omega), row_set Kd.flat_u8 f7 (by decide) _ f5, f6.setCell (show M ≤ N by omega) _⟩
            case measure => simp [intOf]; omega
            -- }A
        · obtain rfl : k = 64 := by omega
          have hkI : ¬ (((64 : Nat) : Int) < 64) := by omega
          have hsch : schC blk 64 = schB blk 48 := schC_B blk 48
          obtain ⟨ws, hws⟩ : ∃ ws, schB blk 48 = ws := ⟨_, rfl⟩
          have hwl : ws.length = 64 := by rw [← hws]; exact schB_len blk 48
          have hblkF : blkF s kL blk = sums (rnds s kL ws 64) s 8 := by unfold blkF; rw [hws]
          rw [hsch, hws] at g7
          rw [hblkF] at HNEXT
          have HWL := Lib.hid hwl
          have i212 := Lib.hid info_212
          have Z := Lib.hid zero8
          clear hsch hws hwl hblkF hcl hk hk64 HBG
          go_wp2_with (first
            | (refine wpList_load_row rfl 124 (.tmp 4) rfl (K + 1) rfl 124 (wcs s) (0, 0) _ g4 Tryz.underlying124 rfl (by rw [i212.out, wcs_size, HSL.out]) ?_)
            | (rw [← Z.out]; refine wpList_store_new (wcs (List.replicate 8 0)) 124 _ (by simp) rfl 124 (.tmp 11) (.tmp 116) rfl rfl (wcs s) rfl (by rw [i212.out, wcs_size, HSL.out]) (by rw [wcs_size, wcs_size, HSL.out, List.length_replicate]) (wcs_one _) ?_))
          have q3 : WB (wr.alloc (.cells (wcs s) 124)) K 122 kL := alloc_old g3 _
          have q4 : WB (wr.alloc (.cells (wcs s) 124)) (K + 1) 124 s := alloc_old g4 _
          have q7 : WB (wr.alloc (.cells (wcs s) 124)) N 122 ws := alloc_old g7 _
          have q8 : WB (wr.alloc (.cells (wcs s) 124)) wr.heap.size 124 (rnds s kL ws 0) := alloc_new wr _
          have al := bl_alloc (Below.refl wr.heap.size wr) (.cells (wcs s) 124)
          have q5 : ∀ B, Kd.u8.Row 5 B (wr.alloc (.cells (wcs s) 124)) Ap p := fun B => Kd.row_below al (g5 B)
          have hNV : N < wr.heap.size := blk_lt g7
          have q6 : Below M w (wr.alloc (.cells (wcs s) 124)) := g6.alloc (by omega) _
          generalize wr.alloc (.cells (wcs s) 124) = W8 at *
          obtain ⟨V, hVV⟩ : ∃ V, wr.heap.size = V := ⟨_, rfl⟩
          rw [hVV] at q8 hNV
          simp only [hVV]
          clear g7 g3 g4 g5 g6 al hVV
          go_wp2_with fail
          go_loopw [12] (fun kv w' => ∃ t : Nat, t ≤ 64 ∧ kv = .int .i64 t ∧ WB w' V 124 (rnds s kL ws t) ∧ WB w' N 122 ws ∧ WB w' K 122 kL ∧ WB w' (K + 1) 124 s ∧ (∀ B, Kd.u8.Row 5 B w' Ap p) ∧ Below M w w') (fun kv _ => 64 - (intOf kv).toNat)
          case atStart => exact ⟨0, by omega, rfl, q8, q7, q3, q4, q5, q6⟩
          case round =>
            clear q8 q7 q3 q4 q5 q6
            obtain ⟨t, h1, rfl, q8, q7, q3, q4, q5, q6⟩ := hrel
            obtain ⟨va, vb, vc, vd, ve, vf, vg, vh, hv⟩ := eight (rnds_len kL ws HSL.out t)
            by_cases h : t < 64
            · -- A{
              have hkI : (t : Int) < 64 := by omega
              have hk0 : (0 : Int) ≤ (t : Int) := by omega
              obtain ⟨kt, hkt⟩ : ∃ x, kL[t]? = some x := ⟨_, List.getElem?_eq_getElem (by rw [show kL.length = 64 from rfl]; exact h)⟩
              obtain ⟨wt, hwt⟩ : ∃ x, ws[t]? = some x := ⟨_, List.getElem?_eq_getElem (by rw [HWL.out]; exact h)⟩
              have hr1 : rnds s kL ws (t + 1) = [T1 ve vf vg vh kt wt + T2 va vb vc, va, vb, vc, vd + T1 ve vf vg vh kt wt, ve, vf, vg] := by
                show rnd (rnds s kL ws t) _ _ = _
                rw [hv, List.getD_eq_getElem?_getD, List.getD_eq_getElem?_getD, hkt, hwt]
                rfl
              rw [hv] at q8
              have ck := WB.cell q3 hkt
              have cw := WB.cell q7 hwt
              have c0 := WB.cell q8 (i := 0) rfl
              have c1 := WB.cell q8 (i := 1) rfl
              have c2 := WB.cell q8 (i := 2) rfl
              have c3 := WB.cell q8 (i := 3) rfl
              have c4 := WB.cell q8 (i := 4) rfl
              have c5 := WB.cell q8 (i := 5) rfl
              have c6 := WB.cell q8 (i := 6) rfl
              have c7 := WB.cell q8 (i := 7) rfl
              obtain ⟨x1, hx1⟩ : ∃ x, T1 ve vf vg vh kt wt = x := ⟨_, rfl⟩
              obtain ⟨x2, hx2⟩ : ∃ x, T2 va vb vc = x := ⟨_, rfl⟩
              rw [hx1, hx2] at hr1
              have HX1 : Hid (vh + (rotr ve 6 ^^^ rotr ve 11 ^^^ rotr ve 25) + (ve &&& vf ^^^ ~~~ve &&& vg) + kt + wt = x1) := Lib.hid hx1
              have HX2 : Hid ((rotr va 2 ^^^ rotr va 13 ^^^ rotr va 22) + (va &&& vb ^^^ va &&& vc ^^^ vb &&& vc) = x2) := Lib.hid hx2
              have HR1 := Lib.hid hr1
              clear hx1 hx2
              clear hr1 hkt hwt hv
              go_upto_region 19 with fail
              go_quiet (fail)
              go_upto_region 20 with fail
              go_quiet ((go_at_call 89; first | exact turn_q _ _ (by omega) _ _ _ | exact Calls.quiet_of_same (turn_any _ _ (by omega) _)))
              go_upto_region 21 with fail
              go_quiet ((go_at_call 89; first | exact turn_q _ _ (by omega) _ _ _ | exact Calls.quiet_of_same (turn_any _ _ (by omega) _)))
              go_upto_region 22 with fail
              simp only [b_add', HX1.out, HX2.out]
              clear HX1 HX2
              go_upto_block 18 with (first | (refine wpList_store_row rfl 124 (.tmp 11) (.tmp 198) rfl V rfl (wcs [x1 + x2, va, vb, vc, vd + x1, ve, vf, vg]) rfl 124 _ q8 (by rw [i212.out]; rfl) rfl (wcs_one _) ?_) | (simp only [b_add']; refine wpList_store_row rfl 124 (.tmp 11) (.tmp 198) rfl V rfl (wcs [x1 + x2, va, vb, vc, vd + x1, ve, vf, vg]) rfl 124 _ q8 (by rw [i212.out]; rfl) rfl (wcs_one _) ?_))
              go_wp2_with fail
              go_roundw
              case rel => exact ⟨t + 1, by omega, by go_num, by rw [HR1.out]; exact WB.row_same (W := wr.drewN _) q8 _, WB.row_far (W := wr.drewN _) q7 (by omega), WB.row_far (W := wr.drewN _) q3 (by omega), WB.row_far (W := wr.drewN _) q4 (by omega), row_setRow (w := wr.drewN _) Kd.flat_u8 q8 (by decide) q5, below_setRow (bm_drewN q6 _) (show M ≤ V by omega) _⟩
              case measure => simp [intOf]; omega
              -- }A
            · obtain rfl : t = 64 := by omega
              have hkI : ¬ (((64 : Nat) : Int) < 64) := by omega
              obtain ⟨v, hvv⟩ : ∃ v, rnds s kL ws 64 = v := ⟨_, rfl⟩
              have hvl : v.length = 8 := by rw [← hvv, hv]; rfl
              have hnx : shaS p (i + 1) = sumR s v 8 := by rw [HNEXT.out, hvv, sumR_eq HSL.out hvl]
              rw [hvv] at q8
              have HNX := Lib.hid hnx
              have HVL := Lib.hid hvl
              clear hvv hvl hnx hv HNEXT h h1 HWL q7 Z
              go_wp2_with fail
              clear hkI
              go_loopw [17] (fun kv w' => ∃ j : Nat, j ≤ 8 ∧ kv = .int .i64 j ∧ WB w' (K + 1) 124 (sumR s v j) ∧ WB w' V 124 v ∧ WB w' K 122 kL ∧ (∀ B, Kd.u8.Row 5 B w' Ap p) ∧ Below M w w') (fun kv _ => 8 - (intOf kv).toNat)
              case atStart => exact ⟨0, by omega, rfl, q4, q8, q3, q5, q6⟩
              case round =>
                clear q8 q3 q4 q5 q6
                obtain ⟨j, h1, rfl, q4, q8, q3, q5, q6⟩ := hrel
                by_cases h : j < 8
                · -- A{
                  have hkI : (j : Int) < 8 := by omega
                  have hk0 : (0 : Int) ≤ (j : Int) := by omega
                  obtain ⟨x, hx⟩ : ∃ x, (sumR s v j)[j]? = some x := ⟨_, List.getElem?_eq_getElem (by rw [sumR_len, HSL.out]; exact h)⟩
                  obtain ⟨y, hy⟩ : ∃ x, v[j]? = some x := ⟨_, List.getElem?_eq_getElem (by rw [HVL.out]; exact h)⟩
                  have hsm : sumR s v (j + 1) = (sumR s v j).set j (x + y) := by
                    show (sumR s v j).set j (_ + _) = _
                    rw [List.getD_eq_getElem?_getD, List.getD_eq_getElem?_getD, hx, hy]
                    rfl
                  have HSM := Lib.hid hsm
                  have HX := Lib.hid hx
                  have HY := Lib.hid hy
                  clear hsm hx hy
                  go_upto_region 26 with fail
                  refine wp_region_still_tail 9 (by kernel_rfl) (by kernel_rfl) ?_
                  change wpStill _ _ wr.drew (fun a' => wpList _ _ _ _ a' wr.drew) _ _
                  have f4 : WB wr.drew (K + 1) 124 (sumR s v j) := q4
                  have f8 : WB wr.drew V 124 v := q8
                  have f3 : WB wr.drew K 122 kL := q3
                  have f5 : ∀ B, Kd.u8.Row 5 B wr.drew Ap p := q5
                  have f6 : Below M w wr.drew := q6.drew
                  clear q3 q4 q5 q6 q8
                  generalize wr.drew = w5 at *
                  have cp := WB.cell f4 HX.out
                  have cq := WB.cell f8 HY.out
                  have zr := WB.free f4 j
                  simp only [List.take_succ_cons, List.take_zero, List.drop_succ_cons, List.drop_zero]
                  repeat still_step
                  try refine wpStill_nil ?_
                  go_wp2_with fail
                  go_roundw
                  case rel => exact ⟨j + 1, by omega, by go_num, by rw [HSM.out]; exact WB.set f4 j _, block_far f8 (by omega), block_far f3 (by omega), row_set Kd.flat_u8 f4 (by decide) _ f5, f6.setCell (show M ≤ K + 1 by omega) _⟩
                  case measure => simp [intOf]; omega
                  -- }A
                · obtain rfl : j = 8 := by omega
                  have hkI : ¬ (((8 : Nat) : Int) < 8) := by omega
                  have hb64 := HI.out
                  have hi2 := HI2.out
                  have wI : IntKind.i64.wrap (64 * (i : Int) + 64) = 64 * (i : Int) + 64 := IntWalk.i64_in _ (by omega)
                  clear h h1 q8
                  go_wp2_with fail
                  go_roundw
                  case rel => exact ⟨i + 1, by omega, congrArg (Value.int .i64) (by omega), q3, by rw [HNX.out]; exact q4, q5, q6⟩
                  case measure => simp [intOf]; omega
    · as_aux_lemma => -- A{
      have hpl := HPL.out
      obtain rfl : i = nb := by omega
      have hiI : ¬ (64 * (i : Int) < (p.length : Int)) := by omega
      obtain ⟨st, hst⟩ : ∃ st, shaS p i = st := ⟨_, rfl⟩
      have hstl : st.length = 8 := by rw [← hst]; exact shaS_len p i
      rw [hst] at q4
      have hfin : shaB b = wordsB st := by rw [HSB.out, hst]
      have HF := Lib.hid hfin
      have HST := Lib.hid hstl
      obtain ⟨i0, hi0, hz0, hz1, hz2⟩ := info_parts info_u8
      clear hst hstl hfin q3 q5 h hi
      go_wp2_with fail
      generalize wr = W9 at *
      have ownS : Kd.u8.Own 5 W9.heap.size W9 W9.heap.size (.slice none 0 0) (wordsB (st.take 0)) := Kd.own_nil _ _ _ _ _
      go_loopw [18, 19] (fun ov kv w' => ∃ k : Nat, k ≤ 8 ∧ kv = .int .i64 k ∧ Kd.u8.Own 5 W9.heap.size w' W9.heap.size ov (wordsB (st.take k)) ∧ Below W9.heap.size W9 w') (fun _ kv _ => 8 - (intOf kv).toNat)
      case atStart => exact ⟨0, by omega, rfl, ownS, Below.refl _ _⟩
      case round =>
        obtain ⟨k, h1, rfl, own, bel⟩ := hrel
        by_cases h : k < 8
        · obtain ⟨x, hx⟩ : ∃ x, st[k]? = some x := ⟨_, List.getElem?_eq_getElem (by rw [HST.out]; exact h)⟩
          have hkI : (k : Int) < 8 := by omega
          have hk0 : (0 : Int) ≤ (k : Int) := by omega
          have hs : wordsB (st.take (k + 1)) = wordsB (st.take k) ++ o4 x := flat_snoc o4 st k x hx
          have hlo : (wordsB (st.take k)).length ≤ 256 := by unfold wordsB; rw [o4_len, List.length_take]; omega
          have HS := Lib.hid hs
          obtain ⟨T', hT'⟩ : ∃ T', wordsB (st.take k) = T' := ⟨_, rfl⟩
          rw [hT'] at hlo own
          have HT := Lib.hid hT'
          have cx := WB.cell (WB.below q4 bel) hx
          clear hs hT' hx ownS
          obtain ⟨Ao, co, rfl, _, _, _, _⟩ := Kd.own_row own
          go_upto_region 31 with fail
          refine wp_region_late' 19 (by kernel_rfl) (by kernel_rfl) _ (Or.inl ⟨by rfl, fun w => by go_simp; rfl⟩) (fun _ _ _ h => h) ?_
          change wpStill _ _ wr.drew (fun a' => wpList _ _ _ _ a' wr.drew) _ _
          have ownD := Kd.own_below own (bl_drew (Below.refl wr.heap.size wr))
          have belD := bl_drew bel
          have cd : wr.drew.cell? ⟨K + 1, k, none⟩ = some (.int .u32 (tn x)) := cx
          clear own bel cx
          generalize wr.drew = w5 at *
          simp only [List.take_succ_cons, List.take_zero, List.drop_succ_cons, List.drop_zero]
          repeat still_step
          try refine wpStill_nil ?_
          have al := bl_alloc (Below.refl w5.heap.size w5) (.cells #[.int .u8 (un (ob x 24)), .int .u8 (un (ob x 16)), .int .u8 (un (ob x 8)), .int .u8 (un (ob x 0))] 5)
          have ownA := Kd.own_below ownD al
          have belA := bl_trans belD al
          have row4 : Kd.u8.Row 5 W9.heap.size (w5.alloc (.cells #[.int .u8 (un (ob x 24)), .int .u8 (un (ob x 16)), .int .u8 (un (ob x 8)), .int .u8 (un (ob x 0))] 5)) (some ⟨w5.heap.size, 0, none⟩) (o4 x) :=
            Kd.row_fresh rfl (.cons (show Kd.u8.K _ _ _ [_] from rfl) (.cons (show Kd.u8.K _ _ _ [_] from rfl) (.cons (show Kd.u8.K _ _ _ [_] from rfl) (.cons (show Kd.u8.K _ _ _ [_] from rfl) .nil))))
          go_wp2_with ((at_builtin; simp only [ob24, ob16, ob8, ob0]; refine wpList_append_row _ rfl (.tmp 216) (.tmp 236) 41 rfl Kd.u8 W9.heap.size W9.heap.size 5 i0 _ 1 Tryz.underlying41 hi0 hz0 hz1 hz2 rfl (by decide) _ T' rfl ownA _ _ _ (o4 x) rfl rfl row4 (by simp only [o4, List.length_cons, List.length_nil]; omega) (by decide) belA.size (Nat.le_refl _) (by decide) ?_; intro v4 w4 own4 grw4 at4; have bel4 := Kd.own_step belA ownA grw4))
          go_roundw
          case rel => exact ⟨k + 1, by omega, by go_num, (by rw [HS.out, HT.out]; exact own4), bel4⟩
          case measure => simp [intOf]; omega
        · obtain rfl : k = 8 := by omega
          have hkI : ¬ (((8 : Nat) : Int) < 8) := by omega
          have e : wordsB (st.take 8) = shaB b := by rw [List.take_of_length_le (by rw [HST.out]; exact Nat.le_refl _), HF.out]
          rw [e] at own
          have hMz := q6.size
          rw [← HM.out] at q6
          go_wp2_with fail
          go_ret
          refine ⟨⟨_, rfl, Kd.own_flat Kd.flat_u8 own ?_⟩, bl_trans q6 bel⟩
          exact q6.size
      -- }A
end Go.Proofs.YtglneailkgminaaGreat
