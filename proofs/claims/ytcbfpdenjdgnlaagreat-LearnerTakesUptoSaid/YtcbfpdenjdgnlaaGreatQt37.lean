/- Package cert: Check. No claim of its own; no condition. -/
import Derived.Test.YtcbfpdenjdgnlaaGreatQt36
import Derived.Test.YtcbfpdenjdgnlaaGreatQt20
namespace Go.Proofs.YtcbfpdenjdgnlaaGreat
open Go.ChangeShapes Go.WideShapes Go.ChangeAt Go.RowKit
set_option linter.unusedVariables false
set_option linter.unusedSimpArgs false
set_option maxHeartbeats 1600000 in
set_option maxRecDepth 100000 in
theorem check_nil (m : Mark) (A Ar : Option Addr) (c nr cr : Nat) (q : Int) (w : World) :
    Calls Tryz.prog 128 #[.agg #[.int .i64 m.view, .int .i64 m.height, .string m.block, .slice A 0 c], .slice Ar nr cr, .int .i64 q] w fun e w' => e = .returned (.int .i64 (if m = firstM then 0 else 41)) ∧ Below w.heap.size w w' := by
  have q0 := bl_alloc (Below.refl w.heap.size w) (.cells #[.int .i64 m.view, .int .i64 m.height, .string m.block, .slice A 0 c] 37)
  have a0 := alloc_new w (.cells #[.int .i64 m.view, .int .i64 m.height, .string m.block, .slice A 0 c] 37)
  obtain ⟨z, hz⟩ : ∃ z, z = firstM := ⟨_, rfl⟩
  have hfc : ∀ W, Calls Tryz.prog 194 #[] W fun e w' => e = .returned (.agg #[.int .i64 z.view, .int .i64 z.height, .string z.block, .slice none 0 0]) ∧ Below W.heap.size W w' := fun W => by rw [hz]; exact firstmark_calls W
  rw [← hz]
  have HFC := Lib.hid hfc
  clear hz hfc
  by_cases h : m = z
  · have hq : ∀ W, (binOp .eql 34 (.agg #[.int .i64 m.view, .int .i64 m.height, .string m.block]) (.agg #[.int .i64 z.view, .int .i64 z.height, .string z.block])).run Tryz.prog W = .ok (.bool true) W := fun W => by rw [eqlMark, decide_eq_true h]
    rw [if_pos h]
    clear h
    go_enter Tryz.func128, Tryz.ntmps128
    go_upto_region 1 with fail
    generalize w.alloc (.cells #[.int .i64 m.view, .int .i64 m.height, .string m.block, .slice A 0 c] 37) = W at *
    have r0 := block_cell a0 (i := 0) rfl
    have r1 := block_cell a0 (i := 1) rfl
    have r2 := block_cell a0 (i := 2) rfl
    have r3 := block_cell a0 (i := 3) rfl
    go_wp2_with (first
      | (go_at_call 194; refine (HFC.out _).mono ?_; rintro e w2 ⟨rfl, b2⟩)
      | (go_at_call_of 193 (Value.agg #[.int .i64 m.view, .int .i64 m.height, .string m.block, .slice A 0 c]); refine (cmark_calls m _ _ _ _).mono ?_; rintro e w1 ⟨rfl, b1⟩)
      | (go_at_call_of 193 (Value.agg #[.int .i64 z.view, .int .i64 z.height, .string z.block, .slice none 0 0]); refine (cmark_calls z _ _ _ _).mono ?_; rintro e w3 ⟨rfl, b3⟩))
    go_ret
    exact ⟨rfl, bl_trans q0 (bl_trans b1 (bl_trans b2 b3))⟩
  · have hq : ∀ W, (binOp .eql 34 (.agg #[.int .i64 m.view, .int .i64 m.height, .string m.block]) (.agg #[.int .i64 z.view, .int .i64 z.height, .string z.block])).run Tryz.prog W = .ok (.bool false) W := fun W => by rw [eqlMark, decide_eq_false h]
    rw [if_neg h]
    clear h
    by_cases hq1 : q < 1
    all_goals
      have hqn : ((0 : Int) != q) = true ∨ q < 1 := by
        rcases Int.lt_or_le q 1 with h | h
        · exact .inr h
        · left; rw [bne_iff_ne]; omega
      go_enter Tryz.func128, Tryz.ntmps128
      go_upto_region 1 with fail
      generalize w.alloc (.cells #[.int .i64 m.view, .int .i64 m.height, .string m.block, .slice A 0 c] 37) = W at *
      have r0 := block_cell a0 (i := 0) rfl
      have r1 := block_cell a0 (i := 1) rfl
      have r2 := block_cell a0 (i := 2) rfl
      have r3 := block_cell a0 (i := 3) rfl
      have hqd : q < 1 ∨ ((0 : Int) != q) = true := hqn.symm
      rcases hqd with hx | hx
      all_goals
        first
        | (exact absurd hx (by assumption))
        | (clear hqn
           go_wp2_with (first
            | (go_at_call 194; refine (HFC.out _).mono ?_; rintro e w2 ⟨rfl, b2⟩)
            | (go_at_call_of 193 (Value.agg #[.int .i64 m.view, .int .i64 m.height, .string m.block, .slice A 0 c]); refine (cmark_calls m _ _ _ _).mono ?_; rintro e w1 ⟨rfl, b1⟩)
            | (go_at_call_of 193 (Value.agg #[.int .i64 z.view, .int .i64 z.height, .string z.block, .slice none 0 0]); refine (cmark_calls z _ _ _ _).mono ?_; rintro e w3 ⟨rfl, b3⟩; have s3 := cell_below (bl_trans b1 (bl_trans b2 b3)) r3))
           go_ret
           exact ⟨rfl, bl_trans q0 (bl_trans b1 (bl_trans b2 b3))⟩)
def ckA (G V9 b8 i n' nr c cr : Nat) (ad : Addr) (Ar : Option Addr) (v : Vote) (ps : Int) (is_ q val : Bool) : Nat → Value → World → Prop
  | 0, y, _ => y = .func (.func 246) #[] #[.pointer (some ⟨b8, 0, none⟩)]
  | 1, y, _ => y = .agg (vcs v)
  | 2, y, _ => y = .bool false
  | 3, y, _ => y = .bool true
  | 4, y, _ => y = .bool true
  | 5, y, _ => y = undef
  | 6, y, _ => y = undef
  | 7, y, _ => y = undef
  | 8, y, _ => y = undef
  | 9, y, _ => y = undef
  | 10, y, _ => y = undef
  | 11, y, _ => y = undef
  | 12, y, _ => y = undef
  | 13, y, _ => y = undef
  | 14, y, _ => y = undef
  | 15, y, _ => y = undef
  | 16, y, _ => y = undef
  | 17, y, _ => y = undef
  | 18, y, _ => y = undef
  | 19, y, _ => y = .bool true
  | 20, y, _ => y = .bool true
  | 21, y, _ => y = undef
  | 22, y, _ => y = undef
  | 23, y, _ => y = undef
  | 24, y, _ => y = undef
  | 25, y, _ => y = .bool true
  | _, _, _ => True
def ckB (G V9 b8 i n' nr c cr : Nat) (ad : Addr) (Ar : Option Addr) (v : Vote) (ps : Int) (is_ q val : Bool) : Nat → Value → World → Prop
  | 0, y, _ => y = .func (.func 246) #[] #[.pointer (some ⟨b8, 0, none⟩)]
  | 1, y, _ => y = .agg (vcs v)
  | 2, y, _ => y = .bool true
  | 3, y, _ => y = .bool false
  | 4, y, _ => y = .bool false
  | 5, y, _ => y = .int .i64 (i : Nat)
  | 6, y, _ => y = .bool false
  | 7, y, _ => y = .bool false
  | 8, y, _ => y = undef
  | 9, y, _ => y = undef
  | 10, y, _ => y = undef
  | 11, y, _ => y = undef
  | 12, y, _ => y = undef
  | 13, y, _ => y = undef
  | 14, y, _ => y = undef
  | 15, y, _ => y = undef
  | 16, y, _ => y = undef
  | 17, y, _ => y = undef
  | 18, y, _ => y = .bool false
  | 19, y, _ => y = .bool false
  | 20, y, _ => y = .bool false
  | 21, y, _ => y = .agg (vcs v)
  | 22, y, _ => y = .slice Ar nr cr
  | 23, y, _ => y = .bool val
  | 24, y, _ => y = .bool (!val)
  | 25, y, _ => y = .bool (!val)
  | _, _, _ => True
def ckC (G V9 b8 i n' nr c cr : Nat) (ad : Addr) (Ar : Option Addr) (v : Vote) (ps : Int) (is_ q val : Bool) : Nat → Value → World → Prop
  | 0, y, _ => y = .func (.func 246) #[] #[.pointer (some ⟨b8, 0, none⟩)]
  | 1, y, _ => y = .agg (vcs v)
  | 2, y, _ => y = .bool true
  | 3, y, _ => y = .bool false
  | 4, y, _ => y = .bool false
  | 5, y, _ => y = .int .i64 (i : Nat)
  | 6, y, _ => y = .bool true
  | 7, y, _ => y = .bool true
  | 8, y, _ => y = .pointer (some ⟨G, 3, none⟩)
  | 9, y, _ => y = .slice (some ad) n' c
  | 10, y, _ => y = .int .i64 (i : Nat)
  | 11, y, _ => y = .int .i64 ((i - 1 : Nat) : Int)
  | 12, y, _ => y = .pointer (some (ad.add ((i - 1) * 7)))
  | 13, y, _ => y = .pointer (some ⟨(ad.add ((i - 1) * 7)).block, (ad.add ((i - 1) * 7)).off + 5, none⟩)
  | 14, y, _ => y = .int .i64 ps
  | 15, y, _ => y = .pointer (some ⟨V9, 5, none⟩)
  | 16, y, _ => y = .int .i64 v.signer
  | 17, y, _ => y = .bool true
  | 18, y, _ => y = .bool true
  | 19, y, _ => y = .bool true
  | 20, y, _ => y = .bool true
  | 21, y, _ => y = undef
  | 22, y, _ => y = undef
  | 23, y, _ => y = undef
  | 24, y, _ => y = undef
  | 25, y, _ => y = .bool true
  | _, _, _ => True
def ckD (G V9 b8 i n' nr c cr : Nat) (ad : Addr) (Ar : Option Addr) (v : Vote) (ps : Int) (is_ q val : Bool) : Nat → Value → World → Prop
  | 0, y, _ => y = .func (.func 246) #[] #[.pointer (some ⟨b8, 0, none⟩)]
  | 1, y, _ => y = .agg (vcs v)
  | 2, y, _ => y = .bool true
  | 3, y, _ => y = .bool false
  | 4, y, _ => y = .bool false
  | 5, y, _ => y = .int .i64 (i : Nat)
  | 6, y, _ => y = .bool true
  | 7, y, _ => y = .bool true
  | 8, y, _ => y = .pointer (some ⟨G, 3, none⟩)
  | 9, y, _ => y = .slice (some ad) n' c
  | 10, y, _ => y = .int .i64 (i : Nat)
  | 11, y, _ => y = .int .i64 ((i - 1 : Nat) : Int)
  | 12, y, _ => y = .pointer (some (ad.add ((i - 1) * 7)))
  | 13, y, _ => y = .pointer (some ⟨(ad.add ((i - 1) * 7)).block, (ad.add ((i - 1) * 7)).off + 5, none⟩)
  | 14, y, _ => y = .int .i64 ps
  | 15, y, _ => y = .pointer (some ⟨V9, 5, none⟩)
  | 16, y, _ => y = .int .i64 v.signer
  | 17, y, _ => y = .bool false
  | 18, y, _ => y = .bool false
  | 19, y, _ => y = .bool false
  | 20, y, _ => y = .bool false
  | 21, y, _ => y = .agg (vcs v)
  | 22, y, _ => y = .slice Ar nr cr
  | 23, y, _ => y = .bool val
  | 24, y, _ => y = .bool (!val)
  | 25, y, _ => y = .bool (!val)
  | _, _, _ => True
set_option maxHeartbeats 64000000 in
set_option maxRecDepth 100000 in
theorem check_cons (m : Mark) (l : List Vote) (roots : List ByteArray) (q : Int) (A Ar : Option Addr) (n nr c cr B : Nat) (w : World) (hn : n = l.length) (hnr : nr = roots.length) (hl : l.length ≤ 1048576) (h0 : l.length ≠ 0) (hlr : roots.length ≤ 1048576)
    (hr : kVote.Row 52 B w A l) (hrr : Kd.str.Row 9 B w Ar roots) :
    Calls Tryz.prog 128 #[.agg #[.int .i64 m.view, .int .i64 m.height, .string m.block, .slice A n c], .slice Ar nr cr, .int .i64 q] w fun e w' => e = .returned (.int .i64 (chkC m l roots q)) ∧ Below w.heap.size w w' := by
  subst hn hnr
  have q0 := bl_alloc (Below.refl w.heap.size w) (.cells #[.int .i64 m.view, .int .i64 m.height, .string m.block, .slice A l.length c] 37)
  have a0 := alloc_new w (.cells #[.int .i64 m.view, .int .i64 m.height, .string m.block, .slice A l.length c] 37)
  have hn0 : ((l.length : Int) == 0) = false := by rw [beq_eq_false_iff_ne]; omega
  by_cases hq : q < 1
  · have hc : chkC m l roots q = 41 := by unfold chkC; rw [if_neg h0, if_pos (.inl hq)]
    rw [hc]
    clear hc
    go_enter Tryz.func128, Tryz.ntmps128
    go_upto_region 1 with fail
    generalize w.alloc (.cells #[.int .i64 m.view, .int .i64 m.height, .string m.block, .slice A l.length c] 37) = W at *
    have r3 := block_cell a0 (i := 3) rfl
    go_wp2_with fail
    go_ret
    exact ⟨rfl, q0⟩
  · by_cases hlq : (l.length : Int) = q
    case neg =>
      have hc : chkC m l roots q = 41 := by unfold chkC; rw [if_neg h0, if_pos (.inr hlq)]
      have hb : ((l.length : Int) != q) = true := by rw [bne_iff_ne]; exact hlq
      rw [hc]
      clear hc hlq
      go_enter Tryz.func128, Tryz.ntmps128
      go_upto_region 1 with fail
      generalize w.alloc (.cells #[.int .i64 m.view, .int .i64 m.height, .string m.block, .slice A l.length c] 37) = W at *
      have r3 := block_cell a0 (i := 3) rfl
      go_wp2_with fail
      go_ret
      exact ⟨rfl, q0⟩
    case pos =>
      have hc : chkC m l roots q = if allOk m roots l l.length = true then 0 else 41 := by unfold chkC; rw [if_neg h0, if_neg (by omega)]
      have hb : ((l.length : Int) != q) = false := by rw [bne_eq_false_iff_eq]; exact hlq
      rw [hc]
      obtain ⟨res, hres⟩ : ∃ r : Int, (if allOk m roots l l.length = true then 0 else 41) = r := ⟨_, rfl⟩
      rw [hres]
      have HRES := Lib.hid hres
      clear hres
      have hrq : kVote.Row 52 B _ A l := Kd.row_below q0 hr
      have hrrq : Kd.str.Row 9 B _ Ar roots := Kd.row_below q0 hrr
      clear hc hlq hr hrr
      go_enter Tryz.func128, Tryz.ntmps128
      go_upto_region 1 with fail
      obtain ⟨G, hG⟩ : ∃ G, w.heap.size = G := ⟨_, rfl⟩
      have HG := Lib.hid hG
      generalize w.alloc (.cells #[.int .i64 m.view, .int .i64 m.height, .string m.block, .slice A l.length c] 37) = W at *
      simp only [hG] at a0 ⊢
      clear hG
      have r0 := block_cell a0 (i := 0) rfl
      have r1 := block_cell a0 (i := 1) rfl
      have r2 := block_cell a0 (i := 2) rfl
      have r3 := block_cell a0 (i := 3) rfl
      go_upto_region 6 with (first
        | (go_at_call 195; refine (about54_calls m _).mono ?_; rintro e w2 ⟨rfl, rfl⟩)
        | (go_at_call 193; refine (cmark_calls m _ _ _ _).mono ?_; rintro e w1 ⟨rfl, b1⟩))
      have bA := bl_alloc (Below.refl w1.heap.size w1) (.cells #[.int .i64 m.view, .int .i64 m.height, .string m.block] 34)
      have hb8 := alloc_new w1 (.cells #[.int .i64 m.view, .int .i64 m.height, .string m.block] 34)
      have b2 := bl_trans b1 bA
      have g2 := block_below b2 a0
      have row2 := Kd.row_below b2 hrq
      have rrow2 := Kd.row_below b2 hrrq
      have bel2 := bl_trans q0 b2
      clear r0 r1 r2 r3 a0 hrq hrrq b1 bA b2 q0
      obtain ⟨b8, hB8⟩ : ∃ b8, w1.heap.size = b8 := ⟨_, rfl⟩
      generalize w1.alloc (.cells #[.int .i64 m.view, .int .i64 m.height, .string m.block] 34) = W2 at *
      simp only [hB8] at hb8 ⊢
      clear hB8
      have r3 := block_cell g2 (i := 3) rfl
      go_wp2_with fail
      clear r3
      go_loopw [36] (fun kv w' => ∃ i : Nat, i ≤ l.length ∧ kv = .int .i64 i ∧ allOk m roots l i = true ∧ Below W2.heap.size W2 w') (fun kv _ => l.length - (intOf kv).toNat)
      case atStart => exact ⟨0, by omega, rfl, rfl, Below.refl _ _⟩
      case round =>
        obtain ⟨i, hk, rfl, hok, bel⟩ := hrel
        have B3 := bl_trans bel2 bel
        by_cases h : i < l.length
        case neg =>
          obtain rfl : i = l.length := by omega
          have hnI : ¬ ((l.length : Int) < (l.length : Int)) := by omega
          have HOK := Lib.hid hok
          clear hok
          go_wp2_with fail
          go_ret
          exact ⟨by rw [← HRES.out, if_pos HOK.out]; rfl, B3⟩
        case pos =>
          obtain ⟨v, hv⟩ : ∃ v, l[i]? = some v := ⟨_, List.getElem?_eq_getElem h⟩
          have row3 := Kd.row_below bel row2
          obtain ⟨ad, rfl, e0, e1, e2, e3, e4, e5, e6, g0, g1, g2', g3, g4, g5, g6⟩ := kVote_at row3 hv
          have hsz : v.sig.size ≤ 140737488351232 := g6
          obtain ⟨val, hval⟩ : ∃ b, validV v roots = b := ⟨_, rfl⟩
          have hvl := fun (W : World) (hx : Kd.str.Row 9 B W Ar roots) => vvalid_calls v roots Ar roots.length cr B W rfl hx hsz hlr
          rw [hval] at hvl
          have HVAL := Lib.hid hvl
          have hst : okAt m roots l i = (isW m v && (!prevGe l i v && val)) := by unfold okAt; rw [hv, ← hval]
          have hsucc := allOk_succ m roots l i
          rw [hok, Bool.true_and, hst] at hsucc
          have HS := Lib.hid hsucc
          have hno : (isW m v && (!prevGe l i v && val)) = false → allOk m roots l l.length = false := fun hf => by
            cases hx : allOk m roots l l.length with
            | false => rfl
            | true =>
              have := allOk_le (Nat.succ_le_of_lt h) hx
              rw [hsucc, hf] at this
              cases this
          have HNO := Lib.hid hno
          have hkI : (i : Int) < (l.length : Int) := by omega
          have hk0 : (0 : Int) ≤ (i : Int) := by omega
          have bt := bl_alloc (Below.refl wr.heap.size wr) (.cells (vcs v) 52)
          have bb : (wr.alloc (.cells (vcs v) 52)).heap[wr.heap.size]? = some (.cells (vcs v) 52 (0, 0)) := alloc_new wr _
          have B4 : Below w.heap.size w (wr.alloc (.cells (vcs v) 52)) := bl_trans B3 bt
          have belt := bl_trans bel bt
          have HB8 := Lib.hid (block_below belt hb8)
          have HG9 := Lib.hid (block_below belt g2)
          have HROW := Lib.hid (Kd.row_below belt rrow2)
          have rowt := Kd.row_below bt row3
          obtain ⟨isv, hisv⟩ : ∃ b, isW m v = b := ⟨_, rfl⟩
          have his := fun (W : World) (hx : W.heap[b8]? = some (.cells #[.int .i64 m.view, .int .i64 m.height, .string m.block] 34 (0, 0))) => isabout_calls v m b8 W (block_cell hx (i := 0) rfl) (block_cell hx (i := 1) rfl) (block_cell hx (i := 2) rfl)
          rw [hisv] at his HS HNO
          have HIS := Lib.hid his
          clear hvl hval hst hsucc hok hno his g0 g1 g2' g3 g4 g5 g6 hsz
          go_upto_region 9 with fail
          change Code.wp _ _ _ _ (wr.alloc (.cells (vcs v) 52))
          obtain ⟨V9, hV9⟩ : ∃ V9, wr.heap.size = V9 := ⟨_, rfl⟩
          generalize wr.alloc (.cells (vcs v) 52) = V at *
          simp only [hV9] at bb ⊢
          have HV9 := Lib.hid bb
          clear hV9 bb e0 e1 e2 e3 e4 e5 e6 bt
          cases isv
          case false =>
            have ps : Int := 0
            refine wp_region_invA (by kernel_rfl) (by kernel_rfl) Rb (ckA G V9 b8 i l.length roots.length c cr ad Ar v ps false false val) rb_refl rb_trans ⟨?_, ?_, ?_, ?_, ?_, ?_, ?_, ?_, ?_, ?_, ?_, ?_, ?_, ?_, ?_, ?_, ?_, ?_, ?_, ?_, ?_, ?_, ?_, ?_, ?_, ?_, trivial⟩ ?_
            · intro A u hN hO w1 hR hdep K hK
              rw [if_pos (by rfl)]
              have y7 : A.tmps[7]? = some (.func (.func 246) #[] #[.pointer (some ⟨b8, 0, none⟩)]) := hO 7 _ rfl rfl
              clear hN hO hdep
              go_simp
              refine hK _ _ (rb_refl _) fun w3 h3 => ?_
              exact rfl
            · intro A u hN hO w1 hR hdep K hK
              rw [if_pos (by rfl)]
              have y9 : A.tmps[9]? = some (.pointer (some ⟨V9, 0, none⟩)) := hO 9 _ rfl rfl
              clear hN hO hdep
              obtain ⟨r0, r1, r2, r3, r4, r5, r6⟩ := vcells (block_below hR HV9.out)
              go_simp
              refine hK _ _ (rb_refl _) fun w3 h3 => ?_
              exact rfl
            · intro A u hN hO w1 hR hdep K hK
              rw [if_pos (by rfl)]
              have x0 : A.tmps[41]? = some (u 0) := hN 0 _ 41 rfl rfl rfl
              rw [show u 0 = .func (.func 246) #[] #[.pointer (some ⟨b8, 0, none⟩)] from hdep 0 (by kernel_rfl) w1 (rb_refl _)] at x0
              have x1 : A.tmps[42]? = some (u 1) := hN 1 _ 42 rfl rfl rfl
              rw [show u 1 = .agg (vcs v) from hdep 1 (by kernel_rfl) w1 (rb_refl _)] at x1
              clear hN hO hdep
              go_simp
              refine ((HIS.out w1 (block_below hR HB8.out))).mono ?_
              rintro x w2 ⟨rfl, b2⟩
              refine hK _ _ b2 fun w3 h3 => ?_
              exact rfl
            · intro A u hN hO w1 hR hdep K hK
              rw [if_pos (by rfl)]
              have x2 : A.tmps[43]? = some (u 2) := hN 2 _ 43 rfl rfl rfl
              rw [show u 2 = .bool false from hdep 2 (by kernel_rfl) w1 (rb_refl _)] at x2
              clear hN hO hdep
              go_simp
              refine hK _ _ (rb_refl _) fun w3 h3 => ?_
              exact rfl
            · intro A u hN hO w1 hR hdep K hK
              rw [if_pos (by rfl)]
              have x3 : A.tmps[44]? = some (u 3) := hN 3 _ 44 rfl rfl rfl
              rw [show u 3 = .bool true from hdep 3 (by kernel_rfl) w1 (rb_refl _)] at x3
              clear hN hO hdep
              go_simp
              refine hK _ _ (rb_refl _) fun w3 h3 => ?_
              exact rfl
            · intro A u hN hO w1 hR hdep K hK
              have gx : A.tmps[45]? = some (u 4) := hN 4 _ 45 rfl rfl rfl
              rw [show u 4 = .bool true from hdep 4 (by kernel_rfl) w1 (rb_refl _)] at gx
              rw [if_neg (wanted_off (s := 45) rfl (by kernel_rfl) gx (by decide))]
              exact hK _ _ (rb_refl _) fun w3 h3 => rfl
            · intro A u hN hO w1 hR hdep K hK
              have gx : A.tmps[45]? = some (u 4) := hN 4 _ 45 rfl rfl rfl
              rw [show u 4 = .bool true from hdep 4 (by kernel_rfl) w1 (rb_refl _)] at gx
              rw [if_neg (wanted_off (s := 45) rfl (by kernel_rfl) gx (by decide))]
              exact hK _ _ (rb_refl _) fun w3 h3 => rfl
            · intro A u hN hO w1 hR hdep K hK
              have gx : A.tmps[45]? = some (u 4) := hN 4 _ 45 rfl rfl rfl
              rw [show u 4 = .bool true from hdep 4 (by kernel_rfl) w1 (rb_refl _)] at gx
              rw [if_neg (wanted_off (s := 45) rfl (by kernel_rfl) gx (by decide))]
              exact hK _ _ (rb_refl _) fun w3 h3 => rfl
            · intro A u hN hO w1 hR hdep K hK
              have gx : A.tmps[48]? = some (u 7) := hN 7 _ 48 rfl rfl rfl
              rw [show u 7 = undef from hdep 7 (by kernel_rfl) w1 (rb_refl _)] at gx
              rw [if_neg (wanted_undef (s := 48) rfl (by kernel_rfl) gx)]
              exact hK _ _ (rb_refl _) fun w3 h3 => rfl
            · intro A u hN hO w1 hR hdep K hK
              have gx : A.tmps[48]? = some (u 7) := hN 7 _ 48 rfl rfl rfl
              rw [show u 7 = undef from hdep 7 (by kernel_rfl) w1 (rb_refl _)] at gx
              rw [if_neg (wanted_undef (s := 48) rfl (by kernel_rfl) gx)]
              exact hK _ _ (rb_refl _) fun w3 h3 => rfl
            · intro A u hN hO w1 hR hdep K hK
              have gx : A.tmps[48]? = some (u 7) := hN 7 _ 48 rfl rfl rfl
              rw [show u 7 = undef from hdep 7 (by kernel_rfl) w1 (rb_refl _)] at gx
              rw [if_neg (wanted_undef (s := 48) rfl (by kernel_rfl) gx)]
              exact hK _ _ (rb_refl _) fun w3 h3 => rfl
            · intro A u hN hO w1 hR hdep K hK
              have gx : A.tmps[48]? = some (u 7) := hN 7 _ 48 rfl rfl rfl
              rw [show u 7 = undef from hdep 7 (by kernel_rfl) w1 (rb_refl _)] at gx
              rw [if_neg (wanted_undef (s := 48) rfl (by kernel_rfl) gx)]
              exact hK _ _ (rb_refl _) fun w3 h3 => rfl
            · intro A u hN hO w1 hR hdep K hK
              have gx : A.tmps[48]? = some (u 7) := hN 7 _ 48 rfl rfl rfl
              rw [show u 7 = undef from hdep 7 (by kernel_rfl) w1 (rb_refl _)] at gx
              rw [if_neg (wanted_undef (s := 48) rfl (by kernel_rfl) gx)]
              exact hK _ _ (rb_refl _) fun w3 h3 => rfl
            · intro A u hN hO w1 hR hdep K hK
              have gx : A.tmps[48]? = some (u 7) := hN 7 _ 48 rfl rfl rfl
              rw [show u 7 = undef from hdep 7 (by kernel_rfl) w1 (rb_refl _)] at gx
              rw [if_neg (wanted_undef (s := 48) rfl (by kernel_rfl) gx)]
              exact hK _ _ (rb_refl _) fun w3 h3 => rfl
            · intro A u hN hO w1 hR hdep K hK
              have gx : A.tmps[48]? = some (u 7) := hN 7 _ 48 rfl rfl rfl
              rw [show u 7 = undef from hdep 7 (by kernel_rfl) w1 (rb_refl _)] at gx
              rw [if_neg (wanted_undef (s := 48) rfl (by kernel_rfl) gx)]
              exact hK _ _ (rb_refl _) fun w3 h3 => rfl
            · intro A u hN hO w1 hR hdep K hK
              have gx : A.tmps[48]? = some (u 7) := hN 7 _ 48 rfl rfl rfl
              rw [show u 7 = undef from hdep 7 (by kernel_rfl) w1 (rb_refl _)] at gx
              rw [if_neg (wanted_undef (s := 48) rfl (by kernel_rfl) gx)]
              exact hK _ _ (rb_refl _) fun w3 h3 => rfl
            · intro A u hN hO w1 hR hdep K hK
              have gx : A.tmps[48]? = some (u 7) := hN 7 _ 48 rfl rfl rfl
              rw [show u 7 = undef from hdep 7 (by kernel_rfl) w1 (rb_refl _)] at gx
              rw [if_neg (wanted_undef (s := 48) rfl (by kernel_rfl) gx)]
              exact hK _ _ (rb_refl _) fun w3 h3 => rfl
            · intro A u hN hO w1 hR hdep K hK
              have gx : A.tmps[48]? = some (u 7) := hN 7 _ 48 rfl rfl rfl
              rw [show u 7 = undef from hdep 7 (by kernel_rfl) w1 (rb_refl _)] at gx
              rw [if_neg (wanted_undef (s := 48) rfl (by kernel_rfl) gx)]
              exact hK _ _ (rb_refl _) fun w3 h3 => rfl
            · intro A u hN hO w1 hR hdep K hK
              have gx : A.tmps[45]? = some (u 4) := hN 4 _ 45 rfl rfl rfl
              rw [show u 4 = .bool true from hdep 4 (by kernel_rfl) w1 (rb_refl _)] at gx
              rw [if_neg (wanted_off (s := 45) rfl (by kernel_rfl) gx (by decide))]
              exact hK _ _ (rb_refl _) fun w3 h3 => rfl
            · intro A u hN hO w1 hR hdep K hK
              rw [if_pos (by rfl)]
              have x4 : A.tmps[45]? = some (u 4) := hN 4 _ 45 rfl rfl rfl
              rw [show u 4 = .bool true from hdep 4 (by kernel_rfl) w1 (rb_refl _)] at x4
              have x18 : A.tmps[59]? = some (u 18) := hN 18 _ 59 rfl rfl rfl
              rw [show u 18 = undef from hdep 18 (by kernel_rfl) w1 (rb_refl _)] at x18
              clear hN hO hdep
              go_simp
              refine hK _ _ (rb_refl _) fun w3 h3 => ?_
              exact rfl
            · intro A u hN hO w1 hR hdep K hK
              rw [if_pos (by rfl)]
              have x19 : A.tmps[60]? = some (u 19) := hN 19 _ 60 rfl rfl rfl
              rw [show u 19 = .bool true from hdep 19 (by kernel_rfl) w1 (rb_refl _)] at x19
              clear hN hO hdep
              go_simp
              refine hK _ _ (rb_refl _) fun w3 h3 => ?_
              exact rfl
            · intro A u hN hO w1 hR hdep K hK
              have gx : A.tmps[61]? = some (u 20) := hN 20 _ 61 rfl rfl rfl
              rw [show u 20 = .bool true from hdep 20 (by kernel_rfl) w1 (rb_refl _)] at gx
              rw [if_neg (wanted_off (s := 61) rfl (by kernel_rfl) gx (by decide))]
              exact hK _ _ (rb_refl _) fun w3 h3 => rfl
            · intro A u hN hO w1 hR hdep K hK
              have gx : A.tmps[61]? = some (u 20) := hN 20 _ 61 rfl rfl rfl
              rw [show u 20 = .bool true from hdep 20 (by kernel_rfl) w1 (rb_refl _)] at gx
              rw [if_neg (wanted_off (s := 61) rfl (by kernel_rfl) gx (by decide))]
              exact hK _ _ (rb_refl _) fun w3 h3 => rfl
            · intro A u hN hO w1 hR hdep K hK
              have gx : A.tmps[61]? = some (u 20) := hN 20 _ 61 rfl rfl rfl
              rw [show u 20 = .bool true from hdep 20 (by kernel_rfl) w1 (rb_refl _)] at gx
              rw [if_neg (wanted_off (s := 61) rfl (by kernel_rfl) gx (by decide))]
              exact hK _ _ (rb_refl _) fun w3 h3 => rfl
            · intro A u hN hO w1 hR hdep K hK
              have gx : A.tmps[61]? = some (u 20) := hN 20 _ 61 rfl rfl rfl
              rw [show u 20 = .bool true from hdep 20 (by kernel_rfl) w1 (rb_refl _)] at gx
              rw [if_neg (wanted_off (s := 61) rfl (by kernel_rfl) gx (by decide))]
              exact hK _ _ (rb_refl _) fun w3 h3 => rfl
            · intro A u hN hO w1 hR hdep K hK
              rw [if_pos (by rfl)]
              have x20 : A.tmps[61]? = some (u 20) := hN 20 _ 61 rfl rfl rfl
              rw [show u 20 = .bool true from hdep 20 (by kernel_rfl) w1 (rb_refl _)] at x20
              have x24 : A.tmps[65]? = some (u 24) := hN 24 _ 65 rfl rfl rfl
              rw [show u 24 = undef from hdep 24 (by kernel_rfl) w1 (rb_refl _)] at x24
              clear hN hO hdep
              go_simp
              refine hK _ _ (rb_refl _) fun w3 h3 => ?_
              exact rfl
            · intro u w' hR hall
              have h25 : u 25 = .bool true := hall 25 (by decide)
              have bw' := bl_trans (bl_drew B4) hR
              have hf := HNO.out (by simp)
              have HF := Lib.hid hf
              clear hall hf
              simp only [frameF, Act.put, List.setIfInBounds_toArray, List.set_cons_zero, List.set_cons_succ, Nat.reduceAdd, h25]
              clear h25
              go_wp2_with fail
              go_ret
              exact ⟨by rw [← HRES.out, HF.out]; rfl, bw'⟩
          case true =>
            rcases Nat.eq_zero_or_pos i with hi0 | hip
            · have hpg : prevGe l i v = false := by rw [hi0]; rfl
              rw [hpg] at HS HNO
              have HP := Lib.hid (show ¬ ((0 : Int) < (i : Int)) by omega)
              have HPN := Lib.hid (show ¬ (0 < i) by omega)
              have ps : Int := 0
              clear hpg hi0 hk0 hkI rowt row3
              refine wp_region_invA (by kernel_rfl) (by kernel_rfl) Rb (ckB G V9 b8 i l.length roots.length c cr ad Ar v ps true false val) rb_refl rb_trans ⟨?_, ?_, ?_, ?_, ?_, ?_, ?_, ?_, ?_, ?_, ?_, ?_, ?_, ?_, ?_, ?_, ?_, ?_, ?_, ?_, ?_, ?_, ?_, ?_, ?_, ?_, trivial⟩ ?_
              · intro A u hN hO w1 hR hdep K hK
                rw [if_pos (by rfl)]
                have y7 : A.tmps[7]? = some (.func (.func 246) #[] #[.pointer (some ⟨b8, 0, none⟩)]) := hO 7 _ rfl rfl
                clear hN hO hdep
                go_simp
                refine hK _ _ (rb_refl _) fun w3 h3 => ?_
                exact rfl
              · intro A u hN hO w1 hR hdep K hK
                rw [if_pos (by rfl)]
                have y9 : A.tmps[9]? = some (.pointer (some ⟨V9, 0, none⟩)) := hO 9 _ rfl rfl
                clear hN hO hdep
                obtain ⟨r0, r1, r2, r3, r4, r5, r6⟩ := vcells (block_below hR HV9.out)
                go_simp
                refine hK _ _ (rb_refl _) fun w3 h3 => ?_
                exact rfl
              · intro A u hN hO w1 hR hdep K hK
                rw [if_pos (by rfl)]
                have x0 : A.tmps[41]? = some (u 0) := hN 0 _ 41 rfl rfl rfl
                rw [show u 0 = .func (.func 246) #[] #[.pointer (some ⟨b8, 0, none⟩)] from hdep 0 (by kernel_rfl) w1 (rb_refl _)] at x0
                have x1 : A.tmps[42]? = some (u 1) := hN 1 _ 42 rfl rfl rfl
                rw [show u 1 = .agg (vcs v) from hdep 1 (by kernel_rfl) w1 (rb_refl _)] at x1
                clear hN hO hdep
                go_simp
                refine ((HIS.out w1 (block_below hR HB8.out))).mono ?_
                rintro x w2 ⟨rfl, b2⟩
                refine hK _ _ b2 fun w3 h3 => ?_
                exact rfl
              · intro A u hN hO w1 hR hdep K hK
                rw [if_pos (by rfl)]
                have x2 : A.tmps[43]? = some (u 2) := hN 2 _ 43 rfl rfl rfl
                rw [show u 2 = .bool true from hdep 2 (by kernel_rfl) w1 (rb_refl _)] at x2
                clear hN hO hdep
                go_simp
                refine hK _ _ (rb_refl _) fun w3 h3 => ?_
                exact rfl
              · intro A u hN hO w1 hR hdep K hK
                rw [if_pos (by rfl)]
                have x3 : A.tmps[44]? = some (u 3) := hN 3 _ 44 rfl rfl rfl
                rw [show u 3 = .bool false from hdep 3 (by kernel_rfl) w1 (rb_refl _)] at x3
                clear hN hO hdep
                go_simp
                refine hK _ _ (rb_refl _) fun w3 h3 => ?_
                exact rfl
              · intro A u hN hO w1 hR hdep K hK
                have gx : A.tmps[45]? = some (u 4) := hN 4 _ 45 rfl rfl rfl
                rw [show u 4 = .bool false from hdep 4 (by kernel_rfl) w1 (rb_refl _)] at gx
                rw [if_pos (wanted_on (s := 45) rfl (by kernel_rfl) gx)]
                have y8 : A.tmps[8]? = some (.int .i64 (i : Nat)) := hO 8 _ rfl rfl
                clear hN hO hdep gx
                go_simp
                refine hK _ _ (rb_refl _) fun w3 h3 => ?_
                exact rfl
              · intro A u hN hO w1 hR hdep K hK
                have gx : A.tmps[45]? = some (u 4) := hN 4 _ 45 rfl rfl rfl
                rw [show u 4 = .bool false from hdep 4 (by kernel_rfl) w1 (rb_refl _)] at gx
                rw [if_pos (wanted_on (s := 45) rfl (by kernel_rfl) gx)]
                have x5 : A.tmps[46]? = some (u 5) := hN 5 _ 46 rfl rfl rfl
                rw [show u 5 = .int .i64 (i : Nat) from hdep 5 (by kernel_rfl) w1 (rb_refl _)] at x5
                clear hN hO hdep gx
                have hp := HP.out
                have hpn := HPN.out
                go_simp
                refine hK _ _ (rb_refl _) fun w3 h3 => ?_
                exact rfl
              · intro A u hN hO w1 hR hdep K hK
                have gx : A.tmps[45]? = some (u 4) := hN 4 _ 45 rfl rfl rfl
                rw [show u 4 = .bool false from hdep 4 (by kernel_rfl) w1 (rb_refl _)] at gx
                rw [if_pos (wanted_on (s := 45) rfl (by kernel_rfl) gx)]
                have x6 : A.tmps[47]? = some (u 6) := hN 6 _ 47 rfl rfl rfl
                rw [show u 6 = .bool false from hdep 6 (by kernel_rfl) w1 (rb_refl _)] at x6
                clear hN hO hdep gx
                go_simp
                refine hK _ _ (rb_refl _) fun w3 h3 => ?_
                exact rfl
              · intro A u hN hO w1 hR hdep K hK
                have gx : A.tmps[48]? = some (u 7) := hN 7 _ 48 rfl rfl rfl
                rw [show u 7 = .bool false from hdep 7 (by kernel_rfl) w1 (rb_refl _)] at gx
                rw [if_neg (wanted_off (s := 48) rfl (by kernel_rfl) gx (by decide))]
                exact hK _ _ (rb_refl _) fun w3 h3 => rfl
              · intro A u hN hO w1 hR hdep K hK
                have gx : A.tmps[48]? = some (u 7) := hN 7 _ 48 rfl rfl rfl
                rw [show u 7 = .bool false from hdep 7 (by kernel_rfl) w1 (rb_refl _)] at gx
                rw [if_neg (wanted_off (s := 48) rfl (by kernel_rfl) gx (by decide))]
                exact hK _ _ (rb_refl _) fun w3 h3 => rfl
              · intro A u hN hO w1 hR hdep K hK
                have gx : A.tmps[48]? = some (u 7) := hN 7 _ 48 rfl rfl rfl
                rw [show u 7 = .bool false from hdep 7 (by kernel_rfl) w1 (rb_refl _)] at gx
                rw [if_neg (wanted_off (s := 48) rfl (by kernel_rfl) gx (by decide))]
                exact hK _ _ (rb_refl _) fun w3 h3 => rfl
              · intro A u hN hO w1 hR hdep K hK
                have gx : A.tmps[48]? = some (u 7) := hN 7 _ 48 rfl rfl rfl
                rw [show u 7 = .bool false from hdep 7 (by kernel_rfl) w1 (rb_refl _)] at gx
                rw [if_neg (wanted_off (s := 48) rfl (by kernel_rfl) gx (by decide))]
                exact hK _ _ (rb_refl _) fun w3 h3 => rfl
              · intro A u hN hO w1 hR hdep K hK
                have gx : A.tmps[48]? = some (u 7) := hN 7 _ 48 rfl rfl rfl
                rw [show u 7 = .bool false from hdep 7 (by kernel_rfl) w1 (rb_refl _)] at gx
                rw [if_neg (wanted_off (s := 48) rfl (by kernel_rfl) gx (by decide))]
                exact hK _ _ (rb_refl _) fun w3 h3 => rfl
              · intro A u hN hO w1 hR hdep K hK
                have gx : A.tmps[48]? = some (u 7) := hN 7 _ 48 rfl rfl rfl
                rw [show u 7 = .bool false from hdep 7 (by kernel_rfl) w1 (rb_refl _)] at gx
                rw [if_neg (wanted_off (s := 48) rfl (by kernel_rfl) gx (by decide))]
                exact hK _ _ (rb_refl _) fun w3 h3 => rfl
              · intro A u hN hO w1 hR hdep K hK
                have gx : A.tmps[48]? = some (u 7) := hN 7 _ 48 rfl rfl rfl
                rw [show u 7 = .bool false from hdep 7 (by kernel_rfl) w1 (rb_refl _)] at gx
                rw [if_neg (wanted_off (s := 48) rfl (by kernel_rfl) gx (by decide))]
                exact hK _ _ (rb_refl _) fun w3 h3 => rfl
              · intro A u hN hO w1 hR hdep K hK
                have gx : A.tmps[48]? = some (u 7) := hN 7 _ 48 rfl rfl rfl
                rw [show u 7 = .bool false from hdep 7 (by kernel_rfl) w1 (rb_refl _)] at gx
                rw [if_neg (wanted_off (s := 48) rfl (by kernel_rfl) gx (by decide))]
                exact hK _ _ (rb_refl _) fun w3 h3 => rfl
              · intro A u hN hO w1 hR hdep K hK
                have gx : A.tmps[48]? = some (u 7) := hN 7 _ 48 rfl rfl rfl
                rw [show u 7 = .bool false from hdep 7 (by kernel_rfl) w1 (rb_refl _)] at gx
                rw [if_neg (wanted_off (s := 48) rfl (by kernel_rfl) gx (by decide))]
                exact hK _ _ (rb_refl _) fun w3 h3 => rfl
              · intro A u hN hO w1 hR hdep K hK
                have gx : A.tmps[48]? = some (u 7) := hN 7 _ 48 rfl rfl rfl
                rw [show u 7 = .bool false from hdep 7 (by kernel_rfl) w1 (rb_refl _)] at gx
                rw [if_neg (wanted_off (s := 48) rfl (by kernel_rfl) gx (by decide))]
                exact hK _ _ (rb_refl _) fun w3 h3 => rfl
              · intro A u hN hO w1 hR hdep K hK
                have gx : A.tmps[45]? = some (u 4) := hN 4 _ 45 rfl rfl rfl
                rw [show u 4 = .bool false from hdep 4 (by kernel_rfl) w1 (rb_refl _)] at gx
                rw [if_pos (wanted_on (s := 45) rfl (by kernel_rfl) gx)]
                have x7 : A.tmps[48]? = some (u 7) := hN 7 _ 48 rfl rfl rfl
                rw [show u 7 = .bool false from hdep 7 (by kernel_rfl) w1 (rb_refl _)] at x7
                have x17 : A.tmps[58]? = some (u 17) := hN 17 _ 58 rfl rfl rfl
                rw [show u 17 = undef from hdep 17 (by kernel_rfl) w1 (rb_refl _)] at x17
                clear hN hO hdep gx
                go_simp
                refine hK _ _ (rb_refl _) fun w3 h3 => ?_
                exact rfl
              · intro A u hN hO w1 hR hdep K hK
                rw [if_pos (by rfl)]
                have x4 : A.tmps[45]? = some (u 4) := hN 4 _ 45 rfl rfl rfl
                rw [show u 4 = .bool false from hdep 4 (by kernel_rfl) w1 (rb_refl _)] at x4
                have x18 : A.tmps[59]? = some (u 18) := hN 18 _ 59 rfl rfl rfl
                rw [show u 18 = .bool false from hdep 18 (by kernel_rfl) w1 (rb_refl _)] at x18
                clear hN hO hdep
                go_simp
                refine hK _ _ (rb_refl _) fun w3 h3 => ?_
                exact rfl
              · intro A u hN hO w1 hR hdep K hK
                rw [if_pos (by rfl)]
                have x19 : A.tmps[60]? = some (u 19) := hN 19 _ 60 rfl rfl rfl
                rw [show u 19 = .bool false from hdep 19 (by kernel_rfl) w1 (rb_refl _)] at x19
                clear hN hO hdep
                go_simp
                refine hK _ _ (rb_refl _) fun w3 h3 => ?_
                exact rfl
              · intro A u hN hO w1 hR hdep K hK
                have gx : A.tmps[61]? = some (u 20) := hN 20 _ 61 rfl rfl rfl
                rw [show u 20 = .bool false from hdep 20 (by kernel_rfl) w1 (rb_refl _)] at gx
                rw [if_pos (wanted_on (s := 61) rfl (by kernel_rfl) gx)]
                have y9 : A.tmps[9]? = some (.pointer (some ⟨V9, 0, none⟩)) := hO 9 _ rfl rfl
                clear hN hO hdep gx
                obtain ⟨r0, r1, r2, r3, r4, r5, r6⟩ := vcells (block_below hR HV9.out)
                go_simp
                refine hK _ _ (rb_refl _) fun w3 h3 => ?_
                exact rfl
              · intro A u hN hO w1 hR hdep K hK
                have gx : A.tmps[61]? = some (u 20) := hN 20 _ 61 rfl rfl rfl
                rw [show u 20 = .bool false from hdep 20 (by kernel_rfl) w1 (rb_refl _)] at gx
                rw [if_pos (wanted_on (s := 61) rfl (by kernel_rfl) gx)]
                have y1 : A.tmps[1]? = some (.slice Ar roots.length cr) := hO 1 _ rfl rfl
                clear hN hO hdep gx
                go_simp
                refine hK _ _ (rb_refl _) fun w3 h3 => ?_
                exact rfl
              · intro A u hN hO w1 hR hdep K hK
                have gx : A.tmps[61]? = some (u 20) := hN 20 _ 61 rfl rfl rfl
                rw [show u 20 = .bool false from hdep 20 (by kernel_rfl) w1 (rb_refl _)] at gx
                rw [if_pos (wanted_on (s := 61) rfl (by kernel_rfl) gx)]
                have x21 : A.tmps[62]? = some (u 21) := hN 21 _ 62 rfl rfl rfl
                rw [show u 21 = .agg (vcs v) from hdep 21 (by kernel_rfl) w1 (rb_refl _)] at x21
                have x22 : A.tmps[63]? = some (u 22) := hN 22 _ 63 rfl rfl rfl
                rw [show u 22 = .slice Ar roots.length cr from hdep 22 (by kernel_rfl) w1 (rb_refl _)] at x22
                clear hN hO hdep gx
                go_simp
                refine ((HVAL.out w1 (Kd.row_below hR HROW.out))).mono ?_
                rintro x w2 ⟨rfl, b2⟩
                refine hK _ _ b2 fun w3 h3 => ?_
                exact rfl
              · intro A u hN hO w1 hR hdep K hK
                have gx : A.tmps[61]? = some (u 20) := hN 20 _ 61 rfl rfl rfl
                rw [show u 20 = .bool false from hdep 20 (by kernel_rfl) w1 (rb_refl _)] at gx
                rw [if_pos (wanted_on (s := 61) rfl (by kernel_rfl) gx)]
                have x23 : A.tmps[64]? = some (u 23) := hN 23 _ 64 rfl rfl rfl
                rw [show u 23 = .bool val from hdep 23 (by kernel_rfl) w1 (rb_refl _)] at x23
                clear hN hO hdep gx
                go_simp
                refine hK _ _ (rb_refl _) fun w3 h3 => ?_
                exact rfl
              · intro A u hN hO w1 hR hdep K hK
                rw [if_pos (by rfl)]
                have x20 : A.tmps[61]? = some (u 20) := hN 20 _ 61 rfl rfl rfl
                rw [show u 20 = .bool false from hdep 20 (by kernel_rfl) w1 (rb_refl _)] at x20
                have x24 : A.tmps[65]? = some (u 24) := hN 24 _ 65 rfl rfl rfl
                rw [show u 24 = .bool (!val) from hdep 24 (by kernel_rfl) w1 (rb_refl _)] at x24
                clear hN hO hdep
                go_simp
                refine hK _ _ (rb_refl _) fun w3 h3 => ?_
                exact rfl
              · intro u w' hR hall
                have h25 : u 25 = .bool (!val) := hall 25 (by decide)
                have bw' := bl_trans (bl_drew B4) hR
                have belw := bl_trans (bl_drew belt) hR
                clear hall
                simp only [frameF, Act.put, List.setIfInBounds_toArray, List.set_cons_zero, List.set_cons_succ, Nat.reduceAdd, h25]
                clear h25
                cases val
                · have HF := Lib.hid (HNO.out (by simp))
                  simp only [Bool.not_false]
                  go_wp2_with fail
                  go_ret
                  exact ⟨by rw [← HRES.out, HF.out]; rfl, bw'⟩
                · have HF := Lib.hid HS.out
                  simp only [Bool.not_true]
                  go_wp2_with fail
                  exact ⟨⟨i + 1, by omega, by go_num, by rw [HF.out]; rfl, belw⟩, by simp [intOf]; omega⟩
            · obtain ⟨p, hp⟩ : ∃ p, l[i - 1]? = some p := ⟨_, List.getElem?_eq_getElem (show i - 1 < l.length by omega)⟩
              obtain ⟨ad', hAd, -, -, -, -, -, c5, -⟩ := kVote_at rowt hp
              obtain rfl : ad = ad' := by injection hAd
              have HPS := Lib.hid c5
              have hpg : prevGe l i v = decide (v.signer ≤ p.signer) := by
                cases i with
                | zero => omega
                | succ k => simp only [prevGe]; rw [show k + 1 - 1 = k by omega] at hp; rw [hp]
              have HP := Lib.hid (show ((0 : Int) < (i : Int)) by omega)
              have HPN := Lib.hid (show 0 < i by omega)
              have HK0 := Lib.hid (show (0 : Int) ≤ ((i - 1 : Nat) : Int) by omega)
              have HK1 := Lib.hid (show ((i - 1 : Nat) : Int) < (l.length : Int) by omega)
              have HI1 := Lib.hid (show IntKind.i64.wrap ((i : Int) - 1) = ((i - 1 : Nat) : Int) by
                rw [show (i : Int) - 1 = ((i - 1 : Nat) : Int) by omega]; exact IntWalk.i64_in _ (by omega))
              obtain ⟨ps, hps⟩ : ∃ ps, ps = p.signer := ⟨_, rfl⟩
              rw [← hps] at HPS hpg
              by_cases hq : v.signer ≤ ps
              · rw [hpg, decide_eq_true hq] at HS HNO
                have HQ := Lib.hid hq
                clear hpg hk0 hkI rowt row3 c5 hps hp hAd
                refine wp_region_invA (by kernel_rfl) (by kernel_rfl) Rb (ckC G V9 b8 i l.length roots.length c cr ad Ar v ps true true val) rb_refl rb_trans ⟨?_, ?_, ?_, ?_, ?_, ?_, ?_, ?_, ?_, ?_, ?_, ?_, ?_, ?_, ?_, ?_, ?_, ?_, ?_, ?_, ?_, ?_, ?_, ?_, ?_, ?_, trivial⟩ ?_
                · intro A u hN hO w1 hR hdep K hK
                  rw [if_pos (by rfl)]
                  have y7 : A.tmps[7]? = some (.func (.func 246) #[] #[.pointer (some ⟨b8, 0, none⟩)]) := hO 7 _ rfl rfl
                  clear hN hO hdep
                  go_simp
                  refine hK _ _ (rb_refl _) fun w3 h3 => ?_
                  exact rfl
                · intro A u hN hO w1 hR hdep K hK
                  rw [if_pos (by rfl)]
                  have y9 : A.tmps[9]? = some (.pointer (some ⟨V9, 0, none⟩)) := hO 9 _ rfl rfl
                  clear hN hO hdep
                  obtain ⟨r0, r1, r2, r3, r4, r5, r6⟩ := vcells (block_below hR HV9.out)
                  go_simp
                  refine hK _ _ (rb_refl _) fun w3 h3 => ?_
                  exact rfl
                · intro A u hN hO w1 hR hdep K hK
                  rw [if_pos (by rfl)]
                  have x0 : A.tmps[41]? = some (u 0) := hN 0 _ 41 rfl rfl rfl
                  rw [show u 0 = .func (.func 246) #[] #[.pointer (some ⟨b8, 0, none⟩)] from hdep 0 (by kernel_rfl) w1 (rb_refl _)] at x0
                  have x1 : A.tmps[42]? = some (u 1) := hN 1 _ 42 rfl rfl rfl
                  rw [show u 1 = .agg (vcs v) from hdep 1 (by kernel_rfl) w1 (rb_refl _)] at x1
                  clear hN hO hdep
                  go_simp
                  refine ((HIS.out w1 (block_below hR HB8.out))).mono ?_
                  rintro x w2 ⟨rfl, b2⟩
                  refine hK _ _ b2 fun w3 h3 => ?_
                  exact rfl
                · intro A u hN hO w1 hR hdep K hK
                  rw [if_pos (by rfl)]
                  have x2 : A.tmps[43]? = some (u 2) := hN 2 _ 43 rfl rfl rfl
                  rw [show u 2 = .bool true from hdep 2 (by kernel_rfl) w1 (rb_refl _)] at x2
                  clear hN hO hdep
                  go_simp
                  refine hK _ _ (rb_refl _) fun w3 h3 => ?_
                  exact rfl
                · intro A u hN hO w1 hR hdep K hK
                  rw [if_pos (by rfl)]
                  have x3 : A.tmps[44]? = some (u 3) := hN 3 _ 44 rfl rfl rfl
                  rw [show u 3 = .bool false from hdep 3 (by kernel_rfl) w1 (rb_refl _)] at x3
                  clear hN hO hdep
                  go_simp
                  refine hK _ _ (rb_refl _) fun w3 h3 => ?_
                  exact rfl
                · intro A u hN hO w1 hR hdep K hK
                  have gx : A.tmps[45]? = some (u 4) := hN 4 _ 45 rfl rfl rfl
                  rw [show u 4 = .bool false from hdep 4 (by kernel_rfl) w1 (rb_refl _)] at gx
                  rw [if_pos (wanted_on (s := 45) rfl (by kernel_rfl) gx)]
                  have y8 : A.tmps[8]? = some (.int .i64 (i : Nat)) := hO 8 _ rfl rfl
                  clear hN hO hdep gx
                  go_simp
                  refine hK _ _ (rb_refl _) fun w3 h3 => ?_
                  exact rfl
                · intro A u hN hO w1 hR hdep K hK
                  have gx : A.tmps[45]? = some (u 4) := hN 4 _ 45 rfl rfl rfl
                  rw [show u 4 = .bool false from hdep 4 (by kernel_rfl) w1 (rb_refl _)] at gx
                  rw [if_pos (wanted_on (s := 45) rfl (by kernel_rfl) gx)]
                  have x5 : A.tmps[46]? = some (u 5) := hN 5 _ 46 rfl rfl rfl
                  rw [show u 5 = .int .i64 (i : Nat) from hdep 5 (by kernel_rfl) w1 (rb_refl _)] at x5
                  clear hN hO hdep gx
                  have hp := HP.out
                  have hpn := HPN.out
                  go_simp
                  refine hK _ _ (rb_refl _) fun w3 h3 => ?_
                  exact rfl
                · intro A u hN hO w1 hR hdep K hK
                  have gx : A.tmps[45]? = some (u 4) := hN 4 _ 45 rfl rfl rfl
                  rw [show u 4 = .bool false from hdep 4 (by kernel_rfl) w1 (rb_refl _)] at gx
                  rw [if_pos (wanted_on (s := 45) rfl (by kernel_rfl) gx)]
                  have x6 : A.tmps[47]? = some (u 6) := hN 6 _ 47 rfl rfl rfl
                  rw [show u 6 = .bool true from hdep 6 (by kernel_rfl) w1 (rb_refl _)] at x6
                  clear hN hO hdep gx
                  go_simp
                  refine hK _ _ (rb_refl _) fun w3 h3 => ?_
                  exact rfl
                · intro A u hN hO w1 hR hdep K hK
                  have gx : A.tmps[48]? = some (u 7) := hN 7 _ 48 rfl rfl rfl
                  rw [show u 7 = .bool true from hdep 7 (by kernel_rfl) w1 (rb_refl _)] at gx
                  rw [if_pos (wanted_on (s := 48) rfl (by kernel_rfl) gx)]
                  have y3 : A.tmps[3]? = some (.pointer (some ⟨G, 0, none⟩)) := hO 3 _ rfl rfl
                  clear hN hO hdep gx
                  go_simp
                  refine hK _ _ (rb_refl _) fun w3 h3 => ?_
                  exact rfl
                · intro A u hN hO w1 hR hdep K hK
                  have gx : A.tmps[48]? = some (u 7) := hN 7 _ 48 rfl rfl rfl
                  rw [show u 7 = .bool true from hdep 7 (by kernel_rfl) w1 (rb_refl _)] at gx
                  rw [if_pos (wanted_on (s := 48) rfl (by kernel_rfl) gx)]
                  have x8 : A.tmps[49]? = some (u 8) := hN 8 _ 49 rfl rfl rfl
                  rw [show u 8 = .pointer (some ⟨G, 3, none⟩) from hdep 8 (by kernel_rfl) w1 (rb_refl _)] at x8
                  clear hN hO hdep gx
                  have cg := block_cell (block_below hR HG9.out) (i := 3) rfl
                  go_simp
                  refine hK _ _ (rb_refl _) fun w3 h3 => ?_
                  exact rfl
                · intro A u hN hO w1 hR hdep K hK
                  have gx : A.tmps[48]? = some (u 7) := hN 7 _ 48 rfl rfl rfl
                  rw [show u 7 = .bool true from hdep 7 (by kernel_rfl) w1 (rb_refl _)] at gx
                  rw [if_pos (wanted_on (s := 48) rfl (by kernel_rfl) gx)]
                  have y8 : A.tmps[8]? = some (.int .i64 (i : Nat)) := hO 8 _ rfl rfl
                  clear hN hO hdep gx
                  go_simp
                  refine hK _ _ (rb_refl _) fun w3 h3 => ?_
                  exact rfl
                · intro A u hN hO w1 hR hdep K hK
                  have gx : A.tmps[48]? = some (u 7) := hN 7 _ 48 rfl rfl rfl
                  rw [show u 7 = .bool true from hdep 7 (by kernel_rfl) w1 (rb_refl _)] at gx
                  rw [if_pos (wanted_on (s := 48) rfl (by kernel_rfl) gx)]
                  have x10 : A.tmps[51]? = some (u 10) := hN 10 _ 51 rfl rfl rfl
                  rw [show u 10 = .int .i64 (i : Nat) from hdep 10 (by kernel_rfl) w1 (rb_refl _)] at x10
                  clear hN hO hdep gx
                  have hi1 : IntKind.i64.wrap ((i : Int) - 1) = ((i - 1 : Nat) : Int) := HI1.out
                  go_simp
                  refine hK _ _ (rb_refl _) fun w3 h3 => ?_
                  exact rfl
                · intro A u hN hO w1 hR hdep K hK
                  have gx : A.tmps[48]? = some (u 7) := hN 7 _ 48 rfl rfl rfl
                  rw [show u 7 = .bool true from hdep 7 (by kernel_rfl) w1 (rb_refl _)] at gx
                  rw [if_pos (wanted_on (s := 48) rfl (by kernel_rfl) gx)]
                  have x9 : A.tmps[50]? = some (u 9) := hN 9 _ 50 rfl rfl rfl
                  rw [show u 9 = .slice (some ad) l.length c from hdep 9 (by kernel_rfl) w1 (rb_refl _)] at x9
                  have x11 : A.tmps[52]? = some (u 11) := hN 11 _ 52 rfl rfl rfl
                  rw [show u 11 = .int .i64 ((i - 1 : Nat) : Int) from hdep 11 (by kernel_rfl) w1 (rb_refl _)] at x11
                  clear hN hO hdep gx
                  have hk0 := HK0.out
                  have hk1 := HK1.out
                  go_simp
                  refine hK _ _ (rb_refl _) fun w3 h3 => ?_
                  exact rfl
                · intro A u hN hO w1 hR hdep K hK
                  have gx : A.tmps[48]? = some (u 7) := hN 7 _ 48 rfl rfl rfl
                  rw [show u 7 = .bool true from hdep 7 (by kernel_rfl) w1 (rb_refl _)] at gx
                  rw [if_pos (wanted_on (s := 48) rfl (by kernel_rfl) gx)]
                  have x12 : A.tmps[53]? = some (u 12) := hN 12 _ 53 rfl rfl rfl
                  rw [show u 12 = .pointer (some (ad.add ((i - 1) * 7))) from hdep 12 (by kernel_rfl) w1 (rb_refl _)] at x12
                  clear hN hO hdep gx
                  go_simp
                  refine hK _ _ (rb_refl _) fun w3 h3 => ?_
                  exact rfl
                · intro A u hN hO w1 hR hdep K hK
                  have gx : A.tmps[48]? = some (u 7) := hN 7 _ 48 rfl rfl rfl
                  rw [show u 7 = .bool true from hdep 7 (by kernel_rfl) w1 (rb_refl _)] at gx
                  rw [if_pos (wanted_on (s := 48) rfl (by kernel_rfl) gx)]
                  have x13 : A.tmps[54]? = some (u 13) := hN 13 _ 54 rfl rfl rfl
                  rw [show u 13 = .pointer (some ⟨(ad.add ((i - 1) * 7)).block, (ad.add ((i - 1) * 7)).off + 5, none⟩) from hdep 13 (by kernel_rfl) w1 (rb_refl _)] at x13
                  clear hN hO hdep gx
                  have cp := cell_below hR HPS.out
                  go_simp
                  refine hK _ _ (rb_refl _) fun w3 h3 => ?_
                  exact rfl
                · intro A u hN hO w1 hR hdep K hK
                  have gx : A.tmps[48]? = some (u 7) := hN 7 _ 48 rfl rfl rfl
                  rw [show u 7 = .bool true from hdep 7 (by kernel_rfl) w1 (rb_refl _)] at gx
                  rw [if_pos (wanted_on (s := 48) rfl (by kernel_rfl) gx)]
                  have y9 : A.tmps[9]? = some (.pointer (some ⟨V9, 0, none⟩)) := hO 9 _ rfl rfl
                  clear hN hO hdep gx
                  go_simp
                  refine hK _ _ (rb_refl _) fun w3 h3 => ?_
                  exact rfl
                · intro A u hN hO w1 hR hdep K hK
                  have gx : A.tmps[48]? = some (u 7) := hN 7 _ 48 rfl rfl rfl
                  rw [show u 7 = .bool true from hdep 7 (by kernel_rfl) w1 (rb_refl _)] at gx
                  rw [if_pos (wanted_on (s := 48) rfl (by kernel_rfl) gx)]
                  have x15 : A.tmps[56]? = some (u 15) := hN 15 _ 56 rfl rfl rfl
                  rw [show u 15 = .pointer (some ⟨V9, 5, none⟩) from hdep 15 (by kernel_rfl) w1 (rb_refl _)] at x15
                  clear hN hO hdep gx
                  obtain ⟨r0, r1, r2, r3, r4, r5, r6⟩ := vcells (block_below hR HV9.out)
                  go_simp
                  refine hK _ _ (rb_refl _) fun w3 h3 => ?_
                  exact rfl
                · intro A u hN hO w1 hR hdep K hK
                  have gx : A.tmps[48]? = some (u 7) := hN 7 _ 48 rfl rfl rfl
                  rw [show u 7 = .bool true from hdep 7 (by kernel_rfl) w1 (rb_refl _)] at gx
                  rw [if_pos (wanted_on (s := 48) rfl (by kernel_rfl) gx)]
                  have x14 : A.tmps[55]? = some (u 14) := hN 14 _ 55 rfl rfl rfl
                  rw [show u 14 = .int .i64 ps from hdep 14 (by kernel_rfl) w1 (rb_refl _)] at x14
                  have x16 : A.tmps[57]? = some (u 16) := hN 16 _ 57 rfl rfl rfl
                  rw [show u 16 = .int .i64 v.signer from hdep 16 (by kernel_rfl) w1 (rb_refl _)] at x16
                  clear hN hO hdep gx
                  have hq := HQ.out
                  go_simp
                  refine hK _ _ (rb_refl _) fun w3 h3 => ?_
                  exact rfl
                · intro A u hN hO w1 hR hdep K hK
                  have gx : A.tmps[45]? = some (u 4) := hN 4 _ 45 rfl rfl rfl
                  rw [show u 4 = .bool false from hdep 4 (by kernel_rfl) w1 (rb_refl _)] at gx
                  rw [if_pos (wanted_on (s := 45) rfl (by kernel_rfl) gx)]
                  have x7 : A.tmps[48]? = some (u 7) := hN 7 _ 48 rfl rfl rfl
                  rw [show u 7 = .bool true from hdep 7 (by kernel_rfl) w1 (rb_refl _)] at x7
                  have x17 : A.tmps[58]? = some (u 17) := hN 17 _ 58 rfl rfl rfl
                  rw [show u 17 = .bool true from hdep 17 (by kernel_rfl) w1 (rb_refl _)] at x17
                  clear hN hO hdep gx
                  go_simp
                  refine hK _ _ (rb_refl _) fun w3 h3 => ?_
                  exact rfl
                · intro A u hN hO w1 hR hdep K hK
                  rw [if_pos (by rfl)]
                  have x4 : A.tmps[45]? = some (u 4) := hN 4 _ 45 rfl rfl rfl
                  rw [show u 4 = .bool false from hdep 4 (by kernel_rfl) w1 (rb_refl _)] at x4
                  have x18 : A.tmps[59]? = some (u 18) := hN 18 _ 59 rfl rfl rfl
                  rw [show u 18 = .bool true from hdep 18 (by kernel_rfl) w1 (rb_refl _)] at x18
                  clear hN hO hdep
                  go_simp
                  refine hK _ _ (rb_refl _) fun w3 h3 => ?_
                  exact rfl
                · intro A u hN hO w1 hR hdep K hK
                  rw [if_pos (by rfl)]
                  have x19 : A.tmps[60]? = some (u 19) := hN 19 _ 60 rfl rfl rfl
                  rw [show u 19 = .bool true from hdep 19 (by kernel_rfl) w1 (rb_refl _)] at x19
                  clear hN hO hdep
                  go_simp
                  refine hK _ _ (rb_refl _) fun w3 h3 => ?_
                  exact rfl
                · intro A u hN hO w1 hR hdep K hK
                  have gx : A.tmps[61]? = some (u 20) := hN 20 _ 61 rfl rfl rfl
                  rw [show u 20 = .bool true from hdep 20 (by kernel_rfl) w1 (rb_refl _)] at gx
                  rw [if_neg (wanted_off (s := 61) rfl (by kernel_rfl) gx (by decide))]
                  exact hK _ _ (rb_refl _) fun w3 h3 => rfl
                · intro A u hN hO w1 hR hdep K hK
                  have gx : A.tmps[61]? = some (u 20) := hN 20 _ 61 rfl rfl rfl
                  rw [show u 20 = .bool true from hdep 20 (by kernel_rfl) w1 (rb_refl _)] at gx
                  rw [if_neg (wanted_off (s := 61) rfl (by kernel_rfl) gx (by decide))]
                  exact hK _ _ (rb_refl _) fun w3 h3 => rfl
                · intro A u hN hO w1 hR hdep K hK
                  have gx : A.tmps[61]? = some (u 20) := hN 20 _ 61 rfl rfl rfl
                  rw [show u 20 = .bool true from hdep 20 (by kernel_rfl) w1 (rb_refl _)] at gx
                  rw [if_neg (wanted_off (s := 61) rfl (by kernel_rfl) gx (by decide))]
                  exact hK _ _ (rb_refl _) fun w3 h3 => rfl
                · intro A u hN hO w1 hR hdep K hK
                  have gx : A.tmps[61]? = some (u 20) := hN 20 _ 61 rfl rfl rfl
                  rw [show u 20 = .bool true from hdep 20 (by kernel_rfl) w1 (rb_refl _)] at gx
                  rw [if_neg (wanted_off (s := 61) rfl (by kernel_rfl) gx (by decide))]
                  exact hK _ _ (rb_refl _) fun w3 h3 => rfl
                · intro A u hN hO w1 hR hdep K hK
                  rw [if_pos (by rfl)]
                  have x20 : A.tmps[61]? = some (u 20) := hN 20 _ 61 rfl rfl rfl
                  rw [show u 20 = .bool true from hdep 20 (by kernel_rfl) w1 (rb_refl _)] at x20
                  have x24 : A.tmps[65]? = some (u 24) := hN 24 _ 65 rfl rfl rfl
                  rw [show u 24 = undef from hdep 24 (by kernel_rfl) w1 (rb_refl _)] at x24
                  clear hN hO hdep
                  go_simp
                  refine hK _ _ (rb_refl _) fun w3 h3 => ?_
                  exact rfl
                · intro u w' hR hall
                  have h25 : u 25 = .bool true := hall 25 (by decide)
                  have bw' := bl_trans (bl_drew B4) hR
                  have hf := HNO.out (by simp)
                  have HF := Lib.hid hf
                  clear hall hf
                  simp only [frameF, Act.put, List.setIfInBounds_toArray, List.set_cons_zero, List.set_cons_succ, Nat.reduceAdd, h25]
                  clear h25
                  go_wp2_with fail
                  go_ret
                  exact ⟨by rw [← HRES.out, HF.out]; rfl, bw'⟩
              · rw [hpg, decide_eq_false hq] at HS HNO
                have HQ := Lib.hid hq
                clear hpg hk0 hkI rowt row3 c5 hps hp hAd
                refine wp_region_invA (by kernel_rfl) (by kernel_rfl) Rb (ckD G V9 b8 i l.length roots.length c cr ad Ar v ps true false val) rb_refl rb_trans ⟨?_, ?_, ?_, ?_, ?_, ?_, ?_, ?_, ?_, ?_, ?_, ?_, ?_, ?_, ?_, ?_, ?_, ?_, ?_, ?_, ?_, ?_, ?_, ?_, ?_, ?_, trivial⟩ ?_
                · intro A u hN hO w1 hR hdep K hK
                  rw [if_pos (by rfl)]
                  have y7 : A.tmps[7]? = some (.func (.func 246) #[] #[.pointer (some ⟨b8, 0, none⟩)]) := hO 7 _ rfl rfl
                  clear hN hO hdep
                  go_simp
                  refine hK _ _ (rb_refl _) fun w3 h3 => ?_
                  exact rfl
                · intro A u hN hO w1 hR hdep K hK
                  rw [if_pos (by rfl)]
                  have y9 : A.tmps[9]? = some (.pointer (some ⟨V9, 0, none⟩)) := hO 9 _ rfl rfl
                  clear hN hO hdep
                  obtain ⟨r0, r1, r2, r3, r4, r5, r6⟩ := vcells (block_below hR HV9.out)
                  go_simp
                  refine hK _ _ (rb_refl _) fun w3 h3 => ?_
                  exact rfl
                · intro A u hN hO w1 hR hdep K hK
                  rw [if_pos (by rfl)]
                  have x0 : A.tmps[41]? = some (u 0) := hN 0 _ 41 rfl rfl rfl
                  rw [show u 0 = .func (.func 246) #[] #[.pointer (some ⟨b8, 0, none⟩)] from hdep 0 (by kernel_rfl) w1 (rb_refl _)] at x0
                  have x1 : A.tmps[42]? = some (u 1) := hN 1 _ 42 rfl rfl rfl
                  rw [show u 1 = .agg (vcs v) from hdep 1 (by kernel_rfl) w1 (rb_refl _)] at x1
                  clear hN hO hdep
                  go_simp
                  refine ((HIS.out w1 (block_below hR HB8.out))).mono ?_
                  rintro x w2 ⟨rfl, b2⟩
                  refine hK _ _ b2 fun w3 h3 => ?_
                  exact rfl
                · intro A u hN hO w1 hR hdep K hK
                  rw [if_pos (by rfl)]
                  have x2 : A.tmps[43]? = some (u 2) := hN 2 _ 43 rfl rfl rfl
                  rw [show u 2 = .bool true from hdep 2 (by kernel_rfl) w1 (rb_refl _)] at x2
                  clear hN hO hdep
                  go_simp
                  refine hK _ _ (rb_refl _) fun w3 h3 => ?_
                  exact rfl
                · intro A u hN hO w1 hR hdep K hK
                  rw [if_pos (by rfl)]
                  have x3 : A.tmps[44]? = some (u 3) := hN 3 _ 44 rfl rfl rfl
                  rw [show u 3 = .bool false from hdep 3 (by kernel_rfl) w1 (rb_refl _)] at x3
                  clear hN hO hdep
                  go_simp
                  refine hK _ _ (rb_refl _) fun w3 h3 => ?_
                  exact rfl
                · intro A u hN hO w1 hR hdep K hK
                  have gx : A.tmps[45]? = some (u 4) := hN 4 _ 45 rfl rfl rfl
                  rw [show u 4 = .bool false from hdep 4 (by kernel_rfl) w1 (rb_refl _)] at gx
                  rw [if_pos (wanted_on (s := 45) rfl (by kernel_rfl) gx)]
                  have y8 : A.tmps[8]? = some (.int .i64 (i : Nat)) := hO 8 _ rfl rfl
                  clear hN hO hdep gx
                  go_simp
                  refine hK _ _ (rb_refl _) fun w3 h3 => ?_
                  exact rfl
                · intro A u hN hO w1 hR hdep K hK
                  have gx : A.tmps[45]? = some (u 4) := hN 4 _ 45 rfl rfl rfl
                  rw [show u 4 = .bool false from hdep 4 (by kernel_rfl) w1 (rb_refl _)] at gx
                  rw [if_pos (wanted_on (s := 45) rfl (by kernel_rfl) gx)]
                  have x5 : A.tmps[46]? = some (u 5) := hN 5 _ 46 rfl rfl rfl
                  rw [show u 5 = .int .i64 (i : Nat) from hdep 5 (by kernel_rfl) w1 (rb_refl _)] at x5
                  clear hN hO hdep gx
                  have hp := HP.out
                  have hpn := HPN.out
                  go_simp
                  refine hK _ _ (rb_refl _) fun w3 h3 => ?_
                  exact rfl
                · intro A u hN hO w1 hR hdep K hK
                  have gx : A.tmps[45]? = some (u 4) := hN 4 _ 45 rfl rfl rfl
                  rw [show u 4 = .bool false from hdep 4 (by kernel_rfl) w1 (rb_refl _)] at gx
                  rw [if_pos (wanted_on (s := 45) rfl (by kernel_rfl) gx)]
                  have x6 : A.tmps[47]? = some (u 6) := hN 6 _ 47 rfl rfl rfl
                  rw [show u 6 = .bool true from hdep 6 (by kernel_rfl) w1 (rb_refl _)] at x6
                  clear hN hO hdep gx
                  go_simp
                  refine hK _ _ (rb_refl _) fun w3 h3 => ?_
                  exact rfl
                · intro A u hN hO w1 hR hdep K hK
                  have gx : A.tmps[48]? = some (u 7) := hN 7 _ 48 rfl rfl rfl
                  rw [show u 7 = .bool true from hdep 7 (by kernel_rfl) w1 (rb_refl _)] at gx
                  rw [if_pos (wanted_on (s := 48) rfl (by kernel_rfl) gx)]
                  have y3 : A.tmps[3]? = some (.pointer (some ⟨G, 0, none⟩)) := hO 3 _ rfl rfl
                  clear hN hO hdep gx
                  go_simp
                  refine hK _ _ (rb_refl _) fun w3 h3 => ?_
                  exact rfl
                · intro A u hN hO w1 hR hdep K hK
                  have gx : A.tmps[48]? = some (u 7) := hN 7 _ 48 rfl rfl rfl
                  rw [show u 7 = .bool true from hdep 7 (by kernel_rfl) w1 (rb_refl _)] at gx
                  rw [if_pos (wanted_on (s := 48) rfl (by kernel_rfl) gx)]
                  have x8 : A.tmps[49]? = some (u 8) := hN 8 _ 49 rfl rfl rfl
                  rw [show u 8 = .pointer (some ⟨G, 3, none⟩) from hdep 8 (by kernel_rfl) w1 (rb_refl _)] at x8
                  clear hN hO hdep gx
                  have cg := block_cell (block_below hR HG9.out) (i := 3) rfl
                  go_simp
                  refine hK _ _ (rb_refl _) fun w3 h3 => ?_
                  exact rfl
                · intro A u hN hO w1 hR hdep K hK
                  have gx : A.tmps[48]? = some (u 7) := hN 7 _ 48 rfl rfl rfl
                  rw [show u 7 = .bool true from hdep 7 (by kernel_rfl) w1 (rb_refl _)] at gx
                  rw [if_pos (wanted_on (s := 48) rfl (by kernel_rfl) gx)]
                  have y8 : A.tmps[8]? = some (.int .i64 (i : Nat)) := hO 8 _ rfl rfl
                  clear hN hO hdep gx
                  go_simp
                  refine hK _ _ (rb_refl _) fun w3 h3 => ?_
                  exact rfl
                · intro A u hN hO w1 hR hdep K hK
                  have gx : A.tmps[48]? = some (u 7) := hN 7 _ 48 rfl rfl rfl
                  rw [show u 7 = .bool true from hdep 7 (by kernel_rfl) w1 (rb_refl _)] at gx
                  rw [if_pos (wanted_on (s := 48) rfl (by kernel_rfl) gx)]
                  have x10 : A.tmps[51]? = some (u 10) := hN 10 _ 51 rfl rfl rfl
                  rw [show u 10 = .int .i64 (i : Nat) from hdep 10 (by kernel_rfl) w1 (rb_refl _)] at x10
                  clear hN hO hdep gx
                  have hi1 : IntKind.i64.wrap ((i : Int) - 1) = ((i - 1 : Nat) : Int) := HI1.out
                  go_simp
                  refine hK _ _ (rb_refl _) fun w3 h3 => ?_
                  exact rfl
                · intro A u hN hO w1 hR hdep K hK
                  have gx : A.tmps[48]? = some (u 7) := hN 7 _ 48 rfl rfl rfl
                  rw [show u 7 = .bool true from hdep 7 (by kernel_rfl) w1 (rb_refl _)] at gx
                  rw [if_pos (wanted_on (s := 48) rfl (by kernel_rfl) gx)]
                  have x9 : A.tmps[50]? = some (u 9) := hN 9 _ 50 rfl rfl rfl
                  rw [show u 9 = .slice (some ad) l.length c from hdep 9 (by kernel_rfl) w1 (rb_refl _)] at x9
                  have x11 : A.tmps[52]? = some (u 11) := hN 11 _ 52 rfl rfl rfl
                  rw [show u 11 = .int .i64 ((i - 1 : Nat) : Int) from hdep 11 (by kernel_rfl) w1 (rb_refl _)] at x11
                  clear hN hO hdep gx
                  have hk0 := HK0.out
                  have hk1 := HK1.out
                  go_simp
                  refine hK _ _ (rb_refl _) fun w3 h3 => ?_
                  exact rfl
                · intro A u hN hO w1 hR hdep K hK
                  have gx : A.tmps[48]? = some (u 7) := hN 7 _ 48 rfl rfl rfl
                  rw [show u 7 = .bool true from hdep 7 (by kernel_rfl) w1 (rb_refl _)] at gx
                  rw [if_pos (wanted_on (s := 48) rfl (by kernel_rfl) gx)]
                  have x12 : A.tmps[53]? = some (u 12) := hN 12 _ 53 rfl rfl rfl
                  rw [show u 12 = .pointer (some (ad.add ((i - 1) * 7))) from hdep 12 (by kernel_rfl) w1 (rb_refl _)] at x12
                  clear hN hO hdep gx
                  go_simp
                  refine hK _ _ (rb_refl _) fun w3 h3 => ?_
                  exact rfl
                · intro A u hN hO w1 hR hdep K hK
                  have gx : A.tmps[48]? = some (u 7) := hN 7 _ 48 rfl rfl rfl
                  rw [show u 7 = .bool true from hdep 7 (by kernel_rfl) w1 (rb_refl _)] at gx
                  rw [if_pos (wanted_on (s := 48) rfl (by kernel_rfl) gx)]
                  have x13 : A.tmps[54]? = some (u 13) := hN 13 _ 54 rfl rfl rfl
                  rw [show u 13 = .pointer (some ⟨(ad.add ((i - 1) * 7)).block, (ad.add ((i - 1) * 7)).off + 5, none⟩) from hdep 13 (by kernel_rfl) w1 (rb_refl _)] at x13
                  clear hN hO hdep gx
                  have cp := cell_below hR HPS.out
                  go_simp
                  refine hK _ _ (rb_refl _) fun w3 h3 => ?_
                  exact rfl
                · intro A u hN hO w1 hR hdep K hK
                  have gx : A.tmps[48]? = some (u 7) := hN 7 _ 48 rfl rfl rfl
                  rw [show u 7 = .bool true from hdep 7 (by kernel_rfl) w1 (rb_refl _)] at gx
                  rw [if_pos (wanted_on (s := 48) rfl (by kernel_rfl) gx)]
                  have y9 : A.tmps[9]? = some (.pointer (some ⟨V9, 0, none⟩)) := hO 9 _ rfl rfl
                  clear hN hO hdep gx
                  go_simp
                  refine hK _ _ (rb_refl _) fun w3 h3 => ?_
                  exact rfl
                · intro A u hN hO w1 hR hdep K hK
                  have gx : A.tmps[48]? = some (u 7) := hN 7 _ 48 rfl rfl rfl
                  rw [show u 7 = .bool true from hdep 7 (by kernel_rfl) w1 (rb_refl _)] at gx
                  rw [if_pos (wanted_on (s := 48) rfl (by kernel_rfl) gx)]
                  have x15 : A.tmps[56]? = some (u 15) := hN 15 _ 56 rfl rfl rfl
                  rw [show u 15 = .pointer (some ⟨V9, 5, none⟩) from hdep 15 (by kernel_rfl) w1 (rb_refl _)] at x15
                  clear hN hO hdep gx
                  obtain ⟨r0, r1, r2, r3, r4, r5, r6⟩ := vcells (block_below hR HV9.out)
                  go_simp
                  refine hK _ _ (rb_refl _) fun w3 h3 => ?_
                  exact rfl
                · intro A u hN hO w1 hR hdep K hK
                  have gx : A.tmps[48]? = some (u 7) := hN 7 _ 48 rfl rfl rfl
                  rw [show u 7 = .bool true from hdep 7 (by kernel_rfl) w1 (rb_refl _)] at gx
                  rw [if_pos (wanted_on (s := 48) rfl (by kernel_rfl) gx)]
                  have x14 : A.tmps[55]? = some (u 14) := hN 14 _ 55 rfl rfl rfl
                  rw [show u 14 = .int .i64 ps from hdep 14 (by kernel_rfl) w1 (rb_refl _)] at x14
                  have x16 : A.tmps[57]? = some (u 16) := hN 16 _ 57 rfl rfl rfl
                  rw [show u 16 = .int .i64 v.signer from hdep 16 (by kernel_rfl) w1 (rb_refl _)] at x16
                  clear hN hO hdep gx
                  have hq := HQ.out
                  go_simp
                  refine hK _ _ (rb_refl _) fun w3 h3 => ?_
                  exact rfl
                · intro A u hN hO w1 hR hdep K hK
                  have gx : A.tmps[45]? = some (u 4) := hN 4 _ 45 rfl rfl rfl
                  rw [show u 4 = .bool false from hdep 4 (by kernel_rfl) w1 (rb_refl _)] at gx
                  rw [if_pos (wanted_on (s := 45) rfl (by kernel_rfl) gx)]
                  have x7 : A.tmps[48]? = some (u 7) := hN 7 _ 48 rfl rfl rfl
                  rw [show u 7 = .bool true from hdep 7 (by kernel_rfl) w1 (rb_refl _)] at x7
                  have x17 : A.tmps[58]? = some (u 17) := hN 17 _ 58 rfl rfl rfl
                  rw [show u 17 = .bool false from hdep 17 (by kernel_rfl) w1 (rb_refl _)] at x17
                  clear hN hO hdep gx
                  go_simp
                  refine hK _ _ (rb_refl _) fun w3 h3 => ?_
                  exact rfl
                · intro A u hN hO w1 hR hdep K hK
                  rw [if_pos (by rfl)]
                  have x4 : A.tmps[45]? = some (u 4) := hN 4 _ 45 rfl rfl rfl
                  rw [show u 4 = .bool false from hdep 4 (by kernel_rfl) w1 (rb_refl _)] at x4
                  have x18 : A.tmps[59]? = some (u 18) := hN 18 _ 59 rfl rfl rfl
                  rw [show u 18 = .bool false from hdep 18 (by kernel_rfl) w1 (rb_refl _)] at x18
                  clear hN hO hdep
                  go_simp
                  refine hK _ _ (rb_refl _) fun w3 h3 => ?_
                  exact rfl
                · intro A u hN hO w1 hR hdep K hK
                  rw [if_pos (by rfl)]
                  have x19 : A.tmps[60]? = some (u 19) := hN 19 _ 60 rfl rfl rfl
                  rw [show u 19 = .bool false from hdep 19 (by kernel_rfl) w1 (rb_refl _)] at x19
                  clear hN hO hdep
                  go_simp
                  refine hK _ _ (rb_refl _) fun w3 h3 => ?_
                  exact rfl
                · intro A u hN hO w1 hR hdep K hK
                  have gx : A.tmps[61]? = some (u 20) := hN 20 _ 61 rfl rfl rfl
                  rw [show u 20 = .bool false from hdep 20 (by kernel_rfl) w1 (rb_refl _)] at gx
                  rw [if_pos (wanted_on (s := 61) rfl (by kernel_rfl) gx)]
                  have y9 : A.tmps[9]? = some (.pointer (some ⟨V9, 0, none⟩)) := hO 9 _ rfl rfl
                  clear hN hO hdep gx
                  obtain ⟨r0, r1, r2, r3, r4, r5, r6⟩ := vcells (block_below hR HV9.out)
                  go_simp
                  refine hK _ _ (rb_refl _) fun w3 h3 => ?_
                  exact rfl
                · intro A u hN hO w1 hR hdep K hK
                  have gx : A.tmps[61]? = some (u 20) := hN 20 _ 61 rfl rfl rfl
                  rw [show u 20 = .bool false from hdep 20 (by kernel_rfl) w1 (rb_refl _)] at gx
                  rw [if_pos (wanted_on (s := 61) rfl (by kernel_rfl) gx)]
                  have y1 : A.tmps[1]? = some (.slice Ar roots.length cr) := hO 1 _ rfl rfl
                  clear hN hO hdep gx
                  go_simp
                  refine hK _ _ (rb_refl _) fun w3 h3 => ?_
                  exact rfl
                · intro A u hN hO w1 hR hdep K hK
                  have gx : A.tmps[61]? = some (u 20) := hN 20 _ 61 rfl rfl rfl
                  rw [show u 20 = .bool false from hdep 20 (by kernel_rfl) w1 (rb_refl _)] at gx
                  rw [if_pos (wanted_on (s := 61) rfl (by kernel_rfl) gx)]
                  have x21 : A.tmps[62]? = some (u 21) := hN 21 _ 62 rfl rfl rfl
                  rw [show u 21 = .agg (vcs v) from hdep 21 (by kernel_rfl) w1 (rb_refl _)] at x21
                  have x22 : A.tmps[63]? = some (u 22) := hN 22 _ 63 rfl rfl rfl
                  rw [show u 22 = .slice Ar roots.length cr from hdep 22 (by kernel_rfl) w1 (rb_refl _)] at x22
                  clear hN hO hdep gx
                  go_simp
                  refine ((HVAL.out w1 (Kd.row_below hR HROW.out))).mono ?_
                  rintro x w2 ⟨rfl, b2⟩
                  refine hK _ _ b2 fun w3 h3 => ?_
                  exact rfl
                · intro A u hN hO w1 hR hdep K hK
                  have gx : A.tmps[61]? = some (u 20) := hN 20 _ 61 rfl rfl rfl
                  rw [show u 20 = .bool false from hdep 20 (by kernel_rfl) w1 (rb_refl _)] at gx
                  rw [if_pos (wanted_on (s := 61) rfl (by kernel_rfl) gx)]
                  have x23 : A.tmps[64]? = some (u 23) := hN 23 _ 64 rfl rfl rfl
                  rw [show u 23 = .bool val from hdep 23 (by kernel_rfl) w1 (rb_refl _)] at x23
                  clear hN hO hdep gx
                  go_simp
                  refine hK _ _ (rb_refl _) fun w3 h3 => ?_
                  exact rfl
                · intro A u hN hO w1 hR hdep K hK
                  rw [if_pos (by rfl)]
                  have x20 : A.tmps[61]? = some (u 20) := hN 20 _ 61 rfl rfl rfl
                  rw [show u 20 = .bool false from hdep 20 (by kernel_rfl) w1 (rb_refl _)] at x20
                  have x24 : A.tmps[65]? = some (u 24) := hN 24 _ 65 rfl rfl rfl
                  rw [show u 24 = .bool (!val) from hdep 24 (by kernel_rfl) w1 (rb_refl _)] at x24
                  clear hN hO hdep
                  go_simp
                  refine hK _ _ (rb_refl _) fun w3 h3 => ?_
                  exact rfl
                · intro u w' hR hall
                  have h25 : u 25 = .bool (!val) := hall 25 (by decide)
                  have bw' := bl_trans (bl_drew B4) hR
                  have belw := bl_trans (bl_drew belt) hR
                  clear hall
                  simp only [frameF, Act.put, List.setIfInBounds_toArray, List.set_cons_zero, List.set_cons_succ, Nat.reduceAdd, h25]
                  clear h25
                  cases val
                  · have HF := Lib.hid (HNO.out (by simp))
                    simp only [Bool.not_false]
                    go_wp2_with fail
                    go_ret
                    exact ⟨by rw [← HRES.out, HF.out]; rfl, bw'⟩
                  · have HF := Lib.hid HS.out
                    simp only [Bool.not_true]
                    go_wp2_with fail
                    exact ⟨⟨i + 1, by omega, by go_num, by rw [HF.out]; rfl, belw⟩, by simp [intOf]; omega⟩
end Go.Proofs.YtcbfpdenjdgnlaaGreat
