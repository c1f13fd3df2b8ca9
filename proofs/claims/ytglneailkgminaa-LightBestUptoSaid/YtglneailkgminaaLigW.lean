/- Package mootlaw36: the walk of LightBest. No claim of its own; no condition. -/
import Derived.Test.YtglneailkgminaaLigU
import Derived.Test.YtglneailkgminaaLigS
namespace Go.Proofs.Ytglneailkgminaa
open Go.ChangeShapes Go.WideShapes Go.ChangeAt Go.RowKit
set_option linter.unusedVariables false
set_option linter.unusedSimpArgs false
theorem vinfo_kCert : (Try.prog.info? 35).map (fun i => (i.zero, i.size, i.bytes)) = some (some (.agg #[.int .i64 0, .int .i64 0, .string ⟨#[]⟩, .slice none 0 0]), 4, 56) := by kernel_rfl
theorem rowc_take {α : Type} {d : Kd α} {e : TypeId} {B : Nat} {w : World} {A : Option Addr} {xs : List α} (n : Nat) (h : d.Row e B w A xs) : d.Row e B w A (xs.take n) := by
  intro hne
  obtain ⟨ad, rfl, hb, hx⟩ := h (by intro e; rw [e] at hne; simp at hne)
  refine ⟨ad, rfl, hb, fun i x hi => hx i x ?_⟩
  rw [List.getElem?_take] at hi
  split at hi
  · exact hi
  · cases hi
theorem grown_block {α : Type} {d : Kd α} {e B base : Nat} {w w1 : World} {v : Value} {xs : List α} (own : d.Own e B w base v xs) (hg : w.grownBy w1 v.ownBlock) {b t : Nat} {c : Array Value} {f : Nat × Nat} (h : w.heap[b]? = some (.cells c t f)) (hte : e ≠ t) : w1.heap[b]? = some (.cells c t f) := by
  have k : Keeps 0 [t] w w1 := Keeps.grown hg fun g hgg => ⟨Nat.zero_le _, by
    obtain ⟨_, c', h'⟩ := Kd.own_block own g hgg
    exact ⟨c', e, (0, 0), h', by simpa using hte⟩⟩
  exact (k.2 b ⟨blk_lt h, .inr ⟨c, t, f, h, by simp⟩⟩).trans h
theorem grown_row28 {α : Type} {d : Kd α} {B base : Nat} {w w1 : World} {v : Value} {xs : List α} (own : d.Own 35 B w base v xs) (hg : w.grownBy w1 v.ownBlock) {A : Option Addr} {ys : List Vote} (h : kVote.Row 28 0 w A ys) : kVote.Row 28 0 w1 A ys :=
  Kd.row_keep (Keeps.grown hg fun g hgg => ⟨Nat.zero_le _, by
    obtain ⟨_, c', h'⟩ := Kd.own_block own g hgg
    exact ⟨c', 35, (0, 0), h', by decide⟩⟩) h
theorem drop_rev {α : Type} (l : List α) (j : Nat) (x : α) (h : l[j]? = some x) : (l.drop j).reverse = (l.drop (j + 1)).reverse ++ [x] := by
  have hj : j < l.length := (List.getElem?_eq_some_iff.1 h).1
  rw [List.drop_eq_getElem_cons hj, List.reverse_cons]
  rw [List.getElem?_eq_getElem hj] at h
  cases h
  rfl
def blZ (G G5 j nl cl : Nat) (ad : Addr) (m s : Mark) (A3 A5 Ar : Option Addr) (nx ns nR c3 c5 cr : Nat) (q res : Int) : Nat → Value → World → Prop
  | 0, y, _ => y = .slice (some ad) nl cl
  | 1, y, _ => y = .int .i64 j
  | 2, y, _ => y = .pointer (some (ad.add (j * 4)))
  | 3, y, _ => y = .agg #[.int .i64 m.view, .int .i64 m.height, .string m.block, .slice A3 nx c3]
  | 4, y, _ => y = .pointer (some ⟨G, 0, none⟩)
  | 5, y, _ => y = .slice Ar nR cr
  | 6, y, _ => y = .pointer (some ⟨G, 2, none⟩)
  | 7, y, _ => y = .int .i64 q
  | 8, y, _ => y = .int .i64 0
  | 9, y, _ => y = .bool true
  | 10, y, _ => y = .bool true
  | 11, y, _ => y = .slice (some ad) nl cl
  | 12, y, _ => y = .int .i64 j
  | 13, y, _ => y = .pointer (some (ad.add (j * 4)))
  | 14, y, _ => y = .agg #[.int .i64 m.view, .int .i64 m.height, .string m.block, .slice A3 nx c3]
  | 15, y, _ => y = .agg #[.int .i64 m.view, .int .i64 m.height, .string ⟨#[]⟩]
  | 16, y, _ => y = .pointer (some ⟨G5, 0, none⟩)
  | 17, y, _ => y = .agg #[.int .i64 s.view, .int .i64 s.height, .string s.block, .slice A5 ns c5]
  | 18, y, _ => y = .agg #[.int .i64 s.view, .int .i64 s.height, .string ⟨#[]⟩]
  | 19, y, _ => y = .bool false
  | 20, y, _ => y = .bool false
  | _, _, _ => True
def blN (G G5 j nl cl : Nat) (ad : Addr) (m s : Mark) (A3 A5 Ar : Option Addr) (nx ns nR c3 c5 cr : Nat) (q res : Int) : Nat → Value → World → Prop
  | 0, y, _ => y = .slice (some ad) nl cl
  | 1, y, _ => y = .int .i64 j
  | 2, y, _ => y = .pointer (some (ad.add (j * 4)))
  | 3, y, _ => y = .agg #[.int .i64 m.view, .int .i64 m.height, .string m.block, .slice A3 nx c3]
  | 4, y, _ => y = .pointer (some ⟨G, 0, none⟩)
  | 5, y, _ => y = .slice Ar nR cr
  | 6, y, _ => y = .pointer (some ⟨G, 2, none⟩)
  | 7, y, _ => y = .int .i64 q
  | 8, y, _ => y = .int .i64 res
  | 9, y, _ => y = .bool false
  | 10, y, _ => y = .bool false
  | 11, y, _ => y = undef
  | 12, y, _ => y = undef
  | 13, y, _ => y = undef
  | 14, y, _ => y = undef
  | 15, y, _ => y = undef
  | 16, y, _ => y = undef
  | 17, y, _ => y = undef
  | 18, y, _ => y = undef
  | 19, y, _ => y = undef
  | 20, y, _ => y = .bool false
  | _, _, _ => True
def bl14 (G G5 G8 cl : Nat) (NLI : Int) (A1 A5 A8 Ar : Option Addr) (s s2 : BestS) (nl n1 n2 nR c5 c8 cr : Nat) (q : Int) : Nat → Value → World → Prop
  | 0, y, _ => y = .pointer (some ⟨G5, 0, none⟩)
  | 1, y, _ => y = .agg #[.int .i64 s.m.view, .int .i64 s.m.height, .string s.m.block, .slice A5 n1 c5]
  | 2, y, _ => y = .agg #[.int .i64 s.m.view, .int .i64 s.m.height, .string ⟨#[]⟩]
  | 3, y, _ => y = .pointer (some ⟨G8, 0, none⟩)
  | 4, y, _ => y = .agg #[.int .i64 s2.m.view, .int .i64 s2.m.height, .string s2.m.block, .slice A8 n2 c8]
  | 5, y, _ => y = .agg #[.int .i64 s2.m.view, .int .i64 s2.m.height, .string ⟨#[]⟩]
  | 6, y, _ => y = .bool true
  | 7, y, _ => y = .bool true
  | 8, y, _ => y = .pointer (some ⟨G5, 0, none⟩)
  | 9, y, _ => y = .agg #[.int .i64 s.m.view, .int .i64 s.m.height, .string s.m.block, .slice A5 n1 c5]
  | 10, y, _ => y = .pointer (some ⟨G, 0, none⟩)
  | 11, y, _ => y = .slice Ar nR cr
  | 12, y, _ => y = .pointer (some ⟨G, 2, none⟩)
  | 13, y, _ => y = .int .i64 q
  | 14, y, _ => y = .int .i64 0
  | 15, y, _ => y = .bool true
  | 16, y, _ => y = .bool true
  | 17, y, _ => y = .bool true
  | 18, y, _ => y = .pointer (some ⟨G5, 4, none⟩)
  | 19, y, _ => y = .int .i64 s.t
  | 20, y, _ => y = .slice A1 nl cl
  | 21, y, _ => y = .int .i64 NLI
  | 22, y, _ => y = .bool true
  | 23, y, _ => y = .bool true
  | 24, y, _ => y = .bool true
  | _, _, _ => True
set_option maxHeartbeats 16000000 in
set_option maxRecDepth 100000 in
theorem lightbest_walk (l : List Cert) (roots : List ByteArray) (q base cap : Int) (Ar Ac Al : Option Addr) (cr nC cc cl B0 : Nat) (w : World) (hB0 : B0 ≤ w.heap.size) (hl : l.length ≤ 1048576) (hcl : l.length ≤ cl) (hlx : ∀ x ∈ l, x.votes.length ≤ 1048576) (hlr : roots.length ≤ 1048576)
    (hrl : kCert.Row 35 B0 w Al l) (hrr : Kd.str.Row 9 B0 w Ar roots) :
    Calls Try.prog 8 #[.agg #[.slice Ar roots.length cr, .slice Ac nC cc, .int .i64 q, .int .i64 base, .int .i64 cap], .slice Al l.length cl] w fun e w' => e = .returned (.bool true) ∧ Below w.heap.size w w' := by
  have q0 := bl_alloc (Below.refl w.heap.size w) (.cells #[.slice Ar roots.length cr, .slice Ac nC cc, .int .i64 q, .int .i64 base, .int .i64 cap] 57)
  have a0 : (w.alloc (.cells #[.slice Ar roots.length cr, .slice Ac nC cc, .int .i64 q, .int .i64 base, .int .i64 cap] 57)).heap[w.heap.size]? = some (.cells #[.slice Ar roots.length cr, .slice Ac nC cc, .int .i64 q, .int .i64 base, .int .i64 cap] 57 (0, 0)) := alloc_new w _
  obtain ⟨i0, hi, hz0, hz1, hz2⟩ := info_parts vinfo_kCert
  by_cases h12 : l.length > 12
  case pos =>
    have hc12 : 12 ≤ cl := by omega
    obtain ⟨l', hl'⟩ : ∃ l', l' = l.take 12 := ⟨_, rfl⟩
    have hlx' : ∀ x ∈ l', x.votes.length ≤ 1048576 := fun x hx => hlx x (List.mem_of_mem_take (hl' ▸ hx))
    have hrl' : kCert.Row 35 B0 w Al l' := hl' ▸ rowc_take 12 hrl
    have hnl : 12 = l'.length := by rw [hl', List.length_take]; omega
    have hlen12 : l'.length ≤ 12 := by omega
    have HNL := Lib.hid hnl
    clear hl' hnl hlx hrl
    go_enter Try.func8, Try.ntmps8
    go_upto_region 1 with fail
    change Code.wp _ _ _ _ (w.alloc (.cells #[.slice Ar roots.length cr, .slice Ac nC cc, .int .i64 q, .int .i64 base, .int .i64 cap] 57))
    obtain ⟨G, hG⟩ : ∃ G, w.heap.size = G := ⟨_, rfl⟩
    generalize w.alloc (.cells #[.slice Ar roots.length cr, .slice Ac nC cc, .int .i64 q, .int .i64 base, .int .i64 cap] 57) = V0 at *
    have HG0 := Lib.hid hG
    rw [hG] at a0
    simp only [hG]
    clear hG
    go_upto_region 3 with (go_at_call 31; refine (alive36_calls _).mono ?_; rintro x w1 ⟨rfl, b1⟩)
    have q1 := bl_trans q0 b1
    have gc1 := block_below b1 a0
    have lb := Kd.row_below q1 hrl'
    have rb := Kd.row_below q1 hrr
    have HB := Lib.hid fun W A n c (hA : kCert.Row 35 B0 W A l') (hn : n = l'.length) (hr : Kd.str.Row 9 B0 W Ar roots) (hB : B0 ≤ W.heap.size) => best_calls l' roots q base cap Ar Ac A cr nC cc c n B0 W hn hB (by omega) hlx' hlr hA hr
    obtain ⟨s, hs⟩ : ∃ s, bestF roots q l' = s := ⟨_, rfl⟩
    have hok := bestF_ok roots q l' hlen12
    have hcov := fun x hx hr => bestF_covers roots q l' x hx hr
    rw [hs] at hok hcov
    obtain ⟨s2, hs2⟩ : ∃ s2, bestF roots q l'.reverse = s2 := ⟨_, rfl⟩
    have hrk := bestF_rank roots q l' l'.reverse (fun x => by simp)
    rw [hs, hs2] at hrk
    have HB1 := Lib.hid fun W A n c hA hn hr hB => (HB.out W A n c hA hn hr hB).mono fun _ _ k => (hs ▸ k : BestPost s W _ _)
    have HBR := Lib.hid fun W A n c (hA : kCert.Row 35 B0 W A l'.reverse) (hn : n = l'.reverse.length) (hr : Kd.str.Row 9 B0 W Ar roots) (hB : B0 ≤ W.heap.size) => (best_calls l'.reverse roots q base cap Ar Ac A cr nC cc c n B0 W hn hB (by simp; omega) (fun x hx => hlx' x (List.mem_reverse.1 hx)) hlr hA hr).mono fun _ _ k => (hs2 ▸ k : BestPost s2 W _ _)
    have HOK := Lib.hid hok
    have HCOV := Lib.hid hcov
    have HRK := Lib.hid hrk
    have hslen : s.vs.length ≤ 1048576 := by rw [← hs]; have := bestF_len roots q 1048576 l' hlx' l'.length; rwa [List.take_length] at this
    clear hs hs2 HB hok hcov hrk
    have HLB := Lib.hid lb
    have HRB := Lib.hid rb
    have HB0 := Lib.hid (Nat.le_trans hB0 q1.size)
    clear lb rb
    have x0 := block_cell gc1 (i := 0) rfl
    have x1 := block_cell gc1 (i := 1) rfl
    have x2 := block_cell gc1 (i := 2) rfl
    have x3 := block_cell gc1 (i := 3) rfl
    have x4 := block_cell gc1 (i := 4) rfl
    go_upto_region 6 with (go_at_call 33; refine (HB1.out _ _ _ _ HLB.out HNL.out HRB.out HB0.out).mono ?_; rintro x w2 ⟨⟨A5, c5, rfl, k5⟩, b2⟩)
    change Code.wp _ _ _ _ (w2.alloc (.cells #[.int .i64 s.m.view, .int .i64 s.m.height, .string s.m.block, .slice A5 s.vs.length c5, .int .i64 s.t] 55))
    have b3 := bl_alloc b2 (.cells #[.int .i64 s.m.view, .int .i64 s.m.height, .string s.m.block, .slice A5 s.vs.length c5, .int .i64 s.t] 55)
    have a5 : (w2.alloc (.cells #[.int .i64 s.m.view, .int .i64 s.m.height, .string s.m.block, .slice A5 s.vs.length c5, .int .i64 s.t] 55)).heap[w2.heap.size]? = some (.cells #[.int .i64 s.m.view, .int .i64 s.m.height, .string s.m.block, .slice A5 s.vs.length c5, .int .i64 s.t] 55 (0, 0)) := alloc_new w2 _
    have gc3 := block_below b3 gc1
    have k6 := Kd.row_below (bl_alloc (Below.refl w2.heap.size w2) (.cells #[.int .i64 s.m.view, .int .i64 s.m.height, .string s.m.block, .slice A5 s.vs.length c5, .int .i64 s.t] 55)) k5
    have q3 := bl_trans q1 b3
    obtain ⟨G5, hG5⟩ : ∃ G5, w2.heap.size = G5 := ⟨_, rfl⟩
    generalize w2.alloc (.cells #[.int .i64 s.m.view, .int .i64 s.m.height, .string s.m.block, .slice A5 s.vs.length c5, .int .i64 s.t] 55) = V1 at *
    simp only [hG5] at a5 ⊢
    clear hG5 b2 b3 k5 gc1 q1 b1 HB1 HLB HRB HB0 x0 x1 x2 x3 x4
    go_wp2_with fail
    go_loopw [6, 7] (fun bv iv w' => ∃ (j : Nat) (i : Int), j ≤ l'.length ∧ i + 1 = (j : Int) ∧ iv = .int .i64 i ∧ kCert.Own 35 B0 w' w.heap.size bv (l'.drop j).reverse ∧ Below w.heap.size w w' ∧ w'.heap[G5]? = some (.cells #[.int .i64 s.m.view, .int .i64 s.m.height, .string s.m.block, .slice A5 s.vs.length c5, .int .i64 s.t] 55 (0, 0)) ∧ w'.heap[G]? = some (.cells #[.slice Ar roots.length cr, .slice Ac nC cc, .int .i64 q, .int .i64 base, .int .i64 cap] 57 (0, 0)) ∧ kVote.Row 28 0 w' A5 s.vs) (fun _ iv _ => (intOf iv + 1).toNat)
    case atStart => exact ⟨l'.length, 12 - 1, Nat.le_refl _, by have := HNL.out; omega, rfl, by rw [List.drop_length]; exact Kd.own_nil _ _ _ _ _, q3, a5, gc3, k6⟩
    case round =>
      clear a5 gc3 k6 q3
      obtain ⟨j1, i, hj1, hi1, rfl, own, bel, g5, g0, rowa⟩ := hrel
      rename World => wr
      by_cases hi0 : i < 0
      case pos =>
        obtain rfl : j1 = 0 := by omega
        obtain rfl : i = -1 := by omega
        rw [List.drop_zero] at own
        obtain ⟨A1b, c1b, rfl, o1, o2, rowb, _⟩ := Kd.own_row own
        have hnb : l'.reverse.length = l'.reverse.length := rfl
        obtain ⟨nb, hnb⟩ : ∃ nb, l'.reverse.length = nb := ⟨_, rfl⟩
        rw [hnb]
        have HNB := Lib.hid hnb.symm
        have HRW := Lib.hid rowb
        have HRB := Lib.hid (Kd.row_below bel hrr)
        have HB0 := Lib.hid (Nat.le_trans hB0 bel.size)
        have HX0 := Lib.hid g0
        have HX5 := Lib.hid g5
        have HXK := Lib.hid rowa
        have x0 := block_cell g0 (i := 0) rfl
        have x1 := block_cell g0 (i := 1) rfl
        have x2 := block_cell g0 (i := 2) rfl
        have x3 := block_cell g0 (i := 3) rfl
        have x4 := block_cell g0 (i := 4) rfl
        clear hnb own rowb o1 o2 g0 g5 rowa hi0 hi1 hj1
        go_upto_region 14 with (go_at_call 33; refine (HBR.out _ _ _ _ HRW.out HNB.out HRB.out HB0.out).mono ?_; rintro x w3 ⟨⟨A8, c8, rfl, k8⟩, b8⟩)
        change Code.wp _ _ _ _ (w3.alloc (.cells #[.int .i64 s2.m.view, .int .i64 s2.m.height, .string s2.m.block, .slice A8 s2.vs.length c8, .int .i64 s2.t] 55))
        have b9 := bl_alloc b8 (.cells #[.int .i64 s2.m.view, .int .i64 s2.m.height, .string s2.m.block, .slice A8 s2.vs.length c8, .int .i64 s2.t] 55)
        have a8 : (w3.alloc (.cells #[.int .i64 s2.m.view, .int .i64 s2.m.height, .string s2.m.block, .slice A8 s2.vs.length c8, .int .i64 s2.t] 55)).heap[w3.heap.size]? = some (.cells #[.int .i64 s2.m.view, .int .i64 s2.m.height, .string s2.m.block, .slice A8 s2.vs.length c8, .int .i64 s2.t] 55 (0, 0)) := alloc_new w3 _
        have q9 := bl_trans bel b9
        have HG := Lib.hid (block_below b9 HX0.out)
        have HG5 := Lib.hid (block_below b9 HX5.out)
        have HK := Lib.hid (row_up (Nat.zero_le B0) (Kd.row_below b9 HXK.out))
        have HRR := Lib.hid (Kd.row_below b9 HRB.out)
        obtain ⟨G8, hG8⟩ : ∃ G8, w3.heap.size = G8 := ⟨_, rfl⟩
        generalize w3.alloc (.cells #[.int .i64 s2.m.view, .int .i64 s2.m.height, .string s2.m.block, .slice A8 s2.vs.length c8, .int .i64 s2.t] 55) = V2 at *
        simp only [hG8] at a8 ⊢
        have HG8 := Lib.hid a8
        clear hG8 a8 b8 b9 k8 x0 x1 x2 x3 x4 HX0 HX5 HXK HRB HRW HNB
        have hq : ∀ W, (binOp .eql 26 (.agg #[.int .i64 s.m.view, .int .i64 s.m.height, .string ⟨#[]⟩]) (.agg #[.int .i64 s2.m.view, .int .i64 s2.m.height, .string ⟨#[]⟩])).run Try.prog W = .ok (.bool true) W := fun W => by
          have := eqlMark ⟨s.m.view, s.m.height, ⟨#[]⟩⟩ ⟨s2.m.view, s2.m.height, ⟨#[]⟩⟩ W
          rw [decide_eq_true (by rw [HRK.out.1, HRK.out.2])] at this
          exact this
        have HQ := Lib.hid hq
        have hle : s.t ≤ 12 := by have := HOK.out.up; have := HNL.out; omega
        have HLE := Lib.hid hle
        have hr0 := fun (W : World) (h1 : kVote.Row 28 B0 W A5 s.vs) (h2 : Kd.str.Row 9 B0 W Ar roots) => refcert_calls s.m s.vs roots q A5 Ar c5 cr B0 W hslen hlr h1 h2
        rw [HOK.out.right] at hr0
        have HR0 := Lib.hid hr0
        clear hq hle hr0
        refine wp_region_invA (by kernel_rfl) (by kernel_rfl) Rb (bl14 G G5 G8 cl 12 Al A5 A8 Ar s s2 12 s.vs.length s2.vs.length roots.length c5 c8 cr q) rb_refl rb_trans ⟨?_, ?_, ?_, ?_, ?_, ?_, ?_, ?_, ?_, ?_, ?_, ?_, ?_, ?_, ?_, ?_, ?_, ?_, ?_, ?_, ?_, ?_, ?_, ?_, ?_, trivial⟩ ?_
        · intro Fr u hN hO w1 hR hdep K hK
          rw [if_pos (by rfl)]
          have y5 : Fr.tmps[5]? = some (.pointer (some ⟨G5, 0, none⟩)) := hO 5 _ rfl rfl
          clear hN hO hdep
          go_simp
          refine hK _ _ (rb_refl _) fun w3 h3 => ?_
          exact rfl
        · intro Fr u hN hO w1 hR hdep K hK
          rw [if_pos (by rfl)]
          have x0 : Fr.tmps[57]? = some (u 0) := hN 0 _ 57 rfl rfl rfl
          rw [show u 0 = .pointer (some ⟨G5, 0, none⟩) from hdep 0 (by kernel_rfl) w1 (rb_refl _)] at x0
          clear hN hO hdep
          have gg := block_below hR HG5.out
          have z0 := block_cell gg (i := 0) rfl
          have z1 := block_cell gg (i := 1) rfl
          have z2 := block_cell gg (i := 2) rfl
          have z3 := block_cell gg (i := 3) rfl
          have z4 := block_cell gg (i := 4) rfl
          go_simp
          refine hK _ _ (rb_refl _) fun w3 h3 => ?_
          exact rfl
        · intro Fr u hN hO w1 hR hdep K hK
          rw [if_pos (by rfl)]
          have x1 : Fr.tmps[58]? = some (u 1) := hN 1 _ 58 rfl rfl rfl
          rw [show u 1 = .agg #[.int .i64 s.m.view, .int .i64 s.m.height, .string s.m.block, .slice A5 s.vs.length c5] from hdep 1 (by kernel_rfl) w1 (rb_refl _)] at x1
          clear hN hO hdep
          go_simp
          refine (rank_calls s.m _ _ _ _).mono ?_
          rintro x w2 ⟨rfl, b2⟩
          refine hK _ _ b2 fun w3 h3 => ?_
          exact rfl
        · intro Fr u hN hO w1 hR hdep K hK
          rw [if_pos (by rfl)]
          have y8 : Fr.tmps[8]? = some (.pointer (some ⟨G8, 0, none⟩)) := hO 8 _ rfl rfl
          clear hN hO hdep
          go_simp
          refine hK _ _ (rb_refl _) fun w3 h3 => ?_
          exact rfl
        · intro Fr u hN hO w1 hR hdep K hK
          rw [if_pos (by rfl)]
          have x3 : Fr.tmps[60]? = some (u 3) := hN 3 _ 60 rfl rfl rfl
          rw [show u 3 = .pointer (some ⟨G8, 0, none⟩) from hdep 3 (by kernel_rfl) w1 (rb_refl _)] at x3
          clear hN hO hdep
          have gg := block_below hR HG8.out
          have z0 := block_cell gg (i := 0) rfl
          have z1 := block_cell gg (i := 1) rfl
          have z2 := block_cell gg (i := 2) rfl
          have z3 := block_cell gg (i := 3) rfl
          have z4 := block_cell gg (i := 4) rfl
          go_simp
          refine hK _ _ (rb_refl _) fun w3 h3 => ?_
          exact rfl
        · intro Fr u hN hO w1 hR hdep K hK
          rw [if_pos (by rfl)]
          have x4 : Fr.tmps[61]? = some (u 4) := hN 4 _ 61 rfl rfl rfl
          rw [show u 4 = .agg #[.int .i64 s2.m.view, .int .i64 s2.m.height, .string s2.m.block, .slice A8 s2.vs.length c8] from hdep 4 (by kernel_rfl) w1 (rb_refl _)] at x4
          clear hN hO hdep
          go_simp
          refine (rank_calls s2.m _ _ _ _).mono ?_
          rintro x w2 ⟨rfl, b2⟩
          refine hK _ _ b2 fun w3 h3 => ?_
          exact rfl
        · intro Fr u hN hO w1 hR hdep K hK
          rw [if_pos (by rfl)]
          have x2 : Fr.tmps[59]? = some (u 2) := hN 2 _ 59 rfl rfl rfl
          rw [show u 2 = .agg #[.int .i64 s.m.view, .int .i64 s.m.height, .string ⟨#[]⟩] from hdep 2 (by kernel_rfl) w1 (rb_refl _)] at x2
          have x5 : Fr.tmps[62]? = some (u 5) := hN 5 _ 62 rfl rfl rfl
          rw [show u 5 = .agg #[.int .i64 s2.m.view, .int .i64 s2.m.height, .string ⟨#[]⟩] from hdep 5 (by kernel_rfl) w1 (rb_refl _)] at x5
          clear hN hO hdep
          have hq := HQ.out
          go_simp
          refine hK _ _ (rb_refl _) fun w3 h3 => ?_
          exact rfl
        · intro Fr u hN hO w1 hR hdep K hK
          rw [if_pos (by rfl)]
          have x6 : Fr.tmps[63]? = some (u 6) := hN 6 _ 63 rfl rfl rfl
          rw [show u 6 = .bool true from hdep 6 (by kernel_rfl) w1 (rb_refl _)] at x6
          clear hN hO hdep
          go_simp
          refine hK _ _ (rb_refl _) fun w3 h3 => ?_
          exact rfl
        · intro Fr u hN hO w1 hR hdep K hK
          have gx : Fr.tmps[64]? = some (u 7) := hN 7 _ 64 rfl rfl rfl
          rw [show u 7 = .bool true from hdep 7 (by kernel_rfl) w1 (rb_refl _)] at gx
          rw [if_pos (wanted_on (s := 64) rfl (by kernel_rfl) gx)]
          have y5 : Fr.tmps[5]? = some (.pointer (some ⟨G5, 0, none⟩)) := hO 5 _ rfl rfl
          clear hN hO hdep gx
          go_simp
          refine hK _ _ (rb_refl _) fun w3 h3 => ?_
          exact rfl
        · intro Fr u hN hO w1 hR hdep K hK
          have gx : Fr.tmps[64]? = some (u 7) := hN 7 _ 64 rfl rfl rfl
          rw [show u 7 = .bool true from hdep 7 (by kernel_rfl) w1 (rb_refl _)] at gx
          rw [if_pos (wanted_on (s := 64) rfl (by kernel_rfl) gx)]
          have x8 : Fr.tmps[65]? = some (u 8) := hN 8 _ 65 rfl rfl rfl
          rw [show u 8 = .pointer (some ⟨G5, 0, none⟩) from hdep 8 (by kernel_rfl) w1 (rb_refl _)] at x8
          clear hN hO hdep gx
          have gg := block_below hR HG5.out
          have z0 := block_cell gg (i := 0) rfl
          have z1 := block_cell gg (i := 1) rfl
          have z2 := block_cell gg (i := 2) rfl
          have z3 := block_cell gg (i := 3) rfl
          have z4 := block_cell gg (i := 4) rfl
          go_simp
          refine hK _ _ (rb_refl _) fun w3 h3 => ?_
          exact rfl
        · intro Fr u hN hO w1 hR hdep K hK
          have gx : Fr.tmps[64]? = some (u 7) := hN 7 _ 64 rfl rfl rfl
          rw [show u 7 = .bool true from hdep 7 (by kernel_rfl) w1 (rb_refl _)] at gx
          rw [if_pos (wanted_on (s := 64) rfl (by kernel_rfl) gx)]
          have y2 : Fr.tmps[2]? = some (.pointer (some ⟨G, 0, none⟩)) := hO 2 _ rfl rfl
          clear hN hO hdep gx
          go_simp
          refine hK _ _ (rb_refl _) fun w3 h3 => ?_
          exact rfl
        · intro Fr u hN hO w1 hR hdep K hK
          have gx : Fr.tmps[64]? = some (u 7) := hN 7 _ 64 rfl rfl rfl
          rw [show u 7 = .bool true from hdep 7 (by kernel_rfl) w1 (rb_refl _)] at gx
          rw [if_pos (wanted_on (s := 64) rfl (by kernel_rfl) gx)]
          have x10 : Fr.tmps[67]? = some (u 10) := hN 10 _ 67 rfl rfl rfl
          rw [show u 10 = .pointer (some ⟨G, 0, none⟩) from hdep 10 (by kernel_rfl) w1 (rb_refl _)] at x10
          clear hN hO hdep gx
          have gg := block_below hR HG.out
          have z0 := block_cell gg (i := 0) rfl
          have z1 := block_cell gg (i := 1) rfl
          have z2 := block_cell gg (i := 2) rfl
          have z3 := block_cell gg (i := 3) rfl
          have z4 := block_cell gg (i := 4) rfl
          go_simp
          refine hK _ _ (rb_refl _) fun w3 h3 => ?_
          exact rfl
        · intro Fr u hN hO w1 hR hdep K hK
          have gx : Fr.tmps[64]? = some (u 7) := hN 7 _ 64 rfl rfl rfl
          rw [show u 7 = .bool true from hdep 7 (by kernel_rfl) w1 (rb_refl _)] at gx
          rw [if_pos (wanted_on (s := 64) rfl (by kernel_rfl) gx)]
          have y2 : Fr.tmps[2]? = some (.pointer (some ⟨G, 0, none⟩)) := hO 2 _ rfl rfl
          clear hN hO hdep gx
          go_simp
          refine hK _ _ (rb_refl _) fun w3 h3 => ?_
          exact rfl
        · intro Fr u hN hO w1 hR hdep K hK
          have gx : Fr.tmps[64]? = some (u 7) := hN 7 _ 64 rfl rfl rfl
          rw [show u 7 = .bool true from hdep 7 (by kernel_rfl) w1 (rb_refl _)] at gx
          rw [if_pos (wanted_on (s := 64) rfl (by kernel_rfl) gx)]
          have x12 : Fr.tmps[69]? = some (u 12) := hN 12 _ 69 rfl rfl rfl
          rw [show u 12 = .pointer (some ⟨G, 2, none⟩) from hdep 12 (by kernel_rfl) w1 (rb_refl _)] at x12
          clear hN hO hdep gx
          have gg := block_below hR HG.out
          have z0 := block_cell gg (i := 0) rfl
          have z1 := block_cell gg (i := 1) rfl
          have z2 := block_cell gg (i := 2) rfl
          have z3 := block_cell gg (i := 3) rfl
          have z4 := block_cell gg (i := 4) rfl
          go_simp
          refine hK _ _ (rb_refl _) fun w3 h3 => ?_
          exact rfl
        · intro Fr u hN hO w1 hR hdep K hK
          have gx : Fr.tmps[64]? = some (u 7) := hN 7 _ 64 rfl rfl rfl
          rw [show u 7 = .bool true from hdep 7 (by kernel_rfl) w1 (rb_refl _)] at gx
          rw [if_pos (wanted_on (s := 64) rfl (by kernel_rfl) gx)]
          have x9 : Fr.tmps[66]? = some (u 9) := hN 9 _ 66 rfl rfl rfl
          rw [show u 9 = .agg #[.int .i64 s.m.view, .int .i64 s.m.height, .string s.m.block, .slice A5 s.vs.length c5] from hdep 9 (by kernel_rfl) w1 (rb_refl _)] at x9
          have x11 : Fr.tmps[68]? = some (u 11) := hN 11 _ 68 rfl rfl rfl
          rw [show u 11 = .slice Ar roots.length cr from hdep 11 (by kernel_rfl) w1 (rb_refl _)] at x11
          have x13 : Fr.tmps[70]? = some (u 13) := hN 13 _ 70 rfl rfl rfl
          rw [show u 13 = .int .i64 q from hdep 13 (by kernel_rfl) w1 (rb_refl _)] at x13
          clear hN hO hdep gx
          go_simp
          refine (HR0.out w1 (Kd.row_below hR HK.out) (Kd.row_below hR HRR.out)).mono ?_
          rintro x w2 ⟨rfl, b2⟩
          refine hK _ _ b2 fun w3 h3 => ?_
          exact rfl
        · intro Fr u hN hO w1 hR hdep K hK
          have gx : Fr.tmps[64]? = some (u 7) := hN 7 _ 64 rfl rfl rfl
          rw [show u 7 = .bool true from hdep 7 (by kernel_rfl) w1 (rb_refl _)] at gx
          rw [if_pos (wanted_on (s := 64) rfl (by kernel_rfl) gx)]
          have x14 : Fr.tmps[71]? = some (u 14) := hN 14 _ 71 rfl rfl rfl
          rw [show u 14 = .int .i64 0 from hdep 14 (by kernel_rfl) w1 (rb_refl _)] at x14
          clear hN hO hdep gx
          go_simp
          refine hK _ _ (rb_refl _) fun w3 h3 => ?_
          exact rfl
        · intro Fr u hN hO w1 hR hdep K hK
          rw [if_pos (by rfl)]
          have x7 : Fr.tmps[64]? = some (u 7) := hN 7 _ 64 rfl rfl rfl
          rw [show u 7 = .bool true from hdep 7 (by kernel_rfl) w1 (rb_refl _)] at x7
          have x15 : Fr.tmps[72]? = some (u 15) := hN 15 _ 72 rfl rfl rfl
          rw [show u 15 = .bool true from hdep 15 (by kernel_rfl) w1 (rb_refl _)] at x15
          clear hN hO hdep
          go_simp
          refine hK _ _ (rb_refl _) fun w3 h3 => ?_
          exact rfl
        · intro Fr u hN hO w1 hR hdep K hK
          rw [if_pos (by rfl)]
          have x16 : Fr.tmps[73]? = some (u 16) := hN 16 _ 73 rfl rfl rfl
          rw [show u 16 = .bool true from hdep 16 (by kernel_rfl) w1 (rb_refl _)] at x16
          clear hN hO hdep
          go_simp
          refine hK _ _ (rb_refl _) fun w3 h3 => ?_
          exact rfl
        · intro Fr u hN hO w1 hR hdep K hK
          have gx : Fr.tmps[74]? = some (u 17) := hN 17 _ 74 rfl rfl rfl
          rw [show u 17 = .bool true from hdep 17 (by kernel_rfl) w1 (rb_refl _)] at gx
          rw [if_pos (wanted_on (s := 74) rfl (by kernel_rfl) gx)]
          have y5 : Fr.tmps[5]? = some (.pointer (some ⟨G5, 0, none⟩)) := hO 5 _ rfl rfl
          clear hN hO hdep gx
          go_simp
          refine hK _ _ (rb_refl _) fun w3 h3 => ?_
          exact rfl
        · intro Fr u hN hO w1 hR hdep K hK
          have gx : Fr.tmps[74]? = some (u 17) := hN 17 _ 74 rfl rfl rfl
          rw [show u 17 = .bool true from hdep 17 (by kernel_rfl) w1 (rb_refl _)] at gx
          rw [if_pos (wanted_on (s := 74) rfl (by kernel_rfl) gx)]
          have x18 : Fr.tmps[75]? = some (u 18) := hN 18 _ 75 rfl rfl rfl
          rw [show u 18 = .pointer (some ⟨G5, 4, none⟩) from hdep 18 (by kernel_rfl) w1 (rb_refl _)] at x18
          clear hN hO hdep gx
          have gg := block_below hR HG5.out
          have z0 := block_cell gg (i := 0) rfl
          have z1 := block_cell gg (i := 1) rfl
          have z2 := block_cell gg (i := 2) rfl
          have z3 := block_cell gg (i := 3) rfl
          have z4 := block_cell gg (i := 4) rfl
          go_simp
          refine hK _ _ (rb_refl _) fun w3 h3 => ?_
          exact rfl
        · intro Fr u hN hO w1 hR hdep K hK
          have gx : Fr.tmps[74]? = some (u 17) := hN 17 _ 74 rfl rfl rfl
          rw [show u 17 = .bool true from hdep 17 (by kernel_rfl) w1 (rb_refl _)] at gx
          rw [if_pos (wanted_on (s := 74) rfl (by kernel_rfl) gx)]
          have y1 : Fr.tmps[1]? = some (.slice Al 12 cl) := hO 1 _ rfl rfl
          clear hN hO hdep gx
          go_simp
          refine hK _ _ (rb_refl _) fun w3 h3 => ?_
          exact rfl
        · intro Fr u hN hO w1 hR hdep K hK
          have gx : Fr.tmps[74]? = some (u 17) := hN 17 _ 74 rfl rfl rfl
          rw [show u 17 = .bool true from hdep 17 (by kernel_rfl) w1 (rb_refl _)] at gx
          rw [if_pos (wanted_on (s := 74) rfl (by kernel_rfl) gx)]
          have x20 : Fr.tmps[77]? = some (u 20) := hN 20 _ 77 rfl rfl rfl
          rw [show u 20 = .slice Al 12 cl from hdep 20 (by kernel_rfl) w1 (rb_refl _)] at x20
          clear hN hO hdep gx
          go_simp
          refine hK _ _ (rb_refl _) fun w3 h3 => ?_
          exact rfl
        · intro Fr u hN hO w1 hR hdep K hK
          have gx : Fr.tmps[74]? = some (u 17) := hN 17 _ 74 rfl rfl rfl
          rw [show u 17 = .bool true from hdep 17 (by kernel_rfl) w1 (rb_refl _)] at gx
          rw [if_pos (wanted_on (s := 74) rfl (by kernel_rfl) gx)]
          have x19 : Fr.tmps[76]? = some (u 19) := hN 19 _ 76 rfl rfl rfl
          rw [show u 19 = .int .i64 s.t from hdep 19 (by kernel_rfl) w1 (rb_refl _)] at x19
          have x21 : Fr.tmps[78]? = some (u 21) := hN 21 _ 78 rfl rfl rfl
          rw [show u 21 = .int .i64 12 from hdep 21 (by kernel_rfl) w1 (rb_refl _)] at x21
          clear hN hO hdep gx
          have hle := HLE.out
          go_simp
          refine hK _ _ (rb_refl _) fun w3 h3 => ?_
          exact rfl
        · intro Fr u hN hO w1 hR hdep K hK
          rw [if_pos (by rfl)]
          have x17 : Fr.tmps[74]? = some (u 17) := hN 17 _ 74 rfl rfl rfl
          rw [show u 17 = .bool true from hdep 17 (by kernel_rfl) w1 (rb_refl _)] at x17
          have x22 : Fr.tmps[79]? = some (u 22) := hN 22 _ 79 rfl rfl rfl
          rw [show u 22 = .bool true from hdep 22 (by kernel_rfl) w1 (rb_refl _)] at x22
          clear hN hO hdep
          go_simp
          refine hK _ _ (rb_refl _) fun w3 h3 => ?_
          exact rfl
        · intro Fr u hN hO w1 hR hdep K hK
          rw [if_pos (by rfl)]
          have x23 : Fr.tmps[80]? = some (u 23) := hN 23 _ 80 rfl rfl rfl
          rw [show u 23 = .bool true from hdep 23 (by kernel_rfl) w1 (rb_refl _)] at x23
          clear hN hO hdep
          go_simp
          refine hK _ _ (rb_refl _) fun w3 h3 => ?_
          exact rfl
        · intro u w' hR hall
          have h24 : u 24 = .bool true := hall 24 (by decide)
          have bw : Below V2.heap.size V2 w' := bl_trans (bl_drew (Below.refl _ _)) hR
          clear hall
          simp only [frameF, Act.put, List.setIfInBounds_toArray, List.set_cons_zero, List.set_cons_succ, Nat.reduceAdd, h24]
          clear h24
          have q10 := bl_trans q9 bw
          go_wp2_with fail
          go_ret
          exact ⟨rfl, q10⟩
      case neg =>
        obtain ⟨j, hj⟩ : ∃ j : Nat, i = (j : Int) := ⟨i.toNat, by omega⟩
        subst hj
        obtain rfl : j1 = j + 1 := by omega
        have hjl : j < l'.length := by omega
        obtain ⟨x, hx⟩ : ∃ x, l'[j]? = some x := ⟨_, List.getElem?_eq_getElem hjl⟩
        have hdr := drop_rev l' j x hx
        obtain ⟨ad, rfl, A3, c3, d0, d1, d2, d3, f0, f1, f2, f3, f4, rowx0⟩ := kCert_at hrl' hx
        have e0 := cell_below bel d0
        have e1 := cell_below bel d1
        have e2 := cell_below bel d2
        have e3 := cell_below bel d3
        have rowx := Kd.row_below bel rowx0
        have hlenx := hlx' x (List.mem_of_getElem? hx)
        have hcv := HCOV.out x (List.mem_of_getElem? hx)
        have hkI : (j : Int) < 12 := by have := HNL.out; omega
        have hk0 : (0 : Int) ≤ (j : Int) := by omega
        have HKI := Lib.hid hkI
        have HDR := Lib.hid hdr
        have bt := bl_alloc (Below.refl wr.heap.size wr) (.cells #[.int .i64 x.view, .int .i64 x.height, .string x.block, .slice A3 x.votes.length c3] 35)
        have own4 := Kd.own_below own bt
        have bel4 := bl_trans bel bt
        have rf := Kd.row_fresh1 (kCert_mk x f0 f1 f2 f3 f4 (Kd.row_below bt rowx))
        have hlb : (l'.drop (j + 1)).reverse.length ≤ 12 := by simp; omega
        clear hx hdr
        go_upto_region 11 with (at_builtin; refine wpList_append_row _ rfl (.tmp 26) (.tmp 31) 63 rfl kCert B0 w.heap.size 35 i0 _ 56 Try.underlying63 hi hz0 hz1 hz2 rfl (by decide) _ _ rfl own4 _ _ _ [x] rfl rfl rf (by simp only [List.length_singleton]; omega) (by decide) bel4.size hB0 (by decide) ?_; intro v' w' own' grw at')
        have q5 := Kd.own_step bel4 own4 grw
        have HG := Lib.hid (grown_block own4 grw (block_below bt g0) (by decide))
        have HG5 := Lib.hid (grown_block own4 grw (block_below bt g5) (by decide))
        have HKA := Lib.hid (grown_row28 own4 grw (Kd.row_below bt rowa))
        rw [← HDR.out] at own'
        have hown : kCert.Own 35 B0 w' w.heap.size v' (l'.drop j).reverse := own'
        obtain ⟨xv, xh, xb, lx⟩ := x
        dsimp only at d0 d1 d2 d3 hlenx rowx0
        obtain ⟨m, hm⟩ : ∃ m : Mark, m = ⟨xv, xh, xb⟩ := ⟨_, rfl⟩
        have hcv2 : chkC m lx roots q = 0 → higherF m s.m = false := by rw [hm]; exact hcv
        obtain rfl : m.view = xv := by rw [hm]
        obtain rfl : m.height = xh := by rw [hm]
        obtain rfl : m.block = xb := by rw [hm]
        have E0 := Lib.hid (cell_below q5 d0)
        have E1 := Lib.hid (cell_below q5 d1)
        have E2 := Lib.hid (cell_below q5 d2)
        have E3 := Lib.hid (cell_below q5 d3)
        have HX := Lib.hid (Kd.row_below q5 rowx0)
        have HRR := Lib.hid (Kd.row_below q5 hrr)
        have HOWN := Lib.hid hown
        have HCV := Lib.hid hcv2
        clear hm hcv hcv2 hown own' own4 own grw bt bel4 rf rowx e0 e1 e2 e3 f0 f1 f2 f3 f4 g5 g0 rowa at' HDR
        generalize w' = V at *
        obtain ⟨res, hres⟩ : ∃ r, chkC m lx roots q = r := ⟨_, rfl⟩
        have hrc := fun (W : World) (h1 : kVote.Row 28 B0 W A3 lx) (h2 : Kd.str.Row 9 B0 W Ar roots) => refcert_calls m lx roots q A3 Ar c3 cr B0 W hlenx hlr h1 h2
        rw [hres] at hrc
        have HCV' := HCV.out
        rw [hres] at HCV'
        have HRC := Lib.hid hrc
        have HCV2 := Lib.hid HCV'
        clear hrc hres HCV HCV'
        by_cases hz : res = 0
        case pos =>
          subst hz
          have hh := fun W => rank_higher m s.m W
          rw [HCV2.out rfl] at hh
          have HHI := Lib.hid hh
          clear hh HCV2
          refine wp_region_invA (by kernel_rfl) (by kernel_rfl) Rb (blZ G G5 j 12 cl ad m s.m A3 A5 Ar lx.length s.vs.length roots.length c3 c5 cr q 0) rb_refl rb_trans ⟨?_, ?_, ?_, ?_, ?_, ?_, ?_, ?_, ?_, ?_, ?_, ?_, ?_, ?_, ?_, ?_, ?_, ?_, ?_, ?_, ?_, trivial⟩ ?_
          · intro Fr u hN hO w1 hR hdep K hK
            rw [if_pos (by rfl)]
            have y1 : Fr.tmps[1]? = some (.slice (some ad) 12 cl) := hO 1 _ rfl rfl
            clear hN hO hdep
            go_simp
            refine hK _ _ (rb_refl _) fun w3 h3 => ?_
            exact rfl
          · intro Fr u hN hO w1 hR hdep K hK
            rw [if_pos (by rfl)]
            have y7 : Fr.tmps[7]? = some (.int .i64 j) := hO 7 _ rfl rfl
            clear hN hO hdep
            go_simp
            refine hK _ _ (rb_refl _) fun w3 h3 => ?_
            exact rfl
          · intro Fr u hN hO w1 hR hdep K hK
            rw [if_pos (by rfl)]
            have x0 : Fr.tmps[33]? = some (u 0) := hN 0 _ 33 rfl rfl rfl
            rw [show u 0 = .slice (some ad) 12 cl from hdep 0 (by kernel_rfl) w1 (rb_refl _)] at x0
            have x1 : Fr.tmps[34]? = some (u 1) := hN 1 _ 34 rfl rfl rfl
            rw [show u 1 = .int .i64 j from hdep 1 (by kernel_rfl) w1 (rb_refl _)] at x1
            clear hN hO hdep
            have hkI := HKI.out
            go_simp
            refine hK _ _ (rb_refl _) fun w3 h3 => ?_
            exact rfl
          · intro Fr u hN hO w1 hR hdep K hK
            rw [if_pos (by rfl)]
            have x2 : Fr.tmps[35]? = some (u 2) := hN 2 _ 35 rfl rfl rfl
            rw [show u 2 = .pointer (some (ad.add (j * 4))) from hdep 2 (by kernel_rfl) w1 (rb_refl _)] at x2
            clear hN hO hdep
            have z0 := cell_below hR E0.out
            have z1 := cell_below hR E1.out
            have z2 := cell_below hR E2.out
            have z3 := cell_below hR E3.out
            go_simp
            refine hK _ _ (rb_refl _) fun w3 h3 => ?_
            exact rfl
          · intro Fr u hN hO w1 hR hdep K hK
            rw [if_pos (by rfl)]
            have y2 : Fr.tmps[2]? = some (.pointer (some ⟨G, 0, none⟩)) := hO 2 _ rfl rfl
            clear hN hO hdep
            go_simp
            refine hK _ _ (rb_refl _) fun w3 h3 => ?_
            exact rfl
          · intro Fr u hN hO w1 hR hdep K hK
            rw [if_pos (by rfl)]
            have x4 : Fr.tmps[37]? = some (u 4) := hN 4 _ 37 rfl rfl rfl
            rw [show u 4 = .pointer (some ⟨G, 0, none⟩) from hdep 4 (by kernel_rfl) w1 (rb_refl _)] at x4
            clear hN hO hdep
            have gg := block_below hR HG.out
            have z0 := block_cell gg (i := 0) rfl
            have z1 := block_cell gg (i := 1) rfl
            have z2 := block_cell gg (i := 2) rfl
            have z3 := block_cell gg (i := 3) rfl
            have z4 := block_cell gg (i := 4) rfl
            go_simp
            refine hK _ _ (rb_refl _) fun w3 h3 => ?_
            exact rfl
          · intro Fr u hN hO w1 hR hdep K hK
            rw [if_pos (by rfl)]
            have y2 : Fr.tmps[2]? = some (.pointer (some ⟨G, 0, none⟩)) := hO 2 _ rfl rfl
            clear hN hO hdep
            go_simp
            refine hK _ _ (rb_refl _) fun w3 h3 => ?_
            exact rfl
          · intro Fr u hN hO w1 hR hdep K hK
            rw [if_pos (by rfl)]
            have x6 : Fr.tmps[39]? = some (u 6) := hN 6 _ 39 rfl rfl rfl
            rw [show u 6 = .pointer (some ⟨G, 2, none⟩) from hdep 6 (by kernel_rfl) w1 (rb_refl _)] at x6
            clear hN hO hdep
            have gg := block_below hR HG.out
            have z0 := block_cell gg (i := 0) rfl
            have z1 := block_cell gg (i := 1) rfl
            have z2 := block_cell gg (i := 2) rfl
            have z3 := block_cell gg (i := 3) rfl
            have z4 := block_cell gg (i := 4) rfl
            go_simp
            refine hK _ _ (rb_refl _) fun w3 h3 => ?_
            exact rfl
          · intro Fr u hN hO w1 hR hdep K hK
            rw [if_pos (by rfl)]
            have x3 : Fr.tmps[36]? = some (u 3) := hN 3 _ 36 rfl rfl rfl
            rw [show u 3 = .agg #[.int .i64 m.view, .int .i64 m.height, .string m.block, .slice A3 lx.length c3] from hdep 3 (by kernel_rfl) w1 (rb_refl _)] at x3
            have x5 : Fr.tmps[38]? = some (u 5) := hN 5 _ 38 rfl rfl rfl
            rw [show u 5 = .slice Ar roots.length cr from hdep 5 (by kernel_rfl) w1 (rb_refl _)] at x5
            have x7 : Fr.tmps[40]? = some (u 7) := hN 7 _ 40 rfl rfl rfl
            rw [show u 7 = .int .i64 q from hdep 7 (by kernel_rfl) w1 (rb_refl _)] at x7
            clear hN hO hdep
            go_simp
            refine (HRC.out w1 (Kd.row_below hR HX.out) (Kd.row_below hR HRR.out)).mono ?_
            rintro x w2 ⟨rfl, b2⟩
            refine hK _ _ b2 fun w3 h3 => ?_
            exact rfl
          · intro Fr u hN hO w1 hR hdep K hK
            rw [if_pos (by rfl)]
            have x8 : Fr.tmps[41]? = some (u 8) := hN 8 _ 41 rfl rfl rfl
            rw [show u 8 = .int .i64 0 from hdep 8 (by kernel_rfl) w1 (rb_refl _)] at x8
            clear hN hO hdep
            go_simp
            refine hK _ _ (rb_refl _) fun w3 h3 => ?_
            exact rfl
          · intro Fr u hN hO w1 hR hdep K hK
            rw [if_pos (by rfl)]
            have x9 : Fr.tmps[42]? = some (u 9) := hN 9 _ 42 rfl rfl rfl
            rw [show u 9 = .bool true from hdep 9 (by kernel_rfl) w1 (rb_refl _)] at x9
            clear hN hO hdep
            go_simp
            refine hK _ _ (rb_refl _) fun w3 h3 => ?_
            exact rfl
          · intro Fr u hN hO w1 hR hdep K hK
            have gx : Fr.tmps[43]? = some (u 10) := hN 10 _ 43 rfl rfl rfl
            rw [show u 10 = .bool true from hdep 10 (by kernel_rfl) w1 (rb_refl _)] at gx
            rw [if_pos (wanted_on (s := 43) rfl (by kernel_rfl) gx)]
            have y1 : Fr.tmps[1]? = some (.slice (some ad) 12 cl) := hO 1 _ rfl rfl
            clear hN hO hdep gx
            go_simp
            refine hK _ _ (rb_refl _) fun w3 h3 => ?_
            exact rfl
          · intro Fr u hN hO w1 hR hdep K hK
            have gx : Fr.tmps[43]? = some (u 10) := hN 10 _ 43 rfl rfl rfl
            rw [show u 10 = .bool true from hdep 10 (by kernel_rfl) w1 (rb_refl _)] at gx
            rw [if_pos (wanted_on (s := 43) rfl (by kernel_rfl) gx)]
            have y7 : Fr.tmps[7]? = some (.int .i64 j) := hO 7 _ rfl rfl
            clear hN hO hdep gx
            go_simp
            refine hK _ _ (rb_refl _) fun w3 h3 => ?_
            exact rfl
          · intro Fr u hN hO w1 hR hdep K hK
            have gx : Fr.tmps[43]? = some (u 10) := hN 10 _ 43 rfl rfl rfl
            rw [show u 10 = .bool true from hdep 10 (by kernel_rfl) w1 (rb_refl _)] at gx
            rw [if_pos (wanted_on (s := 43) rfl (by kernel_rfl) gx)]
            have x11 : Fr.tmps[44]? = some (u 11) := hN 11 _ 44 rfl rfl rfl
            rw [show u 11 = .slice (some ad) 12 cl from hdep 11 (by kernel_rfl) w1 (rb_refl _)] at x11
            have x12 : Fr.tmps[45]? = some (u 12) := hN 12 _ 45 rfl rfl rfl
            rw [show u 12 = .int .i64 j from hdep 12 (by kernel_rfl) w1 (rb_refl _)] at x12
            clear hN hO hdep gx
            have hkI := HKI.out
            go_simp
            refine hK _ _ (rb_refl _) fun w3 h3 => ?_
            exact rfl
          · intro Fr u hN hO w1 hR hdep K hK
            have gx : Fr.tmps[43]? = some (u 10) := hN 10 _ 43 rfl rfl rfl
            rw [show u 10 = .bool true from hdep 10 (by kernel_rfl) w1 (rb_refl _)] at gx
            rw [if_pos (wanted_on (s := 43) rfl (by kernel_rfl) gx)]
            have x13 : Fr.tmps[46]? = some (u 13) := hN 13 _ 46 rfl rfl rfl
            rw [show u 13 = .pointer (some (ad.add (j * 4))) from hdep 13 (by kernel_rfl) w1 (rb_refl _)] at x13
            clear hN hO hdep gx
            have z0 := cell_below hR E0.out
            have z1 := cell_below hR E1.out
            have z2 := cell_below hR E2.out
            have z3 := cell_below hR E3.out
            go_simp
            refine hK _ _ (rb_refl _) fun w3 h3 => ?_
            exact rfl
          · intro Fr u hN hO w1 hR hdep K hK
            have gx : Fr.tmps[43]? = some (u 10) := hN 10 _ 43 rfl rfl rfl
            rw [show u 10 = .bool true from hdep 10 (by kernel_rfl) w1 (rb_refl _)] at gx
            rw [if_pos (wanted_on (s := 43) rfl (by kernel_rfl) gx)]
            have x14 : Fr.tmps[47]? = some (u 14) := hN 14 _ 47 rfl rfl rfl
            rw [show u 14 = .agg #[.int .i64 m.view, .int .i64 m.height, .string m.block, .slice A3 lx.length c3] from hdep 14 (by kernel_rfl) w1 (rb_refl _)] at x14
            clear hN hO hdep gx
            go_simp
            refine (rank_calls m _ _ _ _).mono ?_
            rintro x w2 ⟨rfl, b2⟩
            refine hK _ _ b2 fun w3 h3 => ?_
            exact rfl
          · intro Fr u hN hO w1 hR hdep K hK
            have gx : Fr.tmps[43]? = some (u 10) := hN 10 _ 43 rfl rfl rfl
            rw [show u 10 = .bool true from hdep 10 (by kernel_rfl) w1 (rb_refl _)] at gx
            rw [if_pos (wanted_on (s := 43) rfl (by kernel_rfl) gx)]
            have y5 : Fr.tmps[5]? = some (.pointer (some ⟨G5, 0, none⟩)) := hO 5 _ rfl rfl
            clear hN hO hdep gx
            go_simp
            refine hK _ _ (rb_refl _) fun w3 h3 => ?_
            exact rfl
          · intro Fr u hN hO w1 hR hdep K hK
            have gx : Fr.tmps[43]? = some (u 10) := hN 10 _ 43 rfl rfl rfl
            rw [show u 10 = .bool true from hdep 10 (by kernel_rfl) w1 (rb_refl _)] at gx
            rw [if_pos (wanted_on (s := 43) rfl (by kernel_rfl) gx)]
            have x16 : Fr.tmps[49]? = some (u 16) := hN 16 _ 49 rfl rfl rfl
            rw [show u 16 = .pointer (some ⟨G5, 0, none⟩) from hdep 16 (by kernel_rfl) w1 (rb_refl _)] at x16
            clear hN hO hdep gx
            have gg := block_below hR HG5.out
            have z0 := block_cell gg (i := 0) rfl
            have z1 := block_cell gg (i := 1) rfl
            have z2 := block_cell gg (i := 2) rfl
            have z3 := block_cell gg (i := 3) rfl
            have z4 := block_cell gg (i := 4) rfl
            go_simp
            refine hK _ _ (rb_refl _) fun w3 h3 => ?_
            exact rfl
          · intro Fr u hN hO w1 hR hdep K hK
            have gx : Fr.tmps[43]? = some (u 10) := hN 10 _ 43 rfl rfl rfl
            rw [show u 10 = .bool true from hdep 10 (by kernel_rfl) w1 (rb_refl _)] at gx
            rw [if_pos (wanted_on (s := 43) rfl (by kernel_rfl) gx)]
            have x17 : Fr.tmps[50]? = some (u 17) := hN 17 _ 50 rfl rfl rfl
            rw [show u 17 = .agg #[.int .i64 s.m.view, .int .i64 s.m.height, .string s.m.block, .slice A5 s.vs.length c5] from hdep 17 (by kernel_rfl) w1 (rb_refl _)] at x17
            clear hN hO hdep gx
            go_simp
            refine (rank_calls s.m _ _ _ _).mono ?_
            rintro x w2 ⟨rfl, b2⟩
            refine hK _ _ b2 fun w3 h3 => ?_
            exact rfl
          · intro Fr u hN hO w1 hR hdep K hK
            have gx : Fr.tmps[43]? = some (u 10) := hN 10 _ 43 rfl rfl rfl
            rw [show u 10 = .bool true from hdep 10 (by kernel_rfl) w1 (rb_refl _)] at gx
            rw [if_pos (wanted_on (s := 43) rfl (by kernel_rfl) gx)]
            have x15 : Fr.tmps[48]? = some (u 15) := hN 15 _ 48 rfl rfl rfl
            rw [show u 15 = .agg #[.int .i64 m.view, .int .i64 m.height, .string ⟨#[]⟩] from hdep 15 (by kernel_rfl) w1 (rb_refl _)] at x15
            have x18 : Fr.tmps[51]? = some (u 18) := hN 18 _ 51 rfl rfl rfl
            rw [show u 18 = .agg #[.int .i64 s.m.view, .int .i64 s.m.height, .string ⟨#[]⟩] from hdep 18 (by kernel_rfl) w1 (rb_refl _)] at x18
            clear hN hO hdep gx
            go_simp
            refine (HHI.out w1).mono ?_
            rintro x w2 ⟨rfl, b2⟩
            refine hK _ _ b2 fun w3 h3 => ?_
            exact rfl
          · intro Fr u hN hO w1 hR hdep K hK
            rw [if_pos (by rfl)]
            have x10 : Fr.tmps[43]? = some (u 10) := hN 10 _ 43 rfl rfl rfl
            rw [show u 10 = .bool true from hdep 10 (by kernel_rfl) w1 (rb_refl _)] at x10
            have x19 : Fr.tmps[52]? = some (u 19) := hN 19 _ 52 rfl rfl rfl
            rw [show u 19 = .bool false from hdep 19 (by kernel_rfl) w1 (rb_refl _)] at x19
            clear hN hO hdep
            go_simp
            refine hK _ _ (rb_refl _) fun w3 h3 => ?_
            exact rfl
          · intro u w' hR hall
            have h20 : u 20 = .bool false := hall 20 (by decide)
            have bw : Below V.heap.size V w' := bl_trans (bl_drew (Below.refl _ _)) hR
            clear hall
            simp only [frameF, Act.put, List.setIfInBounds_toArray, List.set_cons_zero, List.set_cons_succ, Nat.reduceAdd, h20]
            clear h20
            have own9 := Kd.own_below HOWN.out bw
            have q9 := bl_trans q5 bw
            have r5 := block_below bw HG5.out
            have r0 := block_below bw HG.out
            have k9 := Kd.row_below bw HKA.out
            go_wp2_with fail
            go_roundw
            case rel => exact ⟨j, (j : Int) - 1, by omega, by omega, by go_num, own9, q9, r5, r0, k9⟩
            case measure => simp [intOf]
        case neg =>
          have hne : (res == 0) = false := by rw [beq_eq_false_iff_ne]; exact hz
          have HNE := Lib.hid hne
          clear hne hz
          refine wp_region_invA (by kernel_rfl) (by kernel_rfl) Rb (blN G G5 j 12 cl ad m s.m A3 A5 Ar lx.length s.vs.length roots.length c3 c5 cr q res) rb_refl rb_trans ⟨?_, ?_, ?_, ?_, ?_, ?_, ?_, ?_, ?_, ?_, ?_, ?_, ?_, ?_, ?_, ?_, ?_, ?_, ?_, ?_, ?_, trivial⟩ ?_
          · intro Fr u hN hO w1 hR hdep K hK
            rw [if_pos (by rfl)]
            have y1 : Fr.tmps[1]? = some (.slice (some ad) 12 cl) := hO 1 _ rfl rfl
            clear hN hO hdep
            go_simp
            refine hK _ _ (rb_refl _) fun w3 h3 => ?_
            exact rfl
          · intro Fr u hN hO w1 hR hdep K hK
            rw [if_pos (by rfl)]
            have y7 : Fr.tmps[7]? = some (.int .i64 j) := hO 7 _ rfl rfl
            clear hN hO hdep
            go_simp
            refine hK _ _ (rb_refl _) fun w3 h3 => ?_
            exact rfl
          · intro Fr u hN hO w1 hR hdep K hK
            rw [if_pos (by rfl)]
            have x0 : Fr.tmps[33]? = some (u 0) := hN 0 _ 33 rfl rfl rfl
            rw [show u 0 = .slice (some ad) 12 cl from hdep 0 (by kernel_rfl) w1 (rb_refl _)] at x0
            have x1 : Fr.tmps[34]? = some (u 1) := hN 1 _ 34 rfl rfl rfl
            rw [show u 1 = .int .i64 j from hdep 1 (by kernel_rfl) w1 (rb_refl _)] at x1
            clear hN hO hdep
            have hkI := HKI.out
            go_simp
            refine hK _ _ (rb_refl _) fun w3 h3 => ?_
            exact rfl
          · intro Fr u hN hO w1 hR hdep K hK
            rw [if_pos (by rfl)]
            have x2 : Fr.tmps[35]? = some (u 2) := hN 2 _ 35 rfl rfl rfl
            rw [show u 2 = .pointer (some (ad.add (j * 4))) from hdep 2 (by kernel_rfl) w1 (rb_refl _)] at x2
            clear hN hO hdep
            have z0 := cell_below hR E0.out
            have z1 := cell_below hR E1.out
            have z2 := cell_below hR E2.out
            have z3 := cell_below hR E3.out
            go_simp
            refine hK _ _ (rb_refl _) fun w3 h3 => ?_
            exact rfl
          · intro Fr u hN hO w1 hR hdep K hK
            rw [if_pos (by rfl)]
            have y2 : Fr.tmps[2]? = some (.pointer (some ⟨G, 0, none⟩)) := hO 2 _ rfl rfl
            clear hN hO hdep
            go_simp
            refine hK _ _ (rb_refl _) fun w3 h3 => ?_
            exact rfl
          · intro Fr u hN hO w1 hR hdep K hK
            rw [if_pos (by rfl)]
            have x4 : Fr.tmps[37]? = some (u 4) := hN 4 _ 37 rfl rfl rfl
            rw [show u 4 = .pointer (some ⟨G, 0, none⟩) from hdep 4 (by kernel_rfl) w1 (rb_refl _)] at x4
            clear hN hO hdep
            have gg := block_below hR HG.out
            have z0 := block_cell gg (i := 0) rfl
            have z1 := block_cell gg (i := 1) rfl
            have z2 := block_cell gg (i := 2) rfl
            have z3 := block_cell gg (i := 3) rfl
            have z4 := block_cell gg (i := 4) rfl
            go_simp
            refine hK _ _ (rb_refl _) fun w3 h3 => ?_
            exact rfl
          · intro Fr u hN hO w1 hR hdep K hK
            rw [if_pos (by rfl)]
            have y2 : Fr.tmps[2]? = some (.pointer (some ⟨G, 0, none⟩)) := hO 2 _ rfl rfl
            clear hN hO hdep
            go_simp
            refine hK _ _ (rb_refl _) fun w3 h3 => ?_
            exact rfl
          · intro Fr u hN hO w1 hR hdep K hK
            rw [if_pos (by rfl)]
            have x6 : Fr.tmps[39]? = some (u 6) := hN 6 _ 39 rfl rfl rfl
            rw [show u 6 = .pointer (some ⟨G, 2, none⟩) from hdep 6 (by kernel_rfl) w1 (rb_refl _)] at x6
            clear hN hO hdep
            have gg := block_below hR HG.out
            have z0 := block_cell gg (i := 0) rfl
            have z1 := block_cell gg (i := 1) rfl
            have z2 := block_cell gg (i := 2) rfl
            have z3 := block_cell gg (i := 3) rfl
            have z4 := block_cell gg (i := 4) rfl
            go_simp
            refine hK _ _ (rb_refl _) fun w3 h3 => ?_
            exact rfl
          · intro Fr u hN hO w1 hR hdep K hK
            rw [if_pos (by rfl)]
            have x3 : Fr.tmps[36]? = some (u 3) := hN 3 _ 36 rfl rfl rfl
            rw [show u 3 = .agg #[.int .i64 m.view, .int .i64 m.height, .string m.block, .slice A3 lx.length c3] from hdep 3 (by kernel_rfl) w1 (rb_refl _)] at x3
            have x5 : Fr.tmps[38]? = some (u 5) := hN 5 _ 38 rfl rfl rfl
            rw [show u 5 = .slice Ar roots.length cr from hdep 5 (by kernel_rfl) w1 (rb_refl _)] at x5
            have x7 : Fr.tmps[40]? = some (u 7) := hN 7 _ 40 rfl rfl rfl
            rw [show u 7 = .int .i64 q from hdep 7 (by kernel_rfl) w1 (rb_refl _)] at x7
            clear hN hO hdep
            go_simp
            refine (HRC.out w1 (Kd.row_below hR HX.out) (Kd.row_below hR HRR.out)).mono ?_
            rintro x w2 ⟨rfl, b2⟩
            refine hK _ _ b2 fun w3 h3 => ?_
            exact rfl
          · intro Fr u hN hO w1 hR hdep K hK
            rw [if_pos (by rfl)]
            have x8 : Fr.tmps[41]? = some (u 8) := hN 8 _ 41 rfl rfl rfl
            rw [show u 8 = .int .i64 res from hdep 8 (by kernel_rfl) w1 (rb_refl _)] at x8
            clear hN hO hdep
            have hne := HNE.out
            go_simp
            refine hK _ _ (rb_refl _) fun w3 h3 => ?_
            exact rfl
          · intro Fr u hN hO w1 hR hdep K hK
            rw [if_pos (by rfl)]
            have x9 : Fr.tmps[42]? = some (u 9) := hN 9 _ 42 rfl rfl rfl
            rw [show u 9 = .bool false from hdep 9 (by kernel_rfl) w1 (rb_refl _)] at x9
            clear hN hO hdep
            go_simp
            refine hK _ _ (rb_refl _) fun w3 h3 => ?_
            exact rfl
          · intro Fr u hN hO w1 hR hdep K hK
            have gx : Fr.tmps[43]? = some (u 10) := hN 10 _ 43 rfl rfl rfl
            rw [show u 10 = .bool false from hdep 10 (by kernel_rfl) w1 (rb_refl _)] at gx
            rw [if_neg (wanted_off (s := 43) rfl (by kernel_rfl) gx (by decide))]
            exact hK _ _ (rb_refl _) fun w3 h3 => rfl
          · intro Fr u hN hO w1 hR hdep K hK
            have gx : Fr.tmps[43]? = some (u 10) := hN 10 _ 43 rfl rfl rfl
            rw [show u 10 = .bool false from hdep 10 (by kernel_rfl) w1 (rb_refl _)] at gx
            rw [if_neg (wanted_off (s := 43) rfl (by kernel_rfl) gx (by decide))]
            exact hK _ _ (rb_refl _) fun w3 h3 => rfl
          · intro Fr u hN hO w1 hR hdep K hK
            have gx : Fr.tmps[43]? = some (u 10) := hN 10 _ 43 rfl rfl rfl
            rw [show u 10 = .bool false from hdep 10 (by kernel_rfl) w1 (rb_refl _)] at gx
            rw [if_neg (wanted_off (s := 43) rfl (by kernel_rfl) gx (by decide))]
            exact hK _ _ (rb_refl _) fun w3 h3 => rfl
          · intro Fr u hN hO w1 hR hdep K hK
            have gx : Fr.tmps[43]? = some (u 10) := hN 10 _ 43 rfl rfl rfl
            rw [show u 10 = .bool false from hdep 10 (by kernel_rfl) w1 (rb_refl _)] at gx
            rw [if_neg (wanted_off (s := 43) rfl (by kernel_rfl) gx (by decide))]
            exact hK _ _ (rb_refl _) fun w3 h3 => rfl
          · intro Fr u hN hO w1 hR hdep K hK
            have gx : Fr.tmps[43]? = some (u 10) := hN 10 _ 43 rfl rfl rfl
            rw [show u 10 = .bool false from hdep 10 (by kernel_rfl) w1 (rb_refl _)] at gx
            rw [if_neg (wanted_off (s := 43) rfl (by kernel_rfl) gx (by decide))]
            exact hK _ _ (rb_refl _) fun w3 h3 => rfl
          · intro Fr u hN hO w1 hR hdep K hK
            have gx : Fr.tmps[43]? = some (u 10) := hN 10 _ 43 rfl rfl rfl
            rw [show u 10 = .bool false from hdep 10 (by kernel_rfl) w1 (rb_refl _)] at gx
            rw [if_neg (wanted_off (s := 43) rfl (by kernel_rfl) gx (by decide))]
            exact hK _ _ (rb_refl _) fun w3 h3 => rfl
          · intro Fr u hN hO w1 hR hdep K hK
            have gx : Fr.tmps[43]? = some (u 10) := hN 10 _ 43 rfl rfl rfl
            rw [show u 10 = .bool false from hdep 10 (by kernel_rfl) w1 (rb_refl _)] at gx
            rw [if_neg (wanted_off (s := 43) rfl (by kernel_rfl) gx (by decide))]
            exact hK _ _ (rb_refl _) fun w3 h3 => rfl
          · intro Fr u hN hO w1 hR hdep K hK
            have gx : Fr.tmps[43]? = some (u 10) := hN 10 _ 43 rfl rfl rfl
            rw [show u 10 = .bool false from hdep 10 (by kernel_rfl) w1 (rb_refl _)] at gx
            rw [if_neg (wanted_off (s := 43) rfl (by kernel_rfl) gx (by decide))]
            exact hK _ _ (rb_refl _) fun w3 h3 => rfl
          · intro Fr u hN hO w1 hR hdep K hK
            have gx : Fr.tmps[43]? = some (u 10) := hN 10 _ 43 rfl rfl rfl
            rw [show u 10 = .bool false from hdep 10 (by kernel_rfl) w1 (rb_refl _)] at gx
            rw [if_neg (wanted_off (s := 43) rfl (by kernel_rfl) gx (by decide))]
            exact hK _ _ (rb_refl _) fun w3 h3 => rfl
          · intro Fr u hN hO w1 hR hdep K hK
            rw [if_pos (by rfl)]
            have x10 : Fr.tmps[43]? = some (u 10) := hN 10 _ 43 rfl rfl rfl
            rw [show u 10 = .bool false from hdep 10 (by kernel_rfl) w1 (rb_refl _)] at x10
            have x19 : Fr.tmps[52]? = some (u 19) := hN 19 _ 52 rfl rfl rfl
            rw [show u 19 = undef from hdep 19 (by kernel_rfl) w1 (rb_refl _)] at x19
            clear hN hO hdep
            go_simp
            refine hK _ _ (rb_refl _) fun w3 h3 => ?_
            exact rfl
          · intro u w' hR hall
            have h20 : u 20 = .bool false := hall 20 (by decide)
            have bw : Below V.heap.size V w' := bl_trans (bl_drew (Below.refl _ _)) hR
            clear hall
            simp only [frameF, Act.put, List.setIfInBounds_toArray, List.set_cons_zero, List.set_cons_succ, Nat.reduceAdd, h20]
            clear h20
            have own9 := Kd.own_below HOWN.out bw
            have q9 := bl_trans q5 bw
            have r5 := block_below bw HG5.out
            have r0 := block_below bw HG.out
            have k9 := Kd.row_below bw HKA.out
            go_wp2_with fail
            go_roundw
            case rel => exact ⟨j, (j : Int) - 1, by omega, by omega, by go_num, own9, q9, r5, r0, k9⟩
            case measure => simp [intOf]
  case neg =>
    have hlx' := hlx
    have hrl' := hrl
    have hlen12 : l.length ≤ 12 := by omega
    go_enter Try.func8, Try.ntmps8
    go_upto_region 1 with fail
    change Code.wp _ _ _ _ (w.alloc (.cells #[.slice Ar roots.length cr, .slice Ac nC cc, .int .i64 q, .int .i64 base, .int .i64 cap] 57))
    obtain ⟨G, hG⟩ : ∃ G, w.heap.size = G := ⟨_, rfl⟩
    generalize w.alloc (.cells #[.slice Ar roots.length cr, .slice Ac nC cc, .int .i64 q, .int .i64 base, .int .i64 cap] 57) = V0 at *
    have HG0 := Lib.hid hG
    rw [hG] at a0
    simp only [hG]
    clear hG
    go_upto_region 3 with (go_at_call 31; refine (alive36_calls _).mono ?_; rintro x w1 ⟨rfl, b1⟩)
    have q1 := bl_trans q0 b1
    have gc1 := block_below b1 a0
    have lb := Kd.row_below q1 hrl'
    have rb := Kd.row_below q1 hrr
    have HB := Lib.hid fun W A n c (hA : kCert.Row 35 B0 W A l) (hn : n = l.length) (hr : Kd.str.Row 9 B0 W Ar roots) (hB : B0 ≤ W.heap.size) => best_calls l roots q base cap Ar Ac A cr nC cc c n B0 W hn hB (by omega) hlx' hlr hA hr
    obtain ⟨s, hs⟩ : ∃ s, bestF roots q l = s := ⟨_, rfl⟩
    have hok := bestF_ok roots q l hlen12
    have hcov := fun x hx hr => bestF_covers roots q l x hx hr
    rw [hs] at hok hcov
    obtain ⟨s2, hs2⟩ : ∃ s2, bestF roots q l.reverse = s2 := ⟨_, rfl⟩
    have hrk := bestF_rank roots q l l.reverse (fun x => by simp)
    rw [hs, hs2] at hrk
    have HB1 := Lib.hid fun W A n c hA hn hr hB => (HB.out W A n c hA hn hr hB).mono fun _ _ k => (hs ▸ k : BestPost s W _ _)
    have HBR := Lib.hid fun W A n c (hA : kCert.Row 35 B0 W A l.reverse) (hn : n = l.reverse.length) (hr : Kd.str.Row 9 B0 W Ar roots) (hB : B0 ≤ W.heap.size) => (best_calls l.reverse roots q base cap Ar Ac A cr nC cc c n B0 W hn hB (by simp; omega) (fun x hx => hlx' x (List.mem_reverse.1 hx)) hlr hA hr).mono fun _ _ k => (hs2 ▸ k : BestPost s2 W _ _)
    have HOK := Lib.hid hok
    have HCOV := Lib.hid hcov
    have HRK := Lib.hid hrk
    have hslen : s.vs.length ≤ 1048576 := by rw [← hs]; have := bestF_len roots q 1048576 l hlx' l.length; rwa [List.take_length] at this
    clear hs hs2 HB hok hcov hrk
    have HLB := Lib.hid lb
    have HRB := Lib.hid rb
    have HB0 := Lib.hid (Nat.le_trans hB0 q1.size)
    clear lb rb
    have x0 := block_cell gc1 (i := 0) rfl
    have x1 := block_cell gc1 (i := 1) rfl
    have x2 := block_cell gc1 (i := 2) rfl
    have x3 := block_cell gc1 (i := 3) rfl
    have x4 := block_cell gc1 (i := 4) rfl
    go_upto_region 6 with (go_at_call 33; refine (HB1.out _ _ _ _ HLB.out rfl HRB.out HB0.out).mono ?_; rintro x w2 ⟨⟨A5, c5, rfl, k5⟩, b2⟩)
    change Code.wp _ _ _ _ (w2.alloc (.cells #[.int .i64 s.m.view, .int .i64 s.m.height, .string s.m.block, .slice A5 s.vs.length c5, .int .i64 s.t] 55))
    have b3 := bl_alloc b2 (.cells #[.int .i64 s.m.view, .int .i64 s.m.height, .string s.m.block, .slice A5 s.vs.length c5, .int .i64 s.t] 55)
    have a5 : (w2.alloc (.cells #[.int .i64 s.m.view, .int .i64 s.m.height, .string s.m.block, .slice A5 s.vs.length c5, .int .i64 s.t] 55)).heap[w2.heap.size]? = some (.cells #[.int .i64 s.m.view, .int .i64 s.m.height, .string s.m.block, .slice A5 s.vs.length c5, .int .i64 s.t] 55 (0, 0)) := alloc_new w2 _
    have gc3 := block_below b3 gc1
    have k6 := Kd.row_below (bl_alloc (Below.refl w2.heap.size w2) (.cells #[.int .i64 s.m.view, .int .i64 s.m.height, .string s.m.block, .slice A5 s.vs.length c5, .int .i64 s.t] 55)) k5
    have q3 := bl_trans q1 b3
    obtain ⟨G5, hG5⟩ : ∃ G5, w2.heap.size = G5 := ⟨_, rfl⟩
    generalize w2.alloc (.cells #[.int .i64 s.m.view, .int .i64 s.m.height, .string s.m.block, .slice A5 s.vs.length c5, .int .i64 s.t] 55) = V1 at *
    simp only [hG5] at a5 ⊢
    clear hG5 b2 b3 k5 gc1 q1 b1 HB1 HLB HRB HB0 x0 x1 x2 x3 x4
    go_wp2_with fail
    go_loopw [6, 7] (fun bv iv w' => ∃ (j : Nat) (i : Int), j ≤ l.length ∧ i + 1 = (j : Int) ∧ iv = .int .i64 i ∧ kCert.Own 35 B0 w' w.heap.size bv (l.drop j).reverse ∧ Below w.heap.size w w' ∧ w'.heap[G5]? = some (.cells #[.int .i64 s.m.view, .int .i64 s.m.height, .string s.m.block, .slice A5 s.vs.length c5, .int .i64 s.t] 55 (0, 0)) ∧ w'.heap[G]? = some (.cells #[.slice Ar roots.length cr, .slice Ac nC cc, .int .i64 q, .int .i64 base, .int .i64 cap] 57 (0, 0)) ∧ kVote.Row 28 0 w' A5 s.vs) (fun _ iv _ => (intOf iv + 1).toNat)
    case atStart => exact ⟨l.length, (l.length : Int) - 1, Nat.le_refl _, by omega, rfl, by rw [List.drop_length]; exact Kd.own_nil _ _ _ _ _, q3, a5, gc3, k6⟩
    case round =>
      clear a5 gc3 k6 q3
      obtain ⟨j1, i, hj1, hi1, rfl, own, bel, g5, g0, rowa⟩ := hrel
      rename World => wr
      by_cases hi0 : i < 0
      case pos =>
        obtain rfl : j1 = 0 := by omega
        obtain rfl : i = -1 := by omega
        rw [List.drop_zero] at own
        obtain ⟨A1b, c1b, rfl, o1, o2, rowb, _⟩ := Kd.own_row own
        have hnb : l.reverse.length = l.reverse.length := rfl
        obtain ⟨nb, hnb⟩ : ∃ nb, l.reverse.length = nb := ⟨_, rfl⟩
        rw [hnb]
        have HNB := Lib.hid hnb.symm
        have HRW := Lib.hid rowb
        have HRB := Lib.hid (Kd.row_below bel hrr)
        have HB0 := Lib.hid (Nat.le_trans hB0 bel.size)
        have HX0 := Lib.hid g0
        have HX5 := Lib.hid g5
        have HXK := Lib.hid rowa
        have x0 := block_cell g0 (i := 0) rfl
        have x1 := block_cell g0 (i := 1) rfl
        have x2 := block_cell g0 (i := 2) rfl
        have x3 := block_cell g0 (i := 3) rfl
        have x4 := block_cell g0 (i := 4) rfl
        clear hnb own rowb o1 o2 g0 g5 rowa hi0 hi1 hj1
        go_upto_region 14 with (go_at_call 33; refine (HBR.out _ _ _ _ HRW.out HNB.out HRB.out HB0.out).mono ?_; rintro x w3 ⟨⟨A8, c8, rfl, k8⟩, b8⟩)
        change Code.wp _ _ _ _ (w3.alloc (.cells #[.int .i64 s2.m.view, .int .i64 s2.m.height, .string s2.m.block, .slice A8 s2.vs.length c8, .int .i64 s2.t] 55))
        have b9 := bl_alloc b8 (.cells #[.int .i64 s2.m.view, .int .i64 s2.m.height, .string s2.m.block, .slice A8 s2.vs.length c8, .int .i64 s2.t] 55)
        have a8 : (w3.alloc (.cells #[.int .i64 s2.m.view, .int .i64 s2.m.height, .string s2.m.block, .slice A8 s2.vs.length c8, .int .i64 s2.t] 55)).heap[w3.heap.size]? = some (.cells #[.int .i64 s2.m.view, .int .i64 s2.m.height, .string s2.m.block, .slice A8 s2.vs.length c8, .int .i64 s2.t] 55 (0, 0)) := alloc_new w3 _
        have q9 := bl_trans bel b9
        have HG := Lib.hid (block_below b9 HX0.out)
        have HG5 := Lib.hid (block_below b9 HX5.out)
        have HK := Lib.hid (row_up (Nat.zero_le B0) (Kd.row_below b9 HXK.out))
        have HRR := Lib.hid (Kd.row_below b9 HRB.out)
        obtain ⟨G8, hG8⟩ : ∃ G8, w3.heap.size = G8 := ⟨_, rfl⟩
        generalize w3.alloc (.cells #[.int .i64 s2.m.view, .int .i64 s2.m.height, .string s2.m.block, .slice A8 s2.vs.length c8, .int .i64 s2.t] 55) = V2 at *
        simp only [hG8] at a8 ⊢
        have HG8 := Lib.hid a8
        clear hG8 a8 b8 b9 k8 x0 x1 x2 x3 x4 HX0 HX5 HXK HRB HRW HNB
        have hq : ∀ W, (binOp .eql 26 (.agg #[.int .i64 s.m.view, .int .i64 s.m.height, .string ⟨#[]⟩]) (.agg #[.int .i64 s2.m.view, .int .i64 s2.m.height, .string ⟨#[]⟩])).run Try.prog W = .ok (.bool true) W := fun W => by
          have := eqlMark ⟨s.m.view, s.m.height, ⟨#[]⟩⟩ ⟨s2.m.view, s2.m.height, ⟨#[]⟩⟩ W
          rw [decide_eq_true (by rw [HRK.out.1, HRK.out.2])] at this
          exact this
        have HQ := Lib.hid hq
        have hle : s.t ≤ (l.length : Int) := by have := HOK.out.up; omega
        have HLE := Lib.hid hle
        have hr0 := fun (W : World) (h1 : kVote.Row 28 B0 W A5 s.vs) (h2 : Kd.str.Row 9 B0 W Ar roots) => refcert_calls s.m s.vs roots q A5 Ar c5 cr B0 W hslen hlr h1 h2
        rw [HOK.out.right] at hr0
        have HR0 := Lib.hid hr0
        clear hq hle hr0
        refine wp_region_invA (by kernel_rfl) (by kernel_rfl) Rb (bl14 G G5 G8 cl (l.length : Int) Al A5 A8 Ar s s2 l.length s.vs.length s2.vs.length roots.length c5 c8 cr q) rb_refl rb_trans ⟨?_, ?_, ?_, ?_, ?_, ?_, ?_, ?_, ?_, ?_, ?_, ?_, ?_, ?_, ?_, ?_, ?_, ?_, ?_, ?_, ?_, ?_, ?_, ?_, ?_, trivial⟩ ?_
        · intro Fr u hN hO w1 hR hdep K hK
          rw [if_pos (by rfl)]
          have y5 : Fr.tmps[5]? = some (.pointer (some ⟨G5, 0, none⟩)) := hO 5 _ rfl rfl
          clear hN hO hdep
          go_simp
          refine hK _ _ (rb_refl _) fun w3 h3 => ?_
          exact rfl
        · intro Fr u hN hO w1 hR hdep K hK
          rw [if_pos (by rfl)]
          have x0 : Fr.tmps[57]? = some (u 0) := hN 0 _ 57 rfl rfl rfl
          rw [show u 0 = .pointer (some ⟨G5, 0, none⟩) from hdep 0 (by kernel_rfl) w1 (rb_refl _)] at x0
          clear hN hO hdep
          have gg := block_below hR HG5.out
          have z0 := block_cell gg (i := 0) rfl
          have z1 := block_cell gg (i := 1) rfl
          have z2 := block_cell gg (i := 2) rfl
          have z3 := block_cell gg (i := 3) rfl
          have z4 := block_cell gg (i := 4) rfl
          go_simp
          refine hK _ _ (rb_refl _) fun w3 h3 => ?_
          exact rfl
        · intro Fr u hN hO w1 hR hdep K hK
          rw [if_pos (by rfl)]
          have x1 : Fr.tmps[58]? = some (u 1) := hN 1 _ 58 rfl rfl rfl
          rw [show u 1 = .agg #[.int .i64 s.m.view, .int .i64 s.m.height, .string s.m.block, .slice A5 s.vs.length c5] from hdep 1 (by kernel_rfl) w1 (rb_refl _)] at x1
          clear hN hO hdep
          go_simp
          refine (rank_calls s.m _ _ _ _).mono ?_
          rintro x w2 ⟨rfl, b2⟩
          refine hK _ _ b2 fun w3 h3 => ?_
          exact rfl
        · intro Fr u hN hO w1 hR hdep K hK
          rw [if_pos (by rfl)]
          have y8 : Fr.tmps[8]? = some (.pointer (some ⟨G8, 0, none⟩)) := hO 8 _ rfl rfl
          clear hN hO hdep
          go_simp
          refine hK _ _ (rb_refl _) fun w3 h3 => ?_
          exact rfl
        · intro Fr u hN hO w1 hR hdep K hK
          rw [if_pos (by rfl)]
          have x3 : Fr.tmps[60]? = some (u 3) := hN 3 _ 60 rfl rfl rfl
          rw [show u 3 = .pointer (some ⟨G8, 0, none⟩) from hdep 3 (by kernel_rfl) w1 (rb_refl _)] at x3
          clear hN hO hdep
          have gg := block_below hR HG8.out
          have z0 := block_cell gg (i := 0) rfl
          have z1 := block_cell gg (i := 1) rfl
          have z2 := block_cell gg (i := 2) rfl
          have z3 := block_cell gg (i := 3) rfl
          have z4 := block_cell gg (i := 4) rfl
          go_simp
          refine hK _ _ (rb_refl _) fun w3 h3 => ?_
          exact rfl
        · intro Fr u hN hO w1 hR hdep K hK
          rw [if_pos (by rfl)]
          have x4 : Fr.tmps[61]? = some (u 4) := hN 4 _ 61 rfl rfl rfl
          rw [show u 4 = .agg #[.int .i64 s2.m.view, .int .i64 s2.m.height, .string s2.m.block, .slice A8 s2.vs.length c8] from hdep 4 (by kernel_rfl) w1 (rb_refl _)] at x4
          clear hN hO hdep
          go_simp
          refine (rank_calls s2.m _ _ _ _).mono ?_
          rintro x w2 ⟨rfl, b2⟩
          refine hK _ _ b2 fun w3 h3 => ?_
          exact rfl
        · intro Fr u hN hO w1 hR hdep K hK
          rw [if_pos (by rfl)]
          have x2 : Fr.tmps[59]? = some (u 2) := hN 2 _ 59 rfl rfl rfl
          rw [show u 2 = .agg #[.int .i64 s.m.view, .int .i64 s.m.height, .string ⟨#[]⟩] from hdep 2 (by kernel_rfl) w1 (rb_refl _)] at x2
          have x5 : Fr.tmps[62]? = some (u 5) := hN 5 _ 62 rfl rfl rfl
          rw [show u 5 = .agg #[.int .i64 s2.m.view, .int .i64 s2.m.height, .string ⟨#[]⟩] from hdep 5 (by kernel_rfl) w1 (rb_refl _)] at x5
          clear hN hO hdep
          have hq := HQ.out
          go_simp
          refine hK _ _ (rb_refl _) fun w3 h3 => ?_
          exact rfl
        · intro Fr u hN hO w1 hR hdep K hK
          rw [if_pos (by rfl)]
          have x6 : Fr.tmps[63]? = some (u 6) := hN 6 _ 63 rfl rfl rfl
          rw [show u 6 = .bool true from hdep 6 (by kernel_rfl) w1 (rb_refl _)] at x6
          clear hN hO hdep
          go_simp
          refine hK _ _ (rb_refl _) fun w3 h3 => ?_
          exact rfl
        · intro Fr u hN hO w1 hR hdep K hK
          have gx : Fr.tmps[64]? = some (u 7) := hN 7 _ 64 rfl rfl rfl
          rw [show u 7 = .bool true from hdep 7 (by kernel_rfl) w1 (rb_refl _)] at gx
          rw [if_pos (wanted_on (s := 64) rfl (by kernel_rfl) gx)]
          have y5 : Fr.tmps[5]? = some (.pointer (some ⟨G5, 0, none⟩)) := hO 5 _ rfl rfl
          clear hN hO hdep gx
          go_simp
          refine hK _ _ (rb_refl _) fun w3 h3 => ?_
          exact rfl
        · intro Fr u hN hO w1 hR hdep K hK
          have gx : Fr.tmps[64]? = some (u 7) := hN 7 _ 64 rfl rfl rfl
          rw [show u 7 = .bool true from hdep 7 (by kernel_rfl) w1 (rb_refl _)] at gx
          rw [if_pos (wanted_on (s := 64) rfl (by kernel_rfl) gx)]
          have x8 : Fr.tmps[65]? = some (u 8) := hN 8 _ 65 rfl rfl rfl
          rw [show u 8 = .pointer (some ⟨G5, 0, none⟩) from hdep 8 (by kernel_rfl) w1 (rb_refl _)] at x8
          clear hN hO hdep gx
          have gg := block_below hR HG5.out
          have z0 := block_cell gg (i := 0) rfl
          have z1 := block_cell gg (i := 1) rfl
          have z2 := block_cell gg (i := 2) rfl
          have z3 := block_cell gg (i := 3) rfl
          have z4 := block_cell gg (i := 4) rfl
          go_simp
          refine hK _ _ (rb_refl _) fun w3 h3 => ?_
          exact rfl
        · intro Fr u hN hO w1 hR hdep K hK
          have gx : Fr.tmps[64]? = some (u 7) := hN 7 _ 64 rfl rfl rfl
          rw [show u 7 = .bool true from hdep 7 (by kernel_rfl) w1 (rb_refl _)] at gx
          rw [if_pos (wanted_on (s := 64) rfl (by kernel_rfl) gx)]
          have y2 : Fr.tmps[2]? = some (.pointer (some ⟨G, 0, none⟩)) := hO 2 _ rfl rfl
          clear hN hO hdep gx
          go_simp
          refine hK _ _ (rb_refl _) fun w3 h3 => ?_
          exact rfl
        · intro Fr u hN hO w1 hR hdep K hK
          have gx : Fr.tmps[64]? = some (u 7) := hN 7 _ 64 rfl rfl rfl
          rw [show u 7 = .bool true from hdep 7 (by kernel_rfl) w1 (rb_refl _)] at gx
          rw [if_pos (wanted_on (s := 64) rfl (by kernel_rfl) gx)]
          have x10 : Fr.tmps[67]? = some (u 10) := hN 10 _ 67 rfl rfl rfl
          rw [show u 10 = .pointer (some ⟨G, 0, none⟩) from hdep 10 (by kernel_rfl) w1 (rb_refl _)] at x10
          clear hN hO hdep gx
          have gg := block_below hR HG.out
          have z0 := block_cell gg (i := 0) rfl
          have z1 := block_cell gg (i := 1) rfl
          have z2 := block_cell gg (i := 2) rfl
          have z3 := block_cell gg (i := 3) rfl
          have z4 := block_cell gg (i := 4) rfl
          go_simp
          refine hK _ _ (rb_refl _) fun w3 h3 => ?_
          exact rfl
        · intro Fr u hN hO w1 hR hdep K hK
          have gx : Fr.tmps[64]? = some (u 7) := hN 7 _ 64 rfl rfl rfl
          rw [show u 7 = .bool true from hdep 7 (by kernel_rfl) w1 (rb_refl _)] at gx
          rw [if_pos (wanted_on (s := 64) rfl (by kernel_rfl) gx)]
          have y2 : Fr.tmps[2]? = some (.pointer (some ⟨G, 0, none⟩)) := hO 2 _ rfl rfl
          clear hN hO hdep gx
          go_simp
          refine hK _ _ (rb_refl _) fun w3 h3 => ?_
          exact rfl
        · intro Fr u hN hO w1 hR hdep K hK
          have gx : Fr.tmps[64]? = some (u 7) := hN 7 _ 64 rfl rfl rfl
          rw [show u 7 = .bool true from hdep 7 (by kernel_rfl) w1 (rb_refl _)] at gx
          rw [if_pos (wanted_on (s := 64) rfl (by kernel_rfl) gx)]
          have x12 : Fr.tmps[69]? = some (u 12) := hN 12 _ 69 rfl rfl rfl
          rw [show u 12 = .pointer (some ⟨G, 2, none⟩) from hdep 12 (by kernel_rfl) w1 (rb_refl _)] at x12
          clear hN hO hdep gx
          have gg := block_below hR HG.out
          have z0 := block_cell gg (i := 0) rfl
          have z1 := block_cell gg (i := 1) rfl
          have z2 := block_cell gg (i := 2) rfl
          have z3 := block_cell gg (i := 3) rfl
          have z4 := block_cell gg (i := 4) rfl
          go_simp
          refine hK _ _ (rb_refl _) fun w3 h3 => ?_
          exact rfl
        · intro Fr u hN hO w1 hR hdep K hK
          have gx : Fr.tmps[64]? = some (u 7) := hN 7 _ 64 rfl rfl rfl
          rw [show u 7 = .bool true from hdep 7 (by kernel_rfl) w1 (rb_refl _)] at gx
          rw [if_pos (wanted_on (s := 64) rfl (by kernel_rfl) gx)]
          have x9 : Fr.tmps[66]? = some (u 9) := hN 9 _ 66 rfl rfl rfl
          rw [show u 9 = .agg #[.int .i64 s.m.view, .int .i64 s.m.height, .string s.m.block, .slice A5 s.vs.length c5] from hdep 9 (by kernel_rfl) w1 (rb_refl _)] at x9
          have x11 : Fr.tmps[68]? = some (u 11) := hN 11 _ 68 rfl rfl rfl
          rw [show u 11 = .slice Ar roots.length cr from hdep 11 (by kernel_rfl) w1 (rb_refl _)] at x11
          have x13 : Fr.tmps[70]? = some (u 13) := hN 13 _ 70 rfl rfl rfl
          rw [show u 13 = .int .i64 q from hdep 13 (by kernel_rfl) w1 (rb_refl _)] at x13
          clear hN hO hdep gx
          go_simp
          refine (HR0.out w1 (Kd.row_below hR HK.out) (Kd.row_below hR HRR.out)).mono ?_
          rintro x w2 ⟨rfl, b2⟩
          refine hK _ _ b2 fun w3 h3 => ?_
          exact rfl
        · intro Fr u hN hO w1 hR hdep K hK
          have gx : Fr.tmps[64]? = some (u 7) := hN 7 _ 64 rfl rfl rfl
          rw [show u 7 = .bool true from hdep 7 (by kernel_rfl) w1 (rb_refl _)] at gx
          rw [if_pos (wanted_on (s := 64) rfl (by kernel_rfl) gx)]
          have x14 : Fr.tmps[71]? = some (u 14) := hN 14 _ 71 rfl rfl rfl
          rw [show u 14 = .int .i64 0 from hdep 14 (by kernel_rfl) w1 (rb_refl _)] at x14
          clear hN hO hdep gx
          go_simp
          refine hK _ _ (rb_refl _) fun w3 h3 => ?_
          exact rfl
        · intro Fr u hN hO w1 hR hdep K hK
          rw [if_pos (by rfl)]
          have x7 : Fr.tmps[64]? = some (u 7) := hN 7 _ 64 rfl rfl rfl
          rw [show u 7 = .bool true from hdep 7 (by kernel_rfl) w1 (rb_refl _)] at x7
          have x15 : Fr.tmps[72]? = some (u 15) := hN 15 _ 72 rfl rfl rfl
          rw [show u 15 = .bool true from hdep 15 (by kernel_rfl) w1 (rb_refl _)] at x15
          clear hN hO hdep
          go_simp
          refine hK _ _ (rb_refl _) fun w3 h3 => ?_
          exact rfl
        · intro Fr u hN hO w1 hR hdep K hK
          rw [if_pos (by rfl)]
          have x16 : Fr.tmps[73]? = some (u 16) := hN 16 _ 73 rfl rfl rfl
          rw [show u 16 = .bool true from hdep 16 (by kernel_rfl) w1 (rb_refl _)] at x16
          clear hN hO hdep
          go_simp
          refine hK _ _ (rb_refl _) fun w3 h3 => ?_
          exact rfl
        · intro Fr u hN hO w1 hR hdep K hK
          have gx : Fr.tmps[74]? = some (u 17) := hN 17 _ 74 rfl rfl rfl
          rw [show u 17 = .bool true from hdep 17 (by kernel_rfl) w1 (rb_refl _)] at gx
          rw [if_pos (wanted_on (s := 74) rfl (by kernel_rfl) gx)]
          have y5 : Fr.tmps[5]? = some (.pointer (some ⟨G5, 0, none⟩)) := hO 5 _ rfl rfl
          clear hN hO hdep gx
          go_simp
          refine hK _ _ (rb_refl _) fun w3 h3 => ?_
          exact rfl
        · intro Fr u hN hO w1 hR hdep K hK
          have gx : Fr.tmps[74]? = some (u 17) := hN 17 _ 74 rfl rfl rfl
          rw [show u 17 = .bool true from hdep 17 (by kernel_rfl) w1 (rb_refl _)] at gx
          rw [if_pos (wanted_on (s := 74) rfl (by kernel_rfl) gx)]
          have x18 : Fr.tmps[75]? = some (u 18) := hN 18 _ 75 rfl rfl rfl
          rw [show u 18 = .pointer (some ⟨G5, 4, none⟩) from hdep 18 (by kernel_rfl) w1 (rb_refl _)] at x18
          clear hN hO hdep gx
          have gg := block_below hR HG5.out
          have z0 := block_cell gg (i := 0) rfl
          have z1 := block_cell gg (i := 1) rfl
          have z2 := block_cell gg (i := 2) rfl
          have z3 := block_cell gg (i := 3) rfl
          have z4 := block_cell gg (i := 4) rfl
          go_simp
          refine hK _ _ (rb_refl _) fun w3 h3 => ?_
          exact rfl
        · intro Fr u hN hO w1 hR hdep K hK
          have gx : Fr.tmps[74]? = some (u 17) := hN 17 _ 74 rfl rfl rfl
          rw [show u 17 = .bool true from hdep 17 (by kernel_rfl) w1 (rb_refl _)] at gx
          rw [if_pos (wanted_on (s := 74) rfl (by kernel_rfl) gx)]
          have y1 : Fr.tmps[1]? = some (.slice Al l.length cl) := hO 1 _ rfl rfl
          clear hN hO hdep gx
          go_simp
          refine hK _ _ (rb_refl _) fun w3 h3 => ?_
          exact rfl
        · intro Fr u hN hO w1 hR hdep K hK
          have gx : Fr.tmps[74]? = some (u 17) := hN 17 _ 74 rfl rfl rfl
          rw [show u 17 = .bool true from hdep 17 (by kernel_rfl) w1 (rb_refl _)] at gx
          rw [if_pos (wanted_on (s := 74) rfl (by kernel_rfl) gx)]
          have x20 : Fr.tmps[77]? = some (u 20) := hN 20 _ 77 rfl rfl rfl
          rw [show u 20 = .slice Al l.length cl from hdep 20 (by kernel_rfl) w1 (rb_refl _)] at x20
          clear hN hO hdep gx
          go_simp
          refine hK _ _ (rb_refl _) fun w3 h3 => ?_
          exact rfl
        · intro Fr u hN hO w1 hR hdep K hK
          have gx : Fr.tmps[74]? = some (u 17) := hN 17 _ 74 rfl rfl rfl
          rw [show u 17 = .bool true from hdep 17 (by kernel_rfl) w1 (rb_refl _)] at gx
          rw [if_pos (wanted_on (s := 74) rfl (by kernel_rfl) gx)]
          have x19 : Fr.tmps[76]? = some (u 19) := hN 19 _ 76 rfl rfl rfl
          rw [show u 19 = .int .i64 s.t from hdep 19 (by kernel_rfl) w1 (rb_refl _)] at x19
          have x21 : Fr.tmps[78]? = some (u 21) := hN 21 _ 78 rfl rfl rfl
          rw [show u 21 = .int .i64 (l.length : Int) from hdep 21 (by kernel_rfl) w1 (rb_refl _)] at x21
          clear hN hO hdep gx
          have hle := HLE.out
          go_simp
          refine hK _ _ (rb_refl _) fun w3 h3 => ?_
          exact rfl
        · intro Fr u hN hO w1 hR hdep K hK
          rw [if_pos (by rfl)]
          have x17 : Fr.tmps[74]? = some (u 17) := hN 17 _ 74 rfl rfl rfl
          rw [show u 17 = .bool true from hdep 17 (by kernel_rfl) w1 (rb_refl _)] at x17
          have x22 : Fr.tmps[79]? = some (u 22) := hN 22 _ 79 rfl rfl rfl
          rw [show u 22 = .bool true from hdep 22 (by kernel_rfl) w1 (rb_refl _)] at x22
          clear hN hO hdep
          go_simp
          refine hK _ _ (rb_refl _) fun w3 h3 => ?_
          exact rfl
        · intro Fr u hN hO w1 hR hdep K hK
          rw [if_pos (by rfl)]
          have x23 : Fr.tmps[80]? = some (u 23) := hN 23 _ 80 rfl rfl rfl
          rw [show u 23 = .bool true from hdep 23 (by kernel_rfl) w1 (rb_refl _)] at x23
          clear hN hO hdep
          go_simp
          refine hK _ _ (rb_refl _) fun w3 h3 => ?_
          exact rfl
        · intro u w' hR hall
          have h24 : u 24 = .bool true := hall 24 (by decide)
          have bw : Below V2.heap.size V2 w' := bl_trans (bl_drew (Below.refl _ _)) hR
          clear hall
          simp only [frameF, Act.put, List.setIfInBounds_toArray, List.set_cons_zero, List.set_cons_succ, Nat.reduceAdd, h24]
          clear h24
          have q10 := bl_trans q9 bw
          go_wp2_with fail
          go_ret
          exact ⟨rfl, q10⟩
      case neg =>
        obtain ⟨j, hj⟩ : ∃ j : Nat, i = (j : Int) := ⟨i.toNat, by omega⟩
        subst hj
        obtain rfl : j1 = j + 1 := by omega
        have hjl : j < l.length := by omega
        obtain ⟨x, hx⟩ : ∃ x, l[j]? = some x := ⟨_, List.getElem?_eq_getElem hjl⟩
        have hdr := drop_rev l j x hx
        obtain ⟨ad, rfl, A3, c3, d0, d1, d2, d3, f0, f1, f2, f3, f4, rowx0⟩ := kCert_at hrl' hx
        have e0 := cell_below bel d0
        have e1 := cell_below bel d1
        have e2 := cell_below bel d2
        have e3 := cell_below bel d3
        have rowx := Kd.row_below bel rowx0
        have hlenx := hlx' x (List.mem_of_getElem? hx)
        have hcv := HCOV.out x (List.mem_of_getElem? hx)
        have hkI : (j : Int) < (l.length : Int) := by omega
        have hk0 : (0 : Int) ≤ (j : Int) := by omega
        have HKI := Lib.hid hkI
        have HDR := Lib.hid hdr
        have bt := bl_alloc (Below.refl wr.heap.size wr) (.cells #[.int .i64 x.view, .int .i64 x.height, .string x.block, .slice A3 x.votes.length c3] 35)
        have own4 := Kd.own_below own bt
        have bel4 := bl_trans bel bt
        have rf := Kd.row_fresh1 (kCert_mk x f0 f1 f2 f3 f4 (Kd.row_below bt rowx))
        have hlb : (l.drop (j + 1)).reverse.length ≤ 12 := by simp; omega
        clear hx hdr
        go_upto_region 11 with (at_builtin; refine wpList_append_row _ rfl (.tmp 26) (.tmp 31) 63 rfl kCert B0 w.heap.size 35 i0 _ 56 Try.underlying63 hi hz0 hz1 hz2 rfl (by decide) _ _ rfl own4 _ _ _ [x] rfl rfl rf (by simp only [List.length_singleton]; omega) (by decide) bel4.size hB0 (by decide) ?_; intro v' w' own' grw at')
        have q5 := Kd.own_step bel4 own4 grw
        have HG := Lib.hid (grown_block own4 grw (block_below bt g0) (by decide))
        have HG5 := Lib.hid (grown_block own4 grw (block_below bt g5) (by decide))
        have HKA := Lib.hid (grown_row28 own4 grw (Kd.row_below bt rowa))
        rw [← HDR.out] at own'
        have hown : kCert.Own 35 B0 w' w.heap.size v' (l.drop j).reverse := own'
        obtain ⟨xv, xh, xb, lx⟩ := x
        dsimp only at d0 d1 d2 d3 hlenx rowx0
        obtain ⟨m, hm⟩ : ∃ m : Mark, m = ⟨xv, xh, xb⟩ := ⟨_, rfl⟩
        have hcv2 : chkC m lx roots q = 0 → higherF m s.m = false := by rw [hm]; exact hcv
        obtain rfl : m.view = xv := by rw [hm]
        obtain rfl : m.height = xh := by rw [hm]
        obtain rfl : m.block = xb := by rw [hm]
        have E0 := Lib.hid (cell_below q5 d0)
        have E1 := Lib.hid (cell_below q5 d1)
        have E2 := Lib.hid (cell_below q5 d2)
        have E3 := Lib.hid (cell_below q5 d3)
        have HX := Lib.hid (Kd.row_below q5 rowx0)
        have HRR := Lib.hid (Kd.row_below q5 hrr)
        have HOWN := Lib.hid hown
        have HCV := Lib.hid hcv2
        clear hm hcv hcv2 hown own' own4 own grw bt bel4 rf rowx e0 e1 e2 e3 f0 f1 f2 f3 f4 g5 g0 rowa at' HDR
        generalize w' = V at *
        obtain ⟨res, hres⟩ : ∃ r, chkC m lx roots q = r := ⟨_, rfl⟩
        have hrc := fun (W : World) (h1 : kVote.Row 28 B0 W A3 lx) (h2 : Kd.str.Row 9 B0 W Ar roots) => refcert_calls m lx roots q A3 Ar c3 cr B0 W hlenx hlr h1 h2
        rw [hres] at hrc
        have HCV' := HCV.out
        rw [hres] at HCV'
        have HRC := Lib.hid hrc
        have HCV2 := Lib.hid HCV'
        clear hrc hres HCV HCV'
        by_cases hz : res = 0
        case pos =>
          subst hz
          have hh := fun W => rank_higher m s.m W
          rw [HCV2.out rfl] at hh
          have HHI := Lib.hid hh
          clear hh HCV2
          refine wp_region_invA (by kernel_rfl) (by kernel_rfl) Rb (blZ G G5 j l.length cl ad m s.m A3 A5 Ar lx.length s.vs.length roots.length c3 c5 cr q 0) rb_refl rb_trans ⟨?_, ?_, ?_, ?_, ?_, ?_, ?_, ?_, ?_, ?_, ?_, ?_, ?_, ?_, ?_, ?_, ?_, ?_, ?_, ?_, ?_, trivial⟩ ?_
          · intro Fr u hN hO w1 hR hdep K hK
            rw [if_pos (by rfl)]
            have y1 : Fr.tmps[1]? = some (.slice (some ad) l.length cl) := hO 1 _ rfl rfl
            clear hN hO hdep
            go_simp
            refine hK _ _ (rb_refl _) fun w3 h3 => ?_
            exact rfl
          · intro Fr u hN hO w1 hR hdep K hK
            rw [if_pos (by rfl)]
            have y7 : Fr.tmps[7]? = some (.int .i64 j) := hO 7 _ rfl rfl
            clear hN hO hdep
            go_simp
            refine hK _ _ (rb_refl _) fun w3 h3 => ?_
            exact rfl
          · intro Fr u hN hO w1 hR hdep K hK
            rw [if_pos (by rfl)]
            have x0 : Fr.tmps[33]? = some (u 0) := hN 0 _ 33 rfl rfl rfl
            rw [show u 0 = .slice (some ad) l.length cl from hdep 0 (by kernel_rfl) w1 (rb_refl _)] at x0
            have x1 : Fr.tmps[34]? = some (u 1) := hN 1 _ 34 rfl rfl rfl
            rw [show u 1 = .int .i64 j from hdep 1 (by kernel_rfl) w1 (rb_refl _)] at x1
            clear hN hO hdep
            have hkI := HKI.out
            go_simp
            refine hK _ _ (rb_refl _) fun w3 h3 => ?_
            exact rfl
          · intro Fr u hN hO w1 hR hdep K hK
            rw [if_pos (by rfl)]
            have x2 : Fr.tmps[35]? = some (u 2) := hN 2 _ 35 rfl rfl rfl
            rw [show u 2 = .pointer (some (ad.add (j * 4))) from hdep 2 (by kernel_rfl) w1 (rb_refl _)] at x2
            clear hN hO hdep
            have z0 := cell_below hR E0.out
            have z1 := cell_below hR E1.out
            have z2 := cell_below hR E2.out
            have z3 := cell_below hR E3.out
            go_simp
            refine hK _ _ (rb_refl _) fun w3 h3 => ?_
            exact rfl
          · intro Fr u hN hO w1 hR hdep K hK
            rw [if_pos (by rfl)]
            have y2 : Fr.tmps[2]? = some (.pointer (some ⟨G, 0, none⟩)) := hO 2 _ rfl rfl
            clear hN hO hdep
            go_simp
            refine hK _ _ (rb_refl _) fun w3 h3 => ?_
            exact rfl
          · intro Fr u hN hO w1 hR hdep K hK
            rw [if_pos (by rfl)]
            have x4 : Fr.tmps[37]? = some (u 4) := hN 4 _ 37 rfl rfl rfl
            rw [show u 4 = .pointer (some ⟨G, 0, none⟩) from hdep 4 (by kernel_rfl) w1 (rb_refl _)] at x4
            clear hN hO hdep
            have gg := block_below hR HG.out
            have z0 := block_cell gg (i := 0) rfl
            have z1 := block_cell gg (i := 1) rfl
            have z2 := block_cell gg (i := 2) rfl
            have z3 := block_cell gg (i := 3) rfl
            have z4 := block_cell gg (i := 4) rfl
            go_simp
            refine hK _ _ (rb_refl _) fun w3 h3 => ?_
            exact rfl
          · intro Fr u hN hO w1 hR hdep K hK
            rw [if_pos (by rfl)]
            have y2 : Fr.tmps[2]? = some (.pointer (some ⟨G, 0, none⟩)) := hO 2 _ rfl rfl
            clear hN hO hdep
            go_simp
            refine hK _ _ (rb_refl _) fun w3 h3 => ?_
            exact rfl
          · intro Fr u hN hO w1 hR hdep K hK
            rw [if_pos (by rfl)]
            have x6 : Fr.tmps[39]? = some (u 6) := hN 6 _ 39 rfl rfl rfl
            rw [show u 6 = .pointer (some ⟨G, 2, none⟩) from hdep 6 (by kernel_rfl) w1 (rb_refl _)] at x6
            clear hN hO hdep
            have gg := block_below hR HG.out
            have z0 := block_cell gg (i := 0) rfl
            have z1 := block_cell gg (i := 1) rfl
            have z2 := block_cell gg (i := 2) rfl
            have z3 := block_cell gg (i := 3) rfl
            have z4 := block_cell gg (i := 4) rfl
            go_simp
            refine hK _ _ (rb_refl _) fun w3 h3 => ?_
            exact rfl
          · intro Fr u hN hO w1 hR hdep K hK
            rw [if_pos (by rfl)]
            have x3 : Fr.tmps[36]? = some (u 3) := hN 3 _ 36 rfl rfl rfl
            rw [show u 3 = .agg #[.int .i64 m.view, .int .i64 m.height, .string m.block, .slice A3 lx.length c3] from hdep 3 (by kernel_rfl) w1 (rb_refl _)] at x3
            have x5 : Fr.tmps[38]? = some (u 5) := hN 5 _ 38 rfl rfl rfl
            rw [show u 5 = .slice Ar roots.length cr from hdep 5 (by kernel_rfl) w1 (rb_refl _)] at x5
            have x7 : Fr.tmps[40]? = some (u 7) := hN 7 _ 40 rfl rfl rfl
            rw [show u 7 = .int .i64 q from hdep 7 (by kernel_rfl) w1 (rb_refl _)] at x7
            clear hN hO hdep
            go_simp
            refine (HRC.out w1 (Kd.row_below hR HX.out) (Kd.row_below hR HRR.out)).mono ?_
            rintro x w2 ⟨rfl, b2⟩
            refine hK _ _ b2 fun w3 h3 => ?_
            exact rfl
          · intro Fr u hN hO w1 hR hdep K hK
            rw [if_pos (by rfl)]
            have x8 : Fr.tmps[41]? = some (u 8) := hN 8 _ 41 rfl rfl rfl
            rw [show u 8 = .int .i64 0 from hdep 8 (by kernel_rfl) w1 (rb_refl _)] at x8
            clear hN hO hdep
            go_simp
            refine hK _ _ (rb_refl _) fun w3 h3 => ?_
            exact rfl
          · intro Fr u hN hO w1 hR hdep K hK
            rw [if_pos (by rfl)]
            have x9 : Fr.tmps[42]? = some (u 9) := hN 9 _ 42 rfl rfl rfl
            rw [show u 9 = .bool true from hdep 9 (by kernel_rfl) w1 (rb_refl _)] at x9
            clear hN hO hdep
            go_simp
            refine hK _ _ (rb_refl _) fun w3 h3 => ?_
            exact rfl
          · intro Fr u hN hO w1 hR hdep K hK
            have gx : Fr.tmps[43]? = some (u 10) := hN 10 _ 43 rfl rfl rfl
            rw [show u 10 = .bool true from hdep 10 (by kernel_rfl) w1 (rb_refl _)] at gx
            rw [if_pos (wanted_on (s := 43) rfl (by kernel_rfl) gx)]
            have y1 : Fr.tmps[1]? = some (.slice (some ad) l.length cl) := hO 1 _ rfl rfl
            clear hN hO hdep gx
            go_simp
            refine hK _ _ (rb_refl _) fun w3 h3 => ?_
            exact rfl
          · intro Fr u hN hO w1 hR hdep K hK
            have gx : Fr.tmps[43]? = some (u 10) := hN 10 _ 43 rfl rfl rfl
            rw [show u 10 = .bool true from hdep 10 (by kernel_rfl) w1 (rb_refl _)] at gx
            rw [if_pos (wanted_on (s := 43) rfl (by kernel_rfl) gx)]
            have y7 : Fr.tmps[7]? = some (.int .i64 j) := hO 7 _ rfl rfl
            clear hN hO hdep gx
            go_simp
            refine hK _ _ (rb_refl _) fun w3 h3 => ?_
            exact rfl
          · intro Fr u hN hO w1 hR hdep K hK
            have gx : Fr.tmps[43]? = some (u 10) := hN 10 _ 43 rfl rfl rfl
            rw [show u 10 = .bool true from hdep 10 (by kernel_rfl) w1 (rb_refl _)] at gx
            rw [if_pos (wanted_on (s := 43) rfl (by kernel_rfl) gx)]
            have x11 : Fr.tmps[44]? = some (u 11) := hN 11 _ 44 rfl rfl rfl
            rw [show u 11 = .slice (some ad) l.length cl from hdep 11 (by kernel_rfl) w1 (rb_refl _)] at x11
            have x12 : Fr.tmps[45]? = some (u 12) := hN 12 _ 45 rfl rfl rfl
            rw [show u 12 = .int .i64 j from hdep 12 (by kernel_rfl) w1 (rb_refl _)] at x12
            clear hN hO hdep gx
            have hkI := HKI.out
            go_simp
            refine hK _ _ (rb_refl _) fun w3 h3 => ?_
            exact rfl
          · intro Fr u hN hO w1 hR hdep K hK
            have gx : Fr.tmps[43]? = some (u 10) := hN 10 _ 43 rfl rfl rfl
            rw [show u 10 = .bool true from hdep 10 (by kernel_rfl) w1 (rb_refl _)] at gx
            rw [if_pos (wanted_on (s := 43) rfl (by kernel_rfl) gx)]
            have x13 : Fr.tmps[46]? = some (u 13) := hN 13 _ 46 rfl rfl rfl
            rw [show u 13 = .pointer (some (ad.add (j * 4))) from hdep 13 (by kernel_rfl) w1 (rb_refl _)] at x13
            clear hN hO hdep gx
            have z0 := cell_below hR E0.out
            have z1 := cell_below hR E1.out
            have z2 := cell_below hR E2.out
            have z3 := cell_below hR E3.out
            go_simp
            refine hK _ _ (rb_refl _) fun w3 h3 => ?_
            exact rfl
          · intro Fr u hN hO w1 hR hdep K hK
            have gx : Fr.tmps[43]? = some (u 10) := hN 10 _ 43 rfl rfl rfl
            rw [show u 10 = .bool true from hdep 10 (by kernel_rfl) w1 (rb_refl _)] at gx
            rw [if_pos (wanted_on (s := 43) rfl (by kernel_rfl) gx)]
            have x14 : Fr.tmps[47]? = some (u 14) := hN 14 _ 47 rfl rfl rfl
            rw [show u 14 = .agg #[.int .i64 m.view, .int .i64 m.height, .string m.block, .slice A3 lx.length c3] from hdep 14 (by kernel_rfl) w1 (rb_refl _)] at x14
            clear hN hO hdep gx
            go_simp
            refine (rank_calls m _ _ _ _).mono ?_
            rintro x w2 ⟨rfl, b2⟩
            refine hK _ _ b2 fun w3 h3 => ?_
            exact rfl
          · intro Fr u hN hO w1 hR hdep K hK
            have gx : Fr.tmps[43]? = some (u 10) := hN 10 _ 43 rfl rfl rfl
            rw [show u 10 = .bool true from hdep 10 (by kernel_rfl) w1 (rb_refl _)] at gx
            rw [if_pos (wanted_on (s := 43) rfl (by kernel_rfl) gx)]
            have y5 : Fr.tmps[5]? = some (.pointer (some ⟨G5, 0, none⟩)) := hO 5 _ rfl rfl
            clear hN hO hdep gx
            go_simp
            refine hK _ _ (rb_refl _) fun w3 h3 => ?_
            exact rfl
          · intro Fr u hN hO w1 hR hdep K hK
            have gx : Fr.tmps[43]? = some (u 10) := hN 10 _ 43 rfl rfl rfl
            rw [show u 10 = .bool true from hdep 10 (by kernel_rfl) w1 (rb_refl _)] at gx
            rw [if_pos (wanted_on (s := 43) rfl (by kernel_rfl) gx)]
            have x16 : Fr.tmps[49]? = some (u 16) := hN 16 _ 49 rfl rfl rfl
            rw [show u 16 = .pointer (some ⟨G5, 0, none⟩) from hdep 16 (by kernel_rfl) w1 (rb_refl _)] at x16
            clear hN hO hdep gx
            have gg := block_below hR HG5.out
            have z0 := block_cell gg (i := 0) rfl
            have z1 := block_cell gg (i := 1) rfl
            have z2 := block_cell gg (i := 2) rfl
            have z3 := block_cell gg (i := 3) rfl
            have z4 := block_cell gg (i := 4) rfl
            go_simp
            refine hK _ _ (rb_refl _) fun w3 h3 => ?_
            exact rfl
          · intro Fr u hN hO w1 hR hdep K hK
            have gx : Fr.tmps[43]? = some (u 10) := hN 10 _ 43 rfl rfl rfl
            rw [show u 10 = .bool true from hdep 10 (by kernel_rfl) w1 (rb_refl _)] at gx
            rw [if_pos (wanted_on (s := 43) rfl (by kernel_rfl) gx)]
            have x17 : Fr.tmps[50]? = some (u 17) := hN 17 _ 50 rfl rfl rfl
            rw [show u 17 = .agg #[.int .i64 s.m.view, .int .i64 s.m.height, .string s.m.block, .slice A5 s.vs.length c5] from hdep 17 (by kernel_rfl) w1 (rb_refl _)] at x17
            clear hN hO hdep gx
            go_simp
            refine (rank_calls s.m _ _ _ _).mono ?_
            rintro x w2 ⟨rfl, b2⟩
            refine hK _ _ b2 fun w3 h3 => ?_
            exact rfl
          · intro Fr u hN hO w1 hR hdep K hK
            have gx : Fr.tmps[43]? = some (u 10) := hN 10 _ 43 rfl rfl rfl
            rw [show u 10 = .bool true from hdep 10 (by kernel_rfl) w1 (rb_refl _)] at gx
            rw [if_pos (wanted_on (s := 43) rfl (by kernel_rfl) gx)]
            have x15 : Fr.tmps[48]? = some (u 15) := hN 15 _ 48 rfl rfl rfl
            rw [show u 15 = .agg #[.int .i64 m.view, .int .i64 m.height, .string ⟨#[]⟩] from hdep 15 (by kernel_rfl) w1 (rb_refl _)] at x15
            have x18 : Fr.tmps[51]? = some (u 18) := hN 18 _ 51 rfl rfl rfl
            rw [show u 18 = .agg #[.int .i64 s.m.view, .int .i64 s.m.height, .string ⟨#[]⟩] from hdep 18 (by kernel_rfl) w1 (rb_refl _)] at x18
            clear hN hO hdep gx
            go_simp
            refine (HHI.out w1).mono ?_
            rintro x w2 ⟨rfl, b2⟩
            refine hK _ _ b2 fun w3 h3 => ?_
            exact rfl
          · intro Fr u hN hO w1 hR hdep K hK
            rw [if_pos (by rfl)]
            have x10 : Fr.tmps[43]? = some (u 10) := hN 10 _ 43 rfl rfl rfl
            rw [show u 10 = .bool true from hdep 10 (by kernel_rfl) w1 (rb_refl _)] at x10
            have x19 : Fr.tmps[52]? = some (u 19) := hN 19 _ 52 rfl rfl rfl
            rw [show u 19 = .bool false from hdep 19 (by kernel_rfl) w1 (rb_refl _)] at x19
            clear hN hO hdep
            go_simp
            refine hK _ _ (rb_refl _) fun w3 h3 => ?_
            exact rfl
          · intro u w' hR hall
            have h20 : u 20 = .bool false := hall 20 (by decide)
            have bw : Below V.heap.size V w' := bl_trans (bl_drew (Below.refl _ _)) hR
            clear hall
            simp only [frameF, Act.put, List.setIfInBounds_toArray, List.set_cons_zero, List.set_cons_succ, Nat.reduceAdd, h20]
            clear h20
            have own9 := Kd.own_below HOWN.out bw
            have q9 := bl_trans q5 bw
            have r5 := block_below bw HG5.out
            have r0 := block_below bw HG.out
            have k9 := Kd.row_below bw HKA.out
            go_wp2_with fail
            go_roundw
            case rel => exact ⟨j, (j : Int) - 1, by omega, by omega, by go_num, own9, q9, r5, r0, k9⟩
            case measure => simp [intOf]
        case neg =>
          have hne : (res == 0) = false := by rw [beq_eq_false_iff_ne]; exact hz
          have HNE := Lib.hid hne
          clear hne hz
          refine wp_region_invA (by kernel_rfl) (by kernel_rfl) Rb (blN G G5 j l.length cl ad m s.m A3 A5 Ar lx.length s.vs.length roots.length c3 c5 cr q res) rb_refl rb_trans ⟨?_, ?_, ?_, ?_, ?_, ?_, ?_, ?_, ?_, ?_, ?_, ?_, ?_, ?_, ?_, ?_, ?_, ?_, ?_, ?_, ?_, trivial⟩ ?_
          · intro Fr u hN hO w1 hR hdep K hK
            rw [if_pos (by rfl)]
            have y1 : Fr.tmps[1]? = some (.slice (some ad) l.length cl) := hO 1 _ rfl rfl
            clear hN hO hdep
            go_simp
            refine hK _ _ (rb_refl _) fun w3 h3 => ?_
            exact rfl
          · intro Fr u hN hO w1 hR hdep K hK
            rw [if_pos (by rfl)]
            have y7 : Fr.tmps[7]? = some (.int .i64 j) := hO 7 _ rfl rfl
            clear hN hO hdep
            go_simp
            refine hK _ _ (rb_refl _) fun w3 h3 => ?_
            exact rfl
          · intro Fr u hN hO w1 hR hdep K hK
            rw [if_pos (by rfl)]
            have x0 : Fr.tmps[33]? = some (u 0) := hN 0 _ 33 rfl rfl rfl
            rw [show u 0 = .slice (some ad) l.length cl from hdep 0 (by kernel_rfl) w1 (rb_refl _)] at x0
            have x1 : Fr.tmps[34]? = some (u 1) := hN 1 _ 34 rfl rfl rfl
            rw [show u 1 = .int .i64 j from hdep 1 (by kernel_rfl) w1 (rb_refl _)] at x1
            clear hN hO hdep
            have hkI := HKI.out
            go_simp
            refine hK _ _ (rb_refl _) fun w3 h3 => ?_
            exact rfl
          · intro Fr u hN hO w1 hR hdep K hK
            rw [if_pos (by rfl)]
            have x2 : Fr.tmps[35]? = some (u 2) := hN 2 _ 35 rfl rfl rfl
            rw [show u 2 = .pointer (some (ad.add (j * 4))) from hdep 2 (by kernel_rfl) w1 (rb_refl _)] at x2
            clear hN hO hdep
            have z0 := cell_below hR E0.out
            have z1 := cell_below hR E1.out
            have z2 := cell_below hR E2.out
            have z3 := cell_below hR E3.out
            go_simp
            refine hK _ _ (rb_refl _) fun w3 h3 => ?_
            exact rfl
          · intro Fr u hN hO w1 hR hdep K hK
            rw [if_pos (by rfl)]
            have y2 : Fr.tmps[2]? = some (.pointer (some ⟨G, 0, none⟩)) := hO 2 _ rfl rfl
            clear hN hO hdep
            go_simp
            refine hK _ _ (rb_refl _) fun w3 h3 => ?_
            exact rfl
          · intro Fr u hN hO w1 hR hdep K hK
            rw [if_pos (by rfl)]
            have x4 : Fr.tmps[37]? = some (u 4) := hN 4 _ 37 rfl rfl rfl
            rw [show u 4 = .pointer (some ⟨G, 0, none⟩) from hdep 4 (by kernel_rfl) w1 (rb_refl _)] at x4
            clear hN hO hdep
            have gg := block_below hR HG.out
            have z0 := block_cell gg (i := 0) rfl
            have z1 := block_cell gg (i := 1) rfl
            have z2 := block_cell gg (i := 2) rfl
            have z3 := block_cell gg (i := 3) rfl
            have z4 := block_cell gg (i := 4) rfl
            go_simp
            refine hK _ _ (rb_refl _) fun w3 h3 => ?_
            exact rfl
          · intro Fr u hN hO w1 hR hdep K hK
            rw [if_pos (by rfl)]
            have y2 : Fr.tmps[2]? = some (.pointer (some ⟨G, 0, none⟩)) := hO 2 _ rfl rfl
            clear hN hO hdep
            go_simp
            refine hK _ _ (rb_refl _) fun w3 h3 => ?_
            exact rfl
          · intro Fr u hN hO w1 hR hdep K hK
            rw [if_pos (by rfl)]
            have x6 : Fr.tmps[39]? = some (u 6) := hN 6 _ 39 rfl rfl rfl
            rw [show u 6 = .pointer (some ⟨G, 2, none⟩) from hdep 6 (by kernel_rfl) w1 (rb_refl _)] at x6
            clear hN hO hdep
            have gg := block_below hR HG.out
            have z0 := block_cell gg (i := 0) rfl
            have z1 := block_cell gg (i := 1) rfl
            have z2 := block_cell gg (i := 2) rfl
            have z3 := block_cell gg (i := 3) rfl
            have z4 := block_cell gg (i := 4) rfl
            go_simp
            refine hK _ _ (rb_refl _) fun w3 h3 => ?_
            exact rfl
          · intro Fr u hN hO w1 hR hdep K hK
            rw [if_pos (by rfl)]
            have x3 : Fr.tmps[36]? = some (u 3) := hN 3 _ 36 rfl rfl rfl
            rw [show u 3 = .agg #[.int .i64 m.view, .int .i64 m.height, .string m.block, .slice A3 lx.length c3] from hdep 3 (by kernel_rfl) w1 (rb_refl _)] at x3
            have x5 : Fr.tmps[38]? = some (u 5) := hN 5 _ 38 rfl rfl rfl
            rw [show u 5 = .slice Ar roots.length cr from hdep 5 (by kernel_rfl) w1 (rb_refl _)] at x5
            have x7 : Fr.tmps[40]? = some (u 7) := hN 7 _ 40 rfl rfl rfl
            rw [show u 7 = .int .i64 q from hdep 7 (by kernel_rfl) w1 (rb_refl _)] at x7
            clear hN hO hdep
            go_simp
            refine (HRC.out w1 (Kd.row_below hR HX.out) (Kd.row_below hR HRR.out)).mono ?_
            rintro x w2 ⟨rfl, b2⟩
            refine hK _ _ b2 fun w3 h3 => ?_
            exact rfl
          · intro Fr u hN hO w1 hR hdep K hK
            rw [if_pos (by rfl)]
            have x8 : Fr.tmps[41]? = some (u 8) := hN 8 _ 41 rfl rfl rfl
            rw [show u 8 = .int .i64 res from hdep 8 (by kernel_rfl) w1 (rb_refl _)] at x8
            clear hN hO hdep
            have hne := HNE.out
            go_simp
            refine hK _ _ (rb_refl _) fun w3 h3 => ?_
            exact rfl
          · intro Fr u hN hO w1 hR hdep K hK
            rw [if_pos (by rfl)]
            have x9 : Fr.tmps[42]? = some (u 9) := hN 9 _ 42 rfl rfl rfl
            rw [show u 9 = .bool false from hdep 9 (by kernel_rfl) w1 (rb_refl _)] at x9
            clear hN hO hdep
            go_simp
            refine hK _ _ (rb_refl _) fun w3 h3 => ?_
            exact rfl
          · intro Fr u hN hO w1 hR hdep K hK
            have gx : Fr.tmps[43]? = some (u 10) := hN 10 _ 43 rfl rfl rfl
            rw [show u 10 = .bool false from hdep 10 (by kernel_rfl) w1 (rb_refl _)] at gx
            rw [if_neg (wanted_off (s := 43) rfl (by kernel_rfl) gx (by decide))]
            exact hK _ _ (rb_refl _) fun w3 h3 => rfl
          · intro Fr u hN hO w1 hR hdep K hK
            have gx : Fr.tmps[43]? = some (u 10) := hN 10 _ 43 rfl rfl rfl
            rw [show u 10 = .bool false from hdep 10 (by kernel_rfl) w1 (rb_refl _)] at gx
            rw [if_neg (wanted_off (s := 43) rfl (by kernel_rfl) gx (by decide))]
            exact hK _ _ (rb_refl _) fun w3 h3 => rfl
          · intro Fr u hN hO w1 hR hdep K hK
            have gx : Fr.tmps[43]? = some (u 10) := hN 10 _ 43 rfl rfl rfl
            rw [show u 10 = .bool false from hdep 10 (by kernel_rfl) w1 (rb_refl _)] at gx
            rw [if_neg (wanted_off (s := 43) rfl (by kernel_rfl) gx (by decide))]
            exact hK _ _ (rb_refl _) fun w3 h3 => rfl
          · intro Fr u hN hO w1 hR hdep K hK
            have gx : Fr.tmps[43]? = some (u 10) := hN 10 _ 43 rfl rfl rfl
            rw [show u 10 = .bool false from hdep 10 (by kernel_rfl) w1 (rb_refl _)] at gx
            rw [if_neg (wanted_off (s := 43) rfl (by kernel_rfl) gx (by decide))]
            exact hK _ _ (rb_refl _) fun w3 h3 => rfl
          · intro Fr u hN hO w1 hR hdep K hK
            have gx : Fr.tmps[43]? = some (u 10) := hN 10 _ 43 rfl rfl rfl
            rw [show u 10 = .bool false from hdep 10 (by kernel_rfl) w1 (rb_refl _)] at gx
            rw [if_neg (wanted_off (s := 43) rfl (by kernel_rfl) gx (by decide))]
            exact hK _ _ (rb_refl _) fun w3 h3 => rfl
          · intro Fr u hN hO w1 hR hdep K hK
            have gx : Fr.tmps[43]? = some (u 10) := hN 10 _ 43 rfl rfl rfl
            rw [show u 10 = .bool false from hdep 10 (by kernel_rfl) w1 (rb_refl _)] at gx
            rw [if_neg (wanted_off (s := 43) rfl (by kernel_rfl) gx (by decide))]
            exact hK _ _ (rb_refl _) fun w3 h3 => rfl
          · intro Fr u hN hO w1 hR hdep K hK
            have gx : Fr.tmps[43]? = some (u 10) := hN 10 _ 43 rfl rfl rfl
            rw [show u 10 = .bool false from hdep 10 (by kernel_rfl) w1 (rb_refl _)] at gx
            rw [if_neg (wanted_off (s := 43) rfl (by kernel_rfl) gx (by decide))]
            exact hK _ _ (rb_refl _) fun w3 h3 => rfl
          · intro Fr u hN hO w1 hR hdep K hK
            have gx : Fr.tmps[43]? = some (u 10) := hN 10 _ 43 rfl rfl rfl
            rw [show u 10 = .bool false from hdep 10 (by kernel_rfl) w1 (rb_refl _)] at gx
            rw [if_neg (wanted_off (s := 43) rfl (by kernel_rfl) gx (by decide))]
            exact hK _ _ (rb_refl _) fun w3 h3 => rfl
          · intro Fr u hN hO w1 hR hdep K hK
            have gx : Fr.tmps[43]? = some (u 10) := hN 10 _ 43 rfl rfl rfl
            rw [show u 10 = .bool false from hdep 10 (by kernel_rfl) w1 (rb_refl _)] at gx
            rw [if_neg (wanted_off (s := 43) rfl (by kernel_rfl) gx (by decide))]
            exact hK _ _ (rb_refl _) fun w3 h3 => rfl
          · intro Fr u hN hO w1 hR hdep K hK
            rw [if_pos (by rfl)]
            have x10 : Fr.tmps[43]? = some (u 10) := hN 10 _ 43 rfl rfl rfl
            rw [show u 10 = .bool false from hdep 10 (by kernel_rfl) w1 (rb_refl _)] at x10
            have x19 : Fr.tmps[52]? = some (u 19) := hN 19 _ 52 rfl rfl rfl
            rw [show u 19 = undef from hdep 19 (by kernel_rfl) w1 (rb_refl _)] at x19
            clear hN hO hdep
            go_simp
            refine hK _ _ (rb_refl _) fun w3 h3 => ?_
            exact rfl
          · intro u w' hR hall
            have h20 : u 20 = .bool false := hall 20 (by decide)
            have bw : Below V.heap.size V w' := bl_trans (bl_drew (Below.refl _ _)) hR
            clear hall
            simp only [frameF, Act.put, List.setIfInBounds_toArray, List.set_cons_zero, List.set_cons_succ, Nat.reduceAdd, h20]
            clear h20
            have own9 := Kd.own_below HOWN.out bw
            have q9 := bl_trans q5 bw
            have r5 := block_below bw HG5.out
            have r0 := block_below bw HG.out
            have k9 := Kd.row_below bw HKA.out
            go_wp2_with fail
            go_roundw
            case rel => exact ⟨j, (j : Int) - 1, by omega, by omega, by go_num, own9, q9, r5, r0, k9⟩
            case measure => simp [intOf]
end Go.Proofs.Ytglneailkgminaa
/- Package mootlaw36: LightBest at inputs of bounded bulk. No claim of its own; no condition. -/
namespace Go.Proofs.Ytglneailkgminaa
open Go.ChangeShapes Go.WideShapes Go.ChangeAt Go.RowKit
set_option linter.unusedVariables false
theorem lightbest_x (y : Config) (l : List Cert) (Ar Ac Al : Option Addr) (cr cc cl : Nat) (w : World) (h1 : kConfig.bulk y ≤ 1048576) (h2 : l.length ≤ 1048576) (hcl : l.length ≤ cl) (h3 : (l.map kCert.bulk).sum ≤ 1048576)
    (hrr : Kd.str.Row 9 w.heap.size w Ar y.roots) (hr : kCert.Row 35 w.heap.size w Al l) :
    Calls Try.prog 8 #[.agg #[.slice Ar y.roots.length cr, .slice Ac y.clients.length cc, .int .i64 y.quorum, .int .i64 y.base, .int .i64 y.cap], .slice Al l.length cl] w
      fun e w' => e = .returned (.bool true) ∧ Below w.heap.size w w' :=
  lightbest_walk l y.roots y.quorum y.base y.cap Ar Ac Al cr y.clients.length cc cl w.heap.size w (Nat.le_refl _) h2 hcl (certs_bulk l h3) (config_bulk y h1).1 hr hrr
end Go.Proofs.Ytglneailkgminaa
