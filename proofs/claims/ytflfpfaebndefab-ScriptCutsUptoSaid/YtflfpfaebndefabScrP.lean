/- Package script, the plain law: scripts come back from their octets, and octets from their scripts. No claim of its own; no condition. -/
import Derived.Test.YtflfpfaebndefabRdA
namespace Go.Proofs.Ytflfpfaebndefab
open Go.RowKit
set_option linter.unusedVariables false
theorem getU_two (a b : UInt8) : getU [a, b] = a.toNat * 256 + b.toNat := by
  have h1 := a.toNat_lt
  have h2 := b.toNat_lt
  show (0 * 256 % 18446744073709551616 + a.toNat) * 256 % 18446744073709551616 + b.toNat = _
  omega
theorem two_val (v : Nat) (h : v < 65536) : ∃ a b, two v = [a, b] ∧ a.toNat * 256 + b.toNat = v := by
  refine ⟨_, _, rfl, ?_⟩
  simp
  omega
theorem get2_two (p q : List UInt8) (a b : UInt8) (i : Nat) (hi : p.length = i) : get2 (p ++ (a :: b :: q)) i = a.toNat * 256 + b.toNat := by
  subst hi
  unfold get2
  rw [List.drop_left]
  show getU [a, b] % _ = _
  rw [getU_two]
  have h1 := a.toNat_lt
  have h2 := b.toNat_lt
  omega
/-- May be put. -/
def goodS (x : Step) : Prop := oddS x = false ∧ x.data.length ≤ 4096
theorem oddS_no {x : Step} (h : oddS x = false) : 0 ≤ x.kind ∧ x.kind ≤ 255 ∧ (-32768 ≤ x.a ∧ x.a < 32768) ∧ (-32768 ≤ x.b ∧ x.b < 32768) ∧ (-32768 ≤ x.c ∧ x.c < 32768) ∧ (-32768 ≤ x.d ∧ x.d < 32768) := by
  unfold oddS at h
  simp only [Bool.or_eq_false_iff, List.any_cons, List.any_nil, Bool.or_false, decide_eq_false_iff_not] at h
  obtain ⟨k1, k2, oa, ob, oc, od⟩ := h
  exact ⟨by omega, by omega, oddN_no oa, oddN_no ob, oddN_no oc, oddN_no od⟩
theorem head_step {x : Step} (h : goodS x) (r : List UInt8) : headS (stepB x ++ r) = some (x, r) := by
  obtain ⟨ho, hd⟩ := h
  obtain ⟨k1, k2, ha, hb, hc, hdd⟩ := oddS_no ho
  obtain ⟨a1, a2, ea, va⟩ := two_val (x.a + 32768).toNat (by omega)
  obtain ⟨b1, b2, eb, vb⟩ := two_val (x.b + 32768).toNat (by omega)
  obtain ⟨c1, c2, ec, vc⟩ := two_val (x.c + 32768).toNat (by omega)
  obtain ⟨d1, d2, ed, vd⟩ := two_val (x.d + 32768).toNat (by omega)
  obtain ⟨l1, l2, el, vl⟩ := two_val x.data.length (by omega)
  have hb0 : stepB x ++ r = UInt8.ofNat x.kind.toNat :: a1 :: a2 :: b1 :: b2 :: c1 :: c2 :: d1 :: d2 :: l1 :: l2 :: (x.data ++ r) := by
    unfold stepB
    simp [ea, eb, ec, ed, el]
  obtain ⟨k, hk⟩ : ∃ k, UInt8.ofNat x.kind.toNat = k := ⟨_, rfl⟩
  have hkv : (k.toNat : Int) = x.kind := by rw [← hk]; simp; omega
  rw [hb0, hk]
  have g9 : get2 (k :: a1 :: a2 :: b1 :: b2 :: c1 :: c2 :: d1 :: d2 :: l1 :: l2 :: (x.data ++ r)) 9 = x.data.length := (get2_two [k, a1, a2, b1, b2, c1, c2, d1, d2] _ l1 l2 9 rfl).trans vl
  have g1 : get2 (k :: a1 :: a2 :: b1 :: b2 :: c1 :: c2 :: d1 :: d2 :: l1 :: l2 :: (x.data ++ r)) 1 = (x.a + 32768).toNat := (get2_two [k] _ a1 a2 1 rfl).trans va
  have g3 : get2 (k :: a1 :: a2 :: b1 :: b2 :: c1 :: c2 :: d1 :: d2 :: l1 :: l2 :: (x.data ++ r)) 3 = (x.b + 32768).toNat := (get2_two [k, a1, a2] _ b1 b2 3 rfl).trans vb
  have g5 : get2 (k :: a1 :: a2 :: b1 :: b2 :: c1 :: c2 :: d1 :: d2 :: l1 :: l2 :: (x.data ++ r)) 5 = (x.c + 32768).toNat := (get2_two [k, a1, a2, b1, b2] _ c1 c2 5 rfl).trans vc
  have g7 : get2 (k :: a1 :: a2 :: b1 :: b2 :: c1 :: c2 :: d1 :: d2 :: l1 :: l2 :: (x.data ++ r)) 7 = (x.d + 32768).toNat := (get2_two [k, a1, a2, b1, b2, c1, c2] _ d1 d2 7 rfl).trans vd
  unfold headS atI
  rw [g9, g1, g3, g5, g7]
  have e1 : (k :: a1 :: a2 :: b1 :: b2 :: c1 :: c2 :: d1 :: d2 :: l1 :: l2 :: (x.data ++ r)).length = 11 + (x.data.length + r.length) := by simp; omega
  rw [e1]
  simp only [show ¬ (11 + (x.data.length + r.length) < 11) by omega, show ¬ (4096 < x.data.length) by omega, show ¬ (11 + (x.data.length + r.length) < 11 + x.data.length) by omega, decide_false, Bool.false_eq_true, if_false]
  congr 1
  have e2 : List.drop (11 + x.data.length) (k :: a1 :: a2 :: b1 :: b2 :: c1 :: c2 :: d1 :: d2 :: l1 :: l2 :: (x.data ++ r)) = r := by
    rw [Nat.add_comm]
    show List.drop x.data.length (x.data ++ r) = r
    exact List.drop_left
  have e3 : List.take x.data.length (List.drop 11 (k :: a1 :: a2 :: b1 :: b2 :: c1 :: c2 :: d1 :: d2 :: l1 :: l2 :: (x.data ++ r))) = x.data := by
    show List.take x.data.length (x.data ++ r) = x.data
    exact List.take_left
  rw [e2, e3]
  obtain ⟨kk, aa, bb, cc, dd, ll⟩ := x
  simp only [Prod.mk.injEq, and_true]
  simp only [List.headD_cons]
  congr 1 <;> (dsimp only at *; omega)
theorem uncons {b : List UInt8} {n : Nat} (h : n + 1 ≤ b.length) : ∃ x y, b = x :: y ∧ n ≤ y.length := by
  cases b with
  | nil => simp at h
  | cons x y => exact ⟨x, y, rfl, by simpa using h⟩
theorem two_bytes (a b : UInt8) : two (a.toNat * 256 + b.toNat) = [a, b] := by
  have h1 := a.toNat_lt
  have h2 := b.toNat_lt
  unfold two
  have e1 : (a.toNat * 256 + b.toNat) / 256 = a.toNat := by omega
  rw [e1]
  congr 1
  · simp
  · congr 1
    apply UInt8.toNat_inj.1
    simp
theorem step_head {b r : List UInt8} {x : Step} (h : headS b = some (x, r)) : b = stepB x ++ r ∧ goodS x := by
  unfold headS at h
  split at h
  · cases h
  · rename_i h1
    split at h
    · cases h
    · rename_i h2
      split at h
      · cases h
      · rename_i h3
        simp only [decide_eq_true_eq] at h1 h2 h3
        have h1' : 10 + 1 ≤ b.length := by omega
        clear h1
        obtain ⟨k, y0, rfl, g20⟩ := uncons (n := 10) h1'
        obtain ⟨a1, y1, rfl, g21⟩ := uncons (n := 9) g20
        obtain ⟨a2, y2, rfl, g22⟩ := uncons (n := 8) g21
        obtain ⟨b1, y3, rfl, g23⟩ := uncons (n := 7) g22
        obtain ⟨b2, y4, rfl, g24⟩ := uncons (n := 6) g23
        obtain ⟨c1, y5, rfl, g25⟩ := uncons (n := 5) g24
        obtain ⟨c2, y6, rfl, g26⟩ := uncons (n := 4) g25
        obtain ⟨d1, y7, rfl, g27⟩ := uncons (n := 3) g26
        obtain ⟨d2, y8, rfl, g28⟩ := uncons (n := 2) g27
        obtain ⟨l1, y9, rfl, g29⟩ := uncons (n := 1) g28
        obtain ⟨l2, q, rfl, g30⟩ := uncons (n := 0) g29
        clear g20 g21 g22 g23 g24 g25 g26 g27 g28 g29
        · have hdummy := trivial
          have u1 := a1.toNat_lt
          have u2 := a2.toNat_lt
          have u3 := b1.toNat_lt
          have u4 := b2.toNat_lt
          have u5 := c1.toNat_lt
          have u6 := c2.toNat_lt
          have u7 := d1.toNat_lt
          have u8 := d2.toNat_lt
          have u0 := k.toNat_lt
          have g9 : get2 (k :: a1 :: a2 :: b1 :: b2 :: c1 :: c2 :: d1 :: d2 :: l1 :: l2 :: q) 9 = l1.toNat * 256 + l2.toNat := get2_two [k, a1, a2, b1, b2, c1, c2, d1, d2] _ l1 l2 9 rfl
          have g1 : get2 (k :: a1 :: a2 :: b1 :: b2 :: c1 :: c2 :: d1 :: d2 :: l1 :: l2 :: q) 1 = a1.toNat * 256 + a2.toNat := get2_two [k] _ a1 a2 1 rfl
          have g3 : get2 (k :: a1 :: a2 :: b1 :: b2 :: c1 :: c2 :: d1 :: d2 :: l1 :: l2 :: q) 3 = b1.toNat * 256 + b2.toNat := get2_two [k, a1, a2] _ b1 b2 3 rfl
          have g5 : get2 (k :: a1 :: a2 :: b1 :: b2 :: c1 :: c2 :: d1 :: d2 :: l1 :: l2 :: q) 5 = c1.toNat * 256 + c2.toNat := get2_two [k, a1, a2, b1, b2] _ c1 c2 5 rfl
          have g7 : get2 (k :: a1 :: a2 :: b1 :: b2 :: c1 :: c2 :: d1 :: d2 :: l1 :: l2 :: q) 7 = d1.toNat * 256 + d2.toNat := get2_two [k, a1, a2, b1, b2, c1, c2] _ d1 d2 7 rfl
          unfold atI at h
          rw [g9, g1, g3, g5, g7] at h
          rw [g9] at h2 h3
          have hq : l1.toNat * 256 + l2.toNat ≤ q.length := by simp only [List.length_cons] at h3; omega
          obtain ⟨n, hn⟩ : ∃ n, l1.toNat * 256 + l2.toNat = n := ⟨_, rfl⟩
          have hln : two n = [l1, l2] := by rw [← hn]; exact two_bytes l1 l2
          rw [hn] at h h2 hq
          have e2 : List.drop (11 + n) (k :: a1 :: a2 :: b1 :: b2 :: c1 :: c2 :: d1 :: d2 :: l1 :: l2 :: q) = q.drop n := by rw [Nat.add_comm]; rfl
          have e3 : List.take n (List.drop 11 (k :: a1 :: a2 :: b1 :: b2 :: c1 :: c2 :: d1 :: d2 :: l1 :: l2 :: q)) = q.take n := rfl
          rw [e2, e3] at h
          cases h
          have hlq : (q.take n).length = n := by rw [List.length_take]; omega
          refine ⟨?_, ?_, by show (q.take n).length ≤ 4096; omega⟩
          · have z : ∀ m : Nat, (((m : Nat) : Int) - 32768 + 32768).toNat = m := fun m => by omega
            unfold stepB
            dsimp only [List.headD_cons]
            simp only [List.flatMap_cons, List.flatMap_nil, z, two_bytes, hlq, hln, Int.toNat_natCast, List.append_nil]
            simp
          · unfold oddS oddN
            simp only [List.headD_cons, List.any_cons, List.any_nil, Bool.or_false, Bool.or_eq_false_iff, decide_eq_false_iff_not]
            refine ⟨decide_eq_false (by omega), decide_eq_false (by omega), ⟨by omega, by omega⟩, ⟨by omega, by omega⟩, ⟨by omega, by omega⟩, by omega, by omega⟩
theorem stepB_pos (x : Step) : 11 ≤ (stepB x).length := by rw [stepB_len]; omega
theorem read_flat : ∀ l : List Step, (∀ x ∈ l, goodS x) → readAll (l.flatMap stepB) = (l, true)
  | [], _ => readAll_nil
  | x :: l, h => by
    have hx := head_step (h x (by simp)) (l.flatMap stepB)
    have hp := stepB_pos x
    have hne : stepB x ++ l.flatMap stepB ≠ [] := by
      intro e
      have := congrArg List.length e
      simp only [List.length_append, List.length_nil] at this
      omega
    rw [List.flatMap_cons, readAll_ok hne hx, read_flat l (fun y hy => h y (by simp [hy]))]
theorem flat_read (b : List UInt8) (h : (readAll b).2 = true) : b = (readAll b).1.flatMap stepB ∧ ∀ x ∈ (readAll b).1, goodS x := by
  by_cases hb : b = []
  · subst hb
    rw [readAll_nil]
    exact ⟨rfl, by simp⟩
  · cases hh : headS b with
    | none => rw [readAll_bad hb hh] at h; cases h
    | some p =>
      obtain ⟨x, r⟩ := p
      rw [readAll_ok hb hh] at h ⊢
      have hlt := headS_lt hh
      obtain ⟨h1, h2⟩ := flat_read r h
      obtain ⟨h3, h4⟩ := step_head hh
      refine ⟨by rw [List.flatMap_cons, ← h1]; exact h3, fun y hy => ?_⟩
      rcases List.mem_cons.1 hy with rfl | hy
      · exact h4
      · exact h2 y hy
termination_by b.length
theorem putGo_some : ∀ (l : List Step) (o r : List UInt8), o.length ≤ 16384 → putGo l o = some r → r = o ++ l.flatMap stepB ∧ r.length ≤ 16384 ∧ ∀ x ∈ l, x.data.length ≤ 4096
  | [], o, r, ho, h => by cases h; exact ⟨by simp, ho, by simp⟩
  | x :: l, o, r, ho, h => by
    rw [putGo_cons] at h
    split at h
    · cases h
    · rename_i h1
      split at h
      · cases h
      · rename_i h2
        simp only [decide_eq_true_eq] at h1 h2
        obtain ⟨e, h3, h4⟩ := putGo_some l _ r (by omega) h
        refine ⟨by rw [e]; simp, h3, fun y hy => ?_⟩
        rcases List.mem_cons.1 hy with rfl | hy
        · omega
        · exact h4 y hy
theorem putGo_ok : ∀ (l : List Step) (o : List UInt8), (o ++ l.flatMap stepB).length ≤ 16384 → (∀ x ∈ l, x.data.length ≤ 4096) → putGo l o = some (o ++ l.flatMap stepB)
  | [], o, _, _ => by simp [putGo]
  | x :: l, o, h, hx => by
    have h1 := hx x (by simp)
    rw [putGo_cons, if_neg (by simp; omega), if_neg (by simp only [List.flatMap_cons, List.length_append] at h; simp only [decide_eq_true_eq, List.length_append]; omega),
      putGo_ok l _ (by rw [List.flatMap_cons, ← List.append_assoc] at h; exact h) (fun y hy => hx y (by simp [hy]))]
    simp
theorem put_ok {l : List Step} {x : List UInt8} (h : putR l = (x, 0)) : x = l.flatMap stepB ∧ x.length ≤ 16384 ∧ l.length ≤ 1024 ∧ ∀ y ∈ l, goodS y := by
  unfold putR at h
  split at h
  · cases h
  · rename_i h1
    split at h
    · cases h
    · rename_i h2
      split at h
      · cases h
      · rename_i o ho
        cases h
        obtain ⟨e, h3, h4⟩ := putGo_some l [] x (by simp) ho
        refine ⟨by simpa using e, h3, by simpa using h1, fun y hy => ⟨?_, h4 y hy⟩⟩
        simp only [Bool.not_eq_true, List.any_eq_false] at h2
        simpa using h2 y hy
theorem put_bad {l : List Step} {x : List UInt8} {e : Int} (h : putR l = (x, e)) (he : e ≠ 0) : x = [] := by
  unfold putR at h
  split at h
  · cases h; rfl
  · split at h
    · cases h; rfl
    · split at h
      · cases h; rfl
      · cases h; exact absurd rfl he
theorem read_ok {b : List UInt8} {m : List Step} (h : readR b = (m, 0)) : b = m.flatMap stepB ∧ b.length ≤ 16384 ∧ m.length ≤ 1024 ∧ ∀ y ∈ m, goodS y := by
  unfold readR at h
  split at h
  · cases h
  · rename_i h1
    split at h
    · rename_i h2
      split at h
      · cases h
      · rename_i h3
        cases h
        obtain ⟨e, h4⟩ := flat_read b h2
        exact ⟨e, by simpa using h1, by simpa using h3, h4⟩
    · cases h
theorem read_bad {b : List UInt8} {m : List Step} {e : Int} (h : readR b = (m, e)) (he : e ≠ 0) : m = [] := by
  unfold readR at h
  split at h
  · cases h; rfl
  · split at h
    · split at h
      · cases h; rfl
      · cases h; exact absurd rfl he
    · cases h; rfl
theorem readR_flat {m : List Step} (h1 : m.length ≤ 1024) (h2 : ∀ y ∈ m, goodS y) (h3 : (m.flatMap stepB).length ≤ 16384) : readR (m.flatMap stepB) = (m, 0) := by
  unfold readR
  rw [read_flat m h2, if_neg (by simp only [decide_eq_true_eq]; omega), if_pos rfl, if_neg (by simp only [decide_eq_true_eq]; omega)]
theorem putR_flat {m : List Step} (h1 : m.length ≤ 1024) (h2 : ∀ y ∈ m, goodS y) (h3 : (m.flatMap stepB).length ≤ 16384) : putR m = (m.flatMap stepB, 0) := by
  unfold putR
  rw [if_neg (by simp only [decide_eq_true_eq]; omega), if_neg (by simp only [Bool.not_eq_true, List.any_eq_false]; intro x hx; simp [(h2 x hx).1]), putGo_ok m [] (by simpa using h3) (fun y hy => (h2 y hy).2)]
  simp
theorem put_read {l : List Step} {x : List UInt8} (h : putR l = (x, 0)) : readR x = (l, 0) := by
  obtain ⟨rfl, h1, h2, h3⟩ := put_ok h
  exact readR_flat h2 h3 h1
theorem read_put {b : List UInt8} {m : List Step} (h : readR b = (m, 0)) : putR m = (b, 0) := by
  obtain ⟨e, h1, h2, h3⟩ := read_ok h
  rw [e] at h1 ⊢
  exact putR_flat h2 h3 h1
theorem flat_pre : ∀ (m l : List Step) (r : List UInt8), (∀ x ∈ m, goodS x) → (∀ x ∈ l, goodS x) → m.flatMap stepB ++ r = l.flatMap stepB → m = l.take m.length
  | [], l, r, _, _, _ => by simp
  | x :: m, l, r, hm, hl, h => by
    have hp := stepB_pos x
    rw [List.flatMap_cons, List.append_assoc] at h
    cases l with
    | nil =>
      have := congrArg List.length h
      simp only [List.length_append, List.flatMap_nil, List.length_nil] at this
      omega
    | cons y l =>
      rw [List.flatMap_cons] at h
      have h1 := head_step (hm x (by simp)) (m.flatMap stepB ++ r)
      have h2 := head_step (hl y (by simp)) (l.flatMap stepB)
      rw [h, h2] at h1
      have hxy : y = x := (Prod.mk.inj (Option.some.inj h1)).1
      have hrest : l.flatMap stepB = m.flatMap stepB ++ r := (Prod.mk.inj (Option.some.inj h1)).2
      subst hxy
      have := flat_pre m l r (fun z hz => hm z (by simp [hz])) (fun z hz => hl z (by simp [hz])) hrest.symm
      rw [List.length_cons, List.take_succ_cons, ← this]
/-- The ends of the steps. -/
def endS (l : List Step) (k : Nat) : Nat := ((l.take k).flatMap stepB).length
theorem endS_succ {l : List Step} {k : Nat} {x : Step} (h : l[k]? = some x) : endS l (k + 1) = endS l k + 11 + x.data.length := by
  unfold endS
  rw [List.take_add_one, h, List.flatMap_append, List.length_append]
  simp only [Option.toList_some, List.flatMap_cons, List.flatMap_nil, List.append_nil, stepB_len]
  omega
/-- Where a script's octets may be cut. -/
def cutsB (l : List Step) (at_ k : Nat) : Bool := decide (at_ = 0) || (List.range k).any fun i => decide (endS l (i + 1) = at_)
theorem cutsB_succ (l : List Step) (a k : Nat) : cutsB l a (k + 1) = (cutsB l a k || decide (endS l (k + 1) = a)) := by
  unfold cutsB
  rw [List.range_succ, List.any_append]
  simp [Bool.or_assoc]
theorem cut_law {l : List Step} {b : List UInt8} (h : putR l = (b, 0)) {a : Nat} (ha : a ≤ b.length) : decide ((readR (b.take a)).2 = 0) = cutsB l a l.length := by
  obtain ⟨rfl, h1, h2, h3⟩ := put_ok h
  cases hc : cutsB l a l.length with
  | true =>
    have hk : ∃ k, k ≤ l.length ∧ endS l k = a := by
      unfold cutsB at hc
      simp only [Bool.or_eq_true, decide_eq_true_eq, List.any_eq_true, List.mem_range] at hc
      rcases hc with rfl | ⟨i, hi, e⟩
      · exact ⟨0, by omega, by simp [endS]⟩
      · exact ⟨i + 1, by omega, e⟩
    obtain ⟨k, hk, rfl⟩ := hk
    have e : (l.flatMap stepB).take (endS l k) = (l.take k).flatMap stepB := by
      have e2 : l.flatMap stepB = (l.take k).flatMap stepB ++ (l.drop k).flatMap stepB := by rw [← List.flatMap_append, List.take_append_drop]
      unfold endS
      rw [e2, List.take_left]
    rw [e, readR_flat (by rw [List.length_take]; omega) (fun y hy => h3 y (List.mem_of_mem_take hy)) (by unfold endS at ha; omega)]
    simp
  | false =>
    rw [decide_eq_false_iff_not]
    intro e
    obtain ⟨m, g, hmg⟩ : ∃ m g, readR ((l.flatMap stepB).take a) = (m, g) := ⟨_, _, rfl⟩
    rw [hmg] at e
    dsimp only at e
    subst e
    obtain ⟨e1, e2, e3, e4⟩ := read_ok hmg
    have hp := flat_pre m l ((l.flatMap stepB).drop a) e4 h3 (by rw [← e1, List.take_append_drop])
    have hml : m.length ≤ l.length := by
      have := congrArg List.length hp
      rw [List.length_take] at this
      omega
    have hlen : endS l m.length = a := by
      unfold endS
      rw [← hp, ← e1, List.length_take]
      omega
    unfold cutsB at hc
    simp only [Bool.or_eq_false_iff, decide_eq_false_iff_not, List.any_eq_false, List.mem_range] at hc
    cases hk : m.length with
    | zero =>
      rw [hk] at hlen
      exact hc.1 (by rw [← hlen]; simp [endS])
    | succ i =>
      rw [hk] at hlen
      exact hc.2 i (by omega) (by simpa using hlen)
end Go.Proofs.Ytflfpfaebndefab
