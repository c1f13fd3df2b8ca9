/- Package script: a step's octets. No claim of its own; no condition. -/
import Derived.Test.YtflfpfaebndefabStpA
namespace Go.Proofs.Ytflfpfaebndefab
open Go.ChangeShapes Go.WideShapes Go.ChangeAt Go.RowKit Go.Shelf
set_option linter.unusedVariables false
set_option linter.unusedSimpArgs false
def two (v : Nat) : List UInt8 := [UInt8.ofNat (v / 256), UInt8.ofNat v]
def stepB (x : Step) : List UInt8 := UInt8.ofNat x.kind.toNat :: (([x.a, x.b, x.c, x.d].flatMap fun n => two (n + 32768).toNat) ++ two x.data.length ++ x.data)
theorem info_u8 : (Try.prog.info? 5).map (fun i => (i.zero, i.size, i.bytes)) = some (some (.int .u8 0), 1, 1) := by kernel_rfl
theorem put2_row (v : Nat) (hv : v < 65536) (w : World) :
    Calls Try.prog 63 #[.int .i64 (v : Int), .int .i64 2] w fun e w' => (∃ g, e = .returned (.slice (some g) 2 2) ∧ ∀ B, Kd.u8.Row 5 B w' (some g) (two v)) ∧ Below w.heap.size w w' := by
  refine (callsIn_wide.1 (put2_in Fence.wide 3 trivial trivial trivial rfl (by omega) v (by omega) w)).mono ?_
  rintro e w' ⟨⟨rfl, hb⟩, bel⟩
  refine ⟨⟨_, rfl, fun B => ?_⟩, bel⟩
  have e1 : (#[.int .u8 ((v / 256 % 256 : Nat) : Int), .int .u8 ((v % 256 : Nat) : Int)] : Array Value) = ([.int .u8 ((UInt8.ofNat (v / 256)).toNat : Int), .int .u8 ((UInt8.ofNat v).toNat : Int)] : List Value).toArray := by simp
  rw [e1] at hb
  have ho := own_of_block (d := Kd.u8) (B := B) (base := w.heap.size) (n := 2) (xs := two v) hb (.cons (show Kd.u8.K _ _ _ [_] from rfl) (.cons (show Kd.u8.K _ _ _ [_] from rfl) .nil)) (Nat.le_refl _) rfl (by simp [maxLen])
  obtain ⟨A, c, h1, _, _, h2, _⟩ := Kd.own_row ho
  cases h1
  exact h2
theorem put2_int (n : Int) (h0 : 0 ≤ n) (h1 : n < 65536) (w : World) :
    Calls Try.prog 63 #[.int .i64 n, .int .i64 2] w fun e w' => (∃ g, e = .returned (.slice (some g) 2 2) ∧ ∀ B, Kd.u8.Row 5 B w' (some g) (two n.toNat)) ∧ Below w.heap.size w w' := by
  have h := put2_row n.toNat (by omega) w
  rwa [show ((n.toNat : Nat) : Int) = n by omega] at h
theorem flat_snoc {α β : Type} (f : α → List β) (l : List α) (k : Nat) (x : α) (h : l[k]? = some x) : (l.take (k + 1)).flatMap f = (l.take k).flatMap f ++ f x := by
  rw [List.take_add_one, h, List.flatMap_append]
  simp
theorem two_len (l : List Int) : (l.flatMap fun n => two (n + 32768).toNat).length = 2 * l.length := by
  induction l with
  | nil => rfl
  | cons x l ih => simp only [List.flatMap_cons, List.length_append, ih, List.length_cons]; simp only [two, List.length_cons, List.length_nil]; omega
theorem oddN_no {n : Int} (h : oddN n = false) : -32768 ≤ n ∧ n < 32768 := by
  unfold oddN at h
  simp only [Bool.or_eq_false_iff, decide_eq_false_iff_not] at h
  omega
set_option maxHeartbeats 3200000 in
set_option maxRecDepth 100000 in
theorem step_calls (x : Step) (A : Option Addr) (c : Nat) (w : World) (B : Nat) (ho : oddS x = false) (hd : x.data.length ≤ 4096) (hr : Kd.u8.Row 5 B w A x.data) :
    Calls Try.prog 50 #[.agg #[.int .i64 x.kind, .int .i64 x.a, .int .i64 x.b, .int .i64 x.c, .int .i64 x.d, .slice A x.data.length c]] w fun e w' => (∃ v, e = .returned v ∧ Kd.u8.Own 5 w.heap.size w' w.heap.size v (stepB x)) ∧ Below w.heap.size w w' := by
  obtain ⟨i0, hi, hz0, hz1, hz2⟩ := info_parts info_u8
  unfold oddS at ho
  simp only [Bool.or_eq_false_iff, List.any_cons, List.any_nil, Bool.or_false, decide_eq_false_iff_not] at ho
  obtain ⟨k1, k2, oa, ob, oc, od⟩ := ho
  have hall : ∀ n ∈ [x.a, x.b, x.c, x.d], -32768 ≤ n ∧ n < 32768 := by
    intro n hn
    simp only [List.mem_cons, List.not_mem_nil, or_false] at hn
    rcases hn with rfl | rfl | rfl | rfl
    · exact oddN_no oa
    · exact oddN_no ob
    · exact oddN_no oc
    · exact oddN_no od
  have ia : IntOk x.a := by have := oddN_no oa; constructor <;> omega
  have ib : IntOk x.b := by have := oddN_no ob; constructor <;> omega
  have ic : IntOk x.c := by have := oddN_no oc; constructor <;> omega
  have idd : IntOk x.d := by have := oddN_no od; constructor <;> omega
  obtain ⟨kn, hkn⟩ : ∃ kn : Nat, x.kind = (kn : Int) := ⟨x.kind.toNat, by omega⟩
  have hk8 : x.kind % 256 = ((UInt8.ofNat x.kind.toNat).toNat : Int) := by
    rw [hkn]
    simp
  have HK := Lib.hid hk8
  have HB : Hid (stepB x = UInt8.ofNat x.kind.toNat :: (([x.a, x.b, x.c, x.d].flatMap fun n => two (n + 32768).toNat) ++ two x.data.length ++ x.data)) := Lib.hid rfl
  clear oa ob oc od k1 k2 hkn hk8
  go_enter Try.func50, Try.ntmps50
  have b0 := bl_alloc (Below.refl w.heap.size w) (.cells #[.int .i64 x.kind, .int .i64 x.a, .int .i64 x.b, .int .i64 x.c, .int .i64 x.d, .slice A x.data.length c] 66)
  have bb := alloc_new w (.cells #[.int .i64 x.kind, .int .i64 x.a, .int .i64 x.b, .int .i64 x.c, .int .i64 x.d, .slice A x.data.length c] 66)
  go_wp2_with ((go_at_call 61; refine (numbers_calls x A x.data.length c _ ia ib ic idd).mono ?_; rintro e w1 ⟨⟨g, rfl, r1⟩, b1⟩))
  rw [HK.out] at b1
  have e1 : (w.alloc (.cells #[.int .i64 x.kind, .int .i64 x.a, .int .i64 x.b, .int .i64 x.c, .int .i64 x.d, .slice A x.data.length c] 66)).heap.size = w.heap.size + 1 := by simp
  have bo := alloc_new (w.alloc (.cells #[.int .i64 x.kind, .int .i64 x.a, .int .i64 x.b, .int .i64 x.c, .int .i64 x.d, .slice A x.data.length c] 66)) (.cells #[.int .u8 ((UInt8.ofNat x.kind.toNat).toNat : Int)] 5)
  rw [e1] at bo
  have own0 : Kd.u8.Own 5 w.heap.size _ w.heap.size (.slice (some ⟨w.heap.size + 1, 0, none⟩) 1 1) (UInt8.ofNat x.kind.toNat :: ([x.a, x.b, x.c, x.d].take 0).flatMap fun n => two (n + 32768).toNat) :=
    own_of_block (d := Kd.u8) (cs := [.int .u8 ((UInt8.ofNat x.kind.toNat).toNat : Int)]) bo (.cons (show Kd.u8.K _ _ _ [_] from rfl) .nil) (by omega) rfl (by simp [maxLen])
  have own1 := Kd.own_below own0 b1
  have bb1 := block_below b1 (alloc_old bb (.cells #[.int .u8 ((UInt8.ofNat x.kind.toNat).toNat : Int)] 5))
  have bel1 := bl_trans (bl_alloc b0 (.cells #[.int .u8 ((UInt8.ofNat x.kind.toNat).toNat : Int)] 5)) b1
  have r2 := r1 w.heap.size
  clear own0 bo b1 bb b0 r1 e1
  go_loopw [3, 13] (fun ov kv w' => ∃ k : Nat, k ≤ 4 ∧ kv = .int .i64 k ∧ Kd.u8.Own 5 w.heap.size w' w.heap.size ov (UInt8.ofNat x.kind.toNat :: ([x.a, x.b, x.c, x.d].take k).flatMap fun n => two (n + 32768).toNat) ∧ Keeps w.heap.size [66, 3] w1 w' ∧ Below w.heap.size w w') (fun _ kv _ => 4 - (intOf kv).toNat)
  case atStart => exact ⟨0, by omega, rfl, (by simpa using own1), Keeps.refl _ _ _, bel1⟩
  case round =>
    obtain ⟨k, h1, rfl, own, kp, bel⟩ := hrel
    by_cases h : k < 4
    · obtain ⟨n, hn⟩ : ∃ n, [x.a, x.b, x.c, x.d][k]? = some n := ⟨_, List.getElem?_eq_getElem h⟩
      obtain ⟨ad, hg, hc0, _⟩ := int_at (Kd.row_keep (kp.mono (by simp [Kd.int])) r2) hn
      cases hg
      have hs := flat_snoc (fun n : Int => two (n + 32768).toNat) _ _ _ hn
      obtain ⟨hn1, hn2⟩ := hall n (List.mem_of_getElem? hn)
      have hkI : (k : Int) < 4 := by omega
      have HS := Lib.hid hs
      clear hs hn
      have hlo : ((UInt8.ofNat x.kind.toNat :: ([x.a, x.b, x.c, x.d].take k).flatMap fun n => two (n + 32768).toNat).length ≤ 9) := by
        simp only [List.length_cons, two_len, List.length_take]; omega
      obtain ⟨T, hT⟩ : ∃ T, (UInt8.ofNat x.kind.toNat :: ([x.a, x.b, x.c, x.d].take k).flatMap fun n => two (n + 32768).toNat) = T := ⟨_, rfl⟩
      rw [hT] at hlo own
      have HT := Lib.hid hT
      clear hT
      obtain ⟨Ao, co, rfl, _, _, _, _⟩ := Kd.own_row own
      go_wp2_with (first
        | (go_at_call 63; refine (put2_int (n + 32768) (by omega) (by omega) _).mono ?_; rintro e w3 ⟨⟨g3, rfl, r3⟩, b3⟩; have own3 := Kd.own_below own b3; have bel3 := bl_trans bel b3)
        | (at_builtin; refine wpList_append_row _ rfl (.tmp 17) (.tmp 20) 58 rfl Kd.u8 w.heap.size w.heap.size 5 i0 _ 1 Try.underlying58 hi hz0 hz1 hz2 rfl (by decide) _ T rfl own3 _ _ _ (two (n + 32768).toNat) rfl rfl (r3 _) (by simp only [two, List.length_cons, List.length_nil]; omega) (by decide) bel3.size (Nat.le_refl _) (by decide) ?_; intro v4 w4 own4 grw4 at4; have bel4 := Kd.own_step bel3 own3 grw4; have kp4 := (kp.trans (Keeps.of_below b3)).trans (Kd.own_keeps own3 grw4 (Nat.le_refl _) (by decide))))
      go_roundw
      case rel => exact ⟨k + 1, by omega, by go_num, (by rw [HS.out]; rw [← HT.out] at own4; simpa using own4), kp4, bel4⟩
      case measure => simp [intOf]; omega
    · have hk : k = 4 := by omega
      subst hk
      have h4I : ¬ (((4 : Nat) : Int) < 4) := by omega
      have bb2 := (kp.2 _ (held_type bb1 (by decide))).trans bb1
      have k5 := held_keep (B := w.heap.size) (E := [66, 3]) (block_cell bb2 (i := 5) (v := .slice A x.data.length c) rfl) (held_type bb2 (by decide))
      rw [show [x.a, x.b, x.c, x.d].take 4 = [x.a, x.b, x.c, x.d] from rfl] at own
      have hlo : (UInt8.ofNat x.kind.toNat :: [x.a, x.b, x.c, x.d].flatMap fun n => two (n + 32768).toNat).length = 9 := by
        simp only [List.length_cons, two_len, List.length_nil]
      obtain ⟨T, hT⟩ : ∃ T, (UInt8.ofNat x.kind.toNat :: [x.a, x.b, x.c, x.d].flatMap fun n => two (n + 32768).toNat) = T := ⟨_, rfl⟩
      have hst : stepB x = T ++ two x.data.length ++ x.data := by rw [HB.out, ← hT]; simp
      rw [hT] at hlo own
      have HST := Lib.hid hst
      have HLO := Lib.hid hlo
      clear hlo hT hst h own1 bb1 bel1 r2
      obtain ⟨Ao, co, rfl, _, _, _, _⟩ := Kd.own_row own
      have own2 := Kd.own_below own (bl_drew (Below.refl wr.heap.size wr))
      have belD := bl_trans bel (bl_drew (Below.refl wr.heap.size wr))
      have rdat := Kd.row_flat Kd.flat_u8 hr (Nat.le_refl _)
      obtain ⟨m, hm⟩ : ∃ m, x.data.length = m := ⟨_, rfl⟩
      have HM := Lib.hid hm
      rw [hm] at hd
      simp only [hm] at k5 ⊢
      clear hm hr bb2 own
      go_wp2_with fail
      go_region_held3 (fun w' => Keeps w.heap.size [66, 3] wr w') (repeat (first | exact Keeps.refl _ _ _ | assumption | apply kp_drew | apply kp_alloc | refine Keeps.trans ?_ (Keeps.of_below (by assumption)))) ((first
        | (go_at_call 63; refine (put2_row m (by omega) _).mono ?_; rintro e w3 ⟨⟨g3, rfl, r3⟩, b3⟩; have own3 := Kd.own_below own2 b3; have bel3 := bl_trans belD b3; have kp3 := Keeps.trans (kp_drew (Keeps.refl w.heap.size [66, 3] wr)) (Keeps.of_below b3))
        | (refine step_append_row _ (by rfl) (.tmp 23) (.tmp 27) 58 (by rfl) Kd.u8 w.heap.size w.heap.size 5 i0 _ 1 Try.underlying58 hi hz0 hz1 hz2 rfl (by decide) _ T (by rfl) own3 _ _ _ (two m) (by rfl) rfl (r3 _) (by rw [HLO.out]; simp [two]) (by decide) bel3.size (Nat.le_refl _) (by decide) ?_; intro v4 w4 own4 grw4 at4; have bel4 := Kd.own_step bel3 own3 grw4; have kp4 := kp3.trans (Kd.own_keeps own3 grw4 (Nat.le_refl _) (by decide)); have r4 := Kd.row_below bel4 rdat; obtain ⟨A4, c4, rfl, _, _, _, _⟩ := Kd.own_row own4)
        | (refine step_append_row _ (by rfl) (.tmp 28) (.tmp 30) 58 (by rfl) Kd.u8 w.heap.size w.heap.size 5 i0 _ 1 Try.underlying58 hi hz0 hz1 hz2 rfl (by decide) _ (T ++ two m) (by rfl) own4 _ _ _ x.data (by rfl) HM.out.symm r4 (by rw [HM.out, List.length_append, HLO.out]; simp [two]; omega) (by decide) bel4.size (Nat.le_refl _) (by decide) ?_; intro v5 w5 own5 grw5 at5; have bel5 := Kd.own_step bel4 own4 grw5; have kp5 := kp4.trans (Kd.own_keeps own4 grw5 (Nat.le_refl _) (by decide)); obtain ⟨A5, c5, rfl, _, _, _, _⟩ := Kd.own_row own5)))
      go_wp2_with fail
      go_ret
      have hL : (T ++ two m ++ x.data).length = T.length + ((two m).length + m) := by simp [HM.out, Nat.add_assoc]
      rw [hL] at own5
      exact ⟨⟨_, rfl, by rw [HST.out, HM.out]; exact own5⟩, bel5⟩
end Go.Proofs.Ytflfpfaebndefab
