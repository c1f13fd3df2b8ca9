/- Package script: Put. No claim of its own; no condition. -/
import Derived.Test.YtflfpfaebndefabStpB
namespace Go.Proofs.Ytflfpfaebndefab
open Go.ChangeShapes Go.WideShapes Go.ChangeAt Go.RowKit Go.Shelf
set_option linter.unusedVariables false
set_option linter.unusedSimpArgs false
/-- The octets of all steps behind some; none: too long. -/
def putGo : List Step → List UInt8 → Option (List UInt8)
  | [], out => some out
  | x :: l, out => if decide (4096 < x.data.length) then none else if decide (16384 < (out ++ stepB x).length) then none else putGo l (out ++ stepB x)
def putR (l : List Step) : List UInt8 × Int :=
  if decide (1024 < l.length) then ([], 3) else if l.any oddS then ([], 4) else match putGo l [] with | none => ([], 5) | some o => (o, 0)
set_option maxHeartbeats 1600000 in
set_option maxRecDepth 100000 in
theorem index_step (l : List Step) (A : Option Addr) (c : Nat) (w : World) (B : Nat) (hl : l.length ≤ 2097152) (hr : kStep.Row 66 B w A l) :
    Calls Try.prog 59 #[.slice A l.length c, .func (.func 49) #[] #[]] w fun e w' => e = .returned (.int .i64 (idxF oddS l)) ∧ Below w.heap.size w w' := by
  go_enter Try.func59, Try.ntmps59
  go_wp2_with fail
  go_loopw [8] (fun kv w' => ∃ k : Nat, k ≤ l.length ∧ kv = .int .i64 k ∧ Hid (∀ x ∈ l.take k, oddS x = false) ∧ Below w.heap.size w w') (fun kv _ => l.length - (intOf kv).toNat)
  case atStart => exact ⟨0, by omega, rfl, Lib.hid (by simp), Below.refl _ _⟩
  case round =>
    obtain ⟨k, h1, rfl, hall, bel⟩ := hrel
    by_cases h : k < l.length
    · obtain ⟨x, hx⟩ : ∃ x, l[k]? = some x := ⟨_, List.getElem?_eq_getElem h⟩
      obtain ⟨ad, rfl, A5, c5, e0, e1, e2, e3, e4, e5, ik, ia, ib, ic, idd, hl5, hm5, hr5⟩ := kStep_at (Kd.row_below bel hr) hx
      have hi1 : (k : Int) < (l.length : Int) := by omega
      have hcall := odd_calls x A5 x.data.length c5 wr ia ib ic idd
      obtain ⟨b, hb⟩ : ∃ b, oddS x = b := ⟨_, rfl⟩
      rw [hb] at hcall
      cases b with
      | true =>
        have hres := idx_hit hx hall.out hb
        have HR := Lib.hid hres
        have HC := Lib.hid hcall
        clear hres hx hb hcall
        go_wp2_with (go_at_call 49; refine (HC.out).mono ?_; rintro e w1 ⟨rfl, b1⟩)
        go_ret
        exact ⟨by rw [HR.out]; rfl, bl_trans bel b1⟩
      | false =>
        have hres := take_all hx hall.out hb
        have HR := Lib.hid hres
        have HC := Lib.hid hcall
        clear hres hx hb hcall
        go_wp2_with (go_at_call 49; refine (HC.out).mono ?_; rintro e w1 ⟨rfl, b1⟩)
        go_roundw
        case rel => exact ⟨k + 1, by omega, by go_num, HR, bl_trans bel b1⟩
        case measure => simp [intOf]; omega
    · have hk : k = l.length := by omega
      subst hk
      rw [List.take_of_length_le (Nat.le_refl _)] at hall
      have hres := idx_none hall.out
      have HR := Lib.hid hres
      clear hres
      go_wp2_with fail
      go_ret
      exact ⟨by rw [HR.out]; rfl, bel⟩
theorem any_step (l : List Step) (A : Option Addr) (c : Nat) (w : World) (B : Nat) (hl : l.length ≤ 2097152) (hr : kStep.Row 66 B w A l) :
    Calls Try.prog 48 #[.slice A l.length c, .func (.func 49) #[] #[]] w fun e w' => e = .returned (.bool (l.any oddS)) ∧ Below w.heap.size w w' := by
  have hi := index_step l A c w B hl hr
  rw [← idx_any oddS l]
  generalize idxF oddS l = r at *
  clear hl hr
  go_enter Try.func48, Try.ntmps48
  have HI := Lib.hid hi
  clear hi
  go_wp2_with (go_at_call 59; refine (HI.out).mono ?_; rintro e w1 ⟨rfl, b1⟩)
  go_ret
  exact ⟨rfl, b1⟩
theorem stepB_len (x : Step) : (stepB x).length = 11 + x.data.length := by
  unfold stepB
  simp only [List.length_cons, List.length_append, two_len, List.length_nil]
  simp only [two, List.length_cons, List.length_nil]
  omega
theorem putGo_cons {x : Step} {l : List Step} {o : List UInt8} : putGo (x :: l) o = if decide (4096 < x.data.length) then none else if decide (16384 < (o ++ stepB x).length) then none else putGo l (o ++ stepB x) := rfl
theorem drop_get {α : Type} {l : List α} {k : Nat} {x : α} (h : l[k]? = some x) : l.drop k = x :: l.drop (k + 1) := by
  obtain ⟨hk, rfl⟩ := List.getElem?_eq_some_iff.1 h
  exact List.drop_eq_getElem_cons hk
set_option maxHeartbeats 3200000 in
set_option maxRecDepth 100000 in
theorem put_calls (l : List Step) (A : Option Addr) (n c : Nat) (w : World) (B : Nat) (hn : n = l.length) (hl : l.length ≤ 1048576) (hr : kStep.Row 66 B w A l) :
    Calls Try.prog 28 #[.slice A n c] w fun e w' => (∃ v, e = .returned (.tuple #[v, .int .i64 (putR l).2]) ∧ Kd.u8.Own 5 w.heap.size w' w.heap.size v (putR l).1) ∧ Below w.heap.size w w' := by
  subst hn
  obtain ⟨i0, hi, hz0, hz1, hz2⟩ := info_parts info_u8
  obtain ⟨R, hR⟩ : ∃ R, putR l = R := ⟨_, rfl⟩
  rw [hR]
  unfold putR at hR
  obtain ⟨G, hG⟩ : ∃ G, putGo l [] = G := ⟨_, rfl⟩
  rw [hG] at hR
  have HG := Lib.hid hG
  clear hG
  cases h1 : decide (1024 < l.length)
  · rw [h1, if_neg (by simp)] at hR
    obtain ⟨b, hb⟩ : ∃ b, l.any oddS = b := ⟨_, rfl⟩
    have ha := any_step l A c w B (by omega) hr
    rw [hb] at ha hR
    cases b
    · have hall : ∀ x ∈ l, oddS x = false := fun x hx => by
        cases ho : oddS x
        · rfl
        · have : l.any oddS = true := List.any_eq_true.2 ⟨x, hx, ho⟩
          rw [hb] at this
          cases this
      have HALL := Lib.hid hall
      clear hb hall
      rw [if_neg (by simp)] at hR
      have HR := Lib.hid hR
      have HA := Lib.hid ha
      have hl2 : l.length ≤ 1024 := by simpa using h1
      have h1I : ¬ ((l.length : Int) > 1024) := by omega
      clear hR ha h1
      go_enter Try.func28, Try.ntmps28
      go_wp2_with (go_at_call 48; refine (HA.out).mono ?_; rintro e w1 ⟨rfl, b1⟩)
      go_loopw [4, 16] (fun ov kv w' => ∃ (k : Nat) (out : List UInt8), k ≤ l.length ∧ kv = .int .i64 k ∧ Hid (putGo (l.drop k) out = G) ∧ out.length ≤ 16384 ∧ Kd.u8.Own 5 w.heap.size w' w.heap.size ov out ∧ Below w.heap.size w w') (fun _ kv _ => l.length - (intOf kv).toNat)
      case atStart => exact ⟨0, [], by omega, rfl, by rw [List.drop_zero]; exact HG, by simp, Kd.own_nil _ _ _ _ _, b1⟩
      case round =>
        obtain ⟨k, out, hk, rfl, hgo, hlo, own, bel⟩ := hrel
        by_cases h : k < l.length
        · obtain ⟨x, hx⟩ : ∃ x, l[k]? = some x := ⟨_, List.getElem?_eq_getElem h⟩
          obtain ⟨ad, rfl, A5, c5, e0, e1, e2, e3, e4, e5, ik, ia, ib, ic, idd, hl5, hm5, hr5⟩ := kStep_at (Kd.row_below bel hr) hx
          have hgo2 := hgo.out
          rw [drop_get hx, putGo_cons] at hgo2
          have hkI : (k : Int) < (l.length : Int) := by omega
          have hod := HALL.out x (List.mem_of_getElem? hx)
          have belA := bl_trans bel (bl_alloc (Below.refl wr.heap.size wr) (.cells #[.int .i64 x.kind, .int .i64 x.a, .int .i64 x.b, .int .i64 x.c, .int .i64 x.d, .slice A5 x.data.length c5] 66))
          have ownA := Kd.own_below own (bl_alloc (Below.refl wr.heap.size wr) (.cells #[.int .i64 x.kind, .int .i64 x.a, .int .i64 x.b, .int .i64 x.c, .int .i64 x.d, .slice A5 x.data.length c5] 66))
          have rowA := Kd.row_below (bl_alloc (Below.refl wr.heap.size wr) (.cells #[.int .i64 x.kind, .int .i64 x.a, .int .i64 x.b, .int .i64 x.c, .int .i64 x.d, .slice A5 x.data.length c5] 66)) hr5
          cases k1 : decide (4096 < x.data.length)
          · rw [k1, if_neg (by simp)] at hgo2
            have hd : x.data.length ≤ 4096 := by simpa using k1
            have hsl := stepB_len x
            obtain ⟨o2, ho2⟩ : ∃ o2, out ++ stepB x = o2 := ⟨_, rfl⟩
            have hl2 : out.length + (stepB x).length ≤ 4194304 := by omega
            have hstep := step_calls x A5 c5 (wr.alloc (.cells #[.int .i64 x.kind, .int .i64 x.a, .int .i64 x.b, .int .i64 x.c, .int .i64 x.d, .slice A5 x.data.length c5] 66)) B hod hd rowA
            rw [ho2] at hgo2
            have HS := Lib.hid hstep
            have HL2 := Lib.hid hl2
            have HO := Lib.hid ho2
            have hk1I : ¬ ((x.data.length : Int) > 4096) := by omega
            obtain ⟨Ao, co, rfl, _, _, _, _⟩ := Kd.own_row own
            clear hstep hl2 ho2 hsl k1 hx hd own hod
            cases k2 : decide (16384 < o2.length)
            · rw [k2, if_neg (by simp)] at hgo2
              have HGO := Lib.hid hgo2
              have hl3 : o2.length ≤ 16384 := by simpa using k2
              have hk2I : ¬ ((o2.length : Int) > 16384) := by omega
              clear hgo2 k2
              go_wp2_with (first
                | (go_at_call 50; refine (HS.out).mono ?_; rintro e w3 ⟨⟨v3, rfl, own3⟩, b3⟩; obtain ⟨A6, c6, rfl, _, _, row6, _⟩ := Kd.own_row (Kd.own_flat (B' := w.heap.size) Kd.flat_u8 own3 (Nat.le_refl _)); have ownB := Kd.own_below ownA b3; have belB := bl_trans belA b3)
                | (at_builtin; refine wpList_append_row _ rfl (.tmp 24) (.tmp 26) 58 rfl Kd.u8 w.heap.size w.heap.size 5 i0 _ 1 Try.underlying58 hi hz0 hz1 hz2 rfl (by decide) _ out rfl ownB _ _ _ (stepB x) rfl rfl row6 HL2.out (by decide) belB.size (Nat.le_refl _) (by decide) ?_; intro v4 w4 own4 grw4 at4; have bel4 := Kd.own_step belB ownB grw4; rw [HO.out] at own4; obtain ⟨A7, c7, rfl, _, _, _, _⟩ := Kd.own_row own4))
              go_roundw
              case rel => exact ⟨k + 1, o2, by omega, by go_num, HGO, hl3, own4, bel4⟩
              case measure => simp [intOf]; omega
            · rw [k2, if_pos rfl] at hgo2
              subst hgo2
              have hk2I : (o2.length : Int) > 16384 := by have : 16384 < o2.length := (by simpa using k2); omega
              clear k2
              go_wp2_with (first
                | (go_at_call 50; refine (HS.out).mono ?_; rintro e w3 ⟨⟨v3, rfl, own3⟩, b3⟩; obtain ⟨A6, c6, rfl, _, _, row6, _⟩ := Kd.own_row (Kd.own_flat (B' := w.heap.size) Kd.flat_u8 own3 (Nat.le_refl _)); have ownB := Kd.own_below ownA b3; have belB := bl_trans belA b3)
                | (at_builtin; refine wpList_append_row _ rfl (.tmp 24) (.tmp 26) 58 rfl Kd.u8 w.heap.size w.heap.size 5 i0 _ 1 Try.underlying58 hi hz0 hz1 hz2 rfl (by decide) _ out rfl ownB _ _ _ (stepB x) rfl rfl row6 HL2.out (by decide) belB.size (Nat.le_refl _) (by decide) ?_; intro v4 w4 own4 grw4 at4; have bel4 := Kd.own_step belB ownB grw4; rw [HO.out] at own4; obtain ⟨A7, c7, rfl, _, _, _, _⟩ := Kd.own_row own4))
              refine bodyPost_ret (v := .tuple #[.slice none 0 0, .int .i64 5]) (by simp [results, Try.results28, go_sem]) rfl ⟨⟨.slice none 0 0, ?_, ?_⟩, bel4⟩
              · rw [← HR.out]
              · rw [← HR.out]; exact Kd.own_nil _ _ _ _ _
          · rw [k1, if_pos rfl] at hgo2
            subst hgo2
            have hk1I : (x.data.length : Int) > 4096 := by have : 4096 < x.data.length := (by simpa using k1); omega
            clear k1 hx own hod
            go_wp2_with fail
            refine bodyPost_ret (v := .tuple #[.slice none 0 0, .int .i64 5]) (by simp [results, Try.results28, go_sem]) rfl ⟨⟨.slice none 0 0, ?_, ?_⟩, belA⟩
            · rw [← HR.out]
            · rw [← HR.out]; exact Kd.own_nil _ _ _ _ _
        · have hk2 : k = l.length := by omega
          subst hk2
          have hgo2 := hgo.out
          rw [List.drop_of_length_le (Nat.le_refl _)] at hgo2
          have hgo3 : some out = G := hgo2
          subst hgo3
          clear hgo2 hgo h
          have hnI : ¬ ((l.length : Int) < (l.length : Int)) := by omega
          obtain ⟨Ao, co, rfl, _, _, _, _⟩ := Kd.own_row own
          go_wp2_with fail
          refine bodyPost_ret (v := .tuple #[.slice Ao out.length co, .int .i64 0]) (by simp [results, Try.results28, go_sem]) rfl ⟨⟨.slice Ao out.length co, ?_, ?_⟩, bel⟩
          · rw [← HR.out]
          · rw [← HR.out]; exact own
    · clear hb
      rw [if_pos rfl] at hR
      have HA := Lib.hid ha
      have h1I : ¬ ((l.length : Int) > 1024) := by have : l.length ≤ 1024 := (by simpa using h1); omega
      clear ha h1
      subst hR
      go_enter Try.func28, Try.ntmps28
      go_wp2_with (go_at_call 48; refine (HA.out).mono ?_; rintro e w1 ⟨rfl, b1⟩)
      refine bodyPost_ret (v := .tuple #[.slice none 0 0, .int .i64 4]) (by simp [results, Try.results28, go_sem]) rfl ⟨⟨_, rfl, Kd.own_nil _ _ _ _ _⟩, b1⟩
  · rw [h1, if_pos rfl] at hR
    have h1I : (l.length : Int) > 1024 := by have : 1024 < l.length := (by simpa using h1); omega
    subst hR
    go_enter Try.func28, Try.ntmps28
    go_wp2_with fail
    refine bodyPost_ret (v := .tuple #[.slice none 0 0, .int .i64 3]) (by simp [results, Try.results28, go_sem]) rfl ⟨⟨_, rfl, Kd.own_nil _ _ _ _ _⟩, Below.refl _ _⟩
end Go.Proofs.Ytflfpfaebndefab
