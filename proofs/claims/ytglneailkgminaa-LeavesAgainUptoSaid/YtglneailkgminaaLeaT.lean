/- Package leaves: Twice. No claim of its own; no condition. -/
import Derived.Test.YtglneailkgminaaLeaM
namespace Go.Proofs.Ytglneailkgminaa
open Go.ChangeShapes Go.WideShapes Go.ChangeAt Go.RowKit
set_option linter.unusedVariables false
set_option linter.unusedSimpArgs false
theorem update_at {w : World} {b t e : Nat} {m : List (Slot × Value)} (h : SMap w b m) (ht : Try.prog.underlying t = some (.map 113 e)) (s : Slot) (v : Value) :
    ∃ w', (Instr.mapUpdate t (.map (some b)) (slotK s) v).run Try.prog w = .ok () w' ∧ SMap w' b (putS s v m) ∧ (∀ N, N ≤ b → Below N w w') ∧ ∀ k, k ≠ b → w'.heap[k]? = w.heap[k]? := by
  obtain ⟨o, h1, h2⟩ := update_ok h ht s v
  exact ⟨_, h1, h2, fun N hN => setB_below o hN, fun k hk => setB_other o hk⟩
section
variable {α : Type}
def lookG (s : Slot) : List (Slot × α) → Option α
  | [] => none
  | p :: m => if s = p.1 then some p.2 else lookG s m
def putG (s : Slot) (a : α) : List (Slot × α) → List (Slot × α)
  | [] => [(s, a)]
  | p :: m => if s = p.1 then (s, a) :: m else p :: putG s a m
def mapG (f : α → Value) (m : List (Slot × α)) : List (Slot × Value) := m.map fun p => (p.1, f p.2)
theorem idx_look (f : α → Value) (s : Slot) : ∀ (m : List (Slot × α)) (i : Nat), (idxS s (mapG f m) i).map (·.2) = (lookG s m).map f
  | [], _ => rfl
  | p :: m, i => by
    show (idxS s ((p.1, f p.2) :: mapG f m) i).map (·.2) = _
    unfold idxS lookG
    by_cases h : s = p.1
    · simp [h]
    · simp only [h, if_false]
      exact idx_look f s m (i + 1)
theorem look_map (f : α → Value) (s : Slot) (m : List (Slot × α)) : lookS s (mapG f m) = (lookG s m).map f := idx_look f s m 0
theorem put_map (f : α → Value) (s : Slot) (a : α) : ∀ m : List (Slot × α), putS s (f a) (mapG f m) = mapG f (putG s a m)
  | [] => rfl
  | p :: m => by
    show putS s (f a) ((p.1, f p.2) :: mapG f m) = _
    unfold putS putG
    by_cases h : s = p.1
    · simp [h, mapG]
    · simp only [h, if_false]
      rw [put_map f s a m]
      rfl
end
def Use.slot (u : Use) : Slot := (u.signer, u.leaf)
structure TwS where
  first : List (Slot × ByteArray)
  odd : List (Slot × Unit)
def stepT (s : TwS) (u : Use) : TwS :=
  match lookG u.slot s.first with
  | none => ⟨putG u.slot u.text s.first, s.odd⟩
  | some t => ⟨s.first, if (t.toList == u.text.toList) = true then s.odd else putG u.slot () s.odd⟩
def foldT (l : List Use) : TwS := l.foldl stepT ⟨[], []⟩
theorem foldT_succ (l : List Use) (k : Nat) (x : Use) (hx : l[k]? = some x) : foldT (l.take (k + 1)) = stepT (foldT (l.take k)) x := by
  unfold foldT
  rw [List.take_add_one, hx]
  simp
def twF (l : List Use) : List Use := l.filter fun u => (lookG u.slot (foldT l).odd).isSome
def strV (t : ByteArray) : Value := .string t
def truV (_ : Unit) : Value := .bool true
theorem zero9 : ∀ w, (zeroValue 9).run Try.prog w = .ok (.string ⟨#[]⟩) w := fun w => by kernel_rfl
theorem zero4 : ∀ w, (zeroValue 4).run Try.prog w = .ok (.bool false) w := fun w => by kernel_rfl
set_option maxHeartbeats 1600000 in
set_option maxRecDepth 100000 in
theorem twc_calls (u : Use) (C M : Nat) (m : List (Slot × Unit)) (w : World) (hc : w.heap[C]? = some (.cells #[.map (some M)] 111 (0, 0))) (hm : SMap w M (mapG truV m)) :
    Calls Try.prog 68 #[.agg #[.int .i64 u.signer, .int .i64 u.leaf, .string u.text], .pointer (some ⟨C, 0, none⟩)] w fun e w' => e = .returned (.bool (!(lookG u.slot m).isSome)) ∧ Below w.heap.size w w' := by
  have q0 := bl_alloc (Below.refl w.heap.size w) (.cells #[.int .i64 u.signer, .int .i64 u.leaf, .string u.text] 71)
  have a0 := alloc_new w (.cells #[.int .i64 u.signer, .int .i64 u.leaf, .string u.text] 71)
  have c1 := block_below q0 hc
  have m1 := smap_same hm (q0.block M (smap_lt hm))
  have hlk := lookup_v m1 Try.underlying111 (zero4 _) u.slot
  rw [look_map] at hlk
  obtain ⟨b, hb⟩ : ∃ b, (lookG u.slot m).isSome = b := ⟨_, rfl⟩
  have e : ((lookG u.slot m).map truV).getD (.bool false) = .bool b := by
    rw [← hb]
    cases lookG u.slot m <;> rfl
  rw [e] at hlk
  have hlk2 : (Instr.lookup 111 (.map (some M)) (.agg #[.int .i64 u.signer, .int .i64 u.leaf]) false).run Try.prog (w.alloc (.cells #[.int .i64 u.signer, .int .i64 u.leaf, .string u.text] 71)) = .ok (.bool b) (w.alloc (.cells #[.int .i64 u.signer, .int .i64 u.leaf, .string u.text] 71)) := hlk
  rw [hb]
  clear hb e hlk m1 hm hc
  go_enter Try.func68, Try.ntmps68
  go_upto_region 1 with fail
  generalize w.alloc (.cells #[.int .i64 u.signer, .int .i64 u.leaf, .string u.text] 71) = V at *
  have x0 := block_cell a0 (i := 0) rfl
  have x1 := block_cell a0 (i := 1) rfl
  have y0 := block_cell c1 (i := 0) rfl
  go_wp2_with fail
  go_ret
  exact ⟨rfl, q0⟩
theorem twice_del (l : List Use) (v : Value) (w : World) (C M base : Nat) (eg : ∀ args w, (callFunc 68 args).run Try.prog w = .ok (.enter 68 args) w) (hl : l.length ≤ 2097152) (hv : kUse.Own 71 base w base v l)
    (hc : w.heap[C]? = some (.cells #[.map (some M)] 111 (0, 0))) (hm : SMap w M (mapG truV (foldT l).odd)) :
    Calls Try.prog 66 #[v, .func (.func 68) #[] #[.pointer (some ⟨C, 0, none⟩)]] w fun e w' => (∃ v', e = .returned v' ∧ kUse.Own 71 base w' base v' (twF l)) ∧ w.grownBy w' v.ownBlock := by
  have h := delete_kUse l v w base base 68 #[.pointer (some ⟨C, 0, none⟩)] (fun x => !(lookG x.slot (foldT l).odd).isSome) eg hl hv (fun x W hg => by
    have hown := Kd.own_block hv
    have h1 : W.heap[C]? = some (.cells #[.map (some M)] 111 (0, 0)) := (hg.block C (blk_lt hc) (fun e => by
      obtain ⟨_, c', h'⟩ := hown C e.symm
      rw [hc] at h'
      cases h')).trans hc
    have h2 : SMap W M (mapG truV (foldT l).odd) := smap_same hm (hg.block M (smap_lt hm) (fun e => by
      obtain ⟨_, c', h'⟩ := hown M e.symm
      obtain ⟨es, cl, h3, _⟩ := hm
      rw [h3] at h'
      cases h'))
    exact twc_calls x C M _ W h1 h2)
  have e : (l.filter fun x => !(!(lookG x.slot (foldT l).odd).isSome)) = twF l := by
    unfold twF
    simp
  rw [e] at h
  exact h
theorem smap_below {w w' : World} {N b : Nat} {m : List (Slot × Value)} (h : SMap w b m) (hb : Below w.heap.size w w') : SMap w' b m := smap_same h (hb.block b (smap_lt h))
set_option maxHeartbeats 6400000 in
set_option maxRecDepth 100000 in
theorem twice_calls (l : List Use) (A : Option Addr) (n c : Nat) (w : World) (B : Nat) (hn : n = l.length) (hl : l.length ≤ 2097152) (hr : kUse.Row 71 B w A l) :
    Calls Try.prog 36 #[.slice A n c] w fun e w' => (∃ v base, e = .returned v ∧ kUse.Own 71 base w' base v (twF l)) ∧ Below w.heap.size w w' := by
  subst hn
  have hmm := @run_makeMap Try.prog
  have q0 := bl_alloc (bl_alloc (bl_alloc (Below.refl w.heap.size w) (.map #[] 0)) (.map #[] 0)) (.cells #[.map (some (w.heap.size + 1))] 111)
  have m1 : SMap (((w.alloc (.map #[] 0)).alloc (.map #[] 0)).alloc (.cells #[.map (some (w.heap.size + 1))] 111)) w.heap.size (mapG strV []) := smap_same (smap_made w) ((alloc_old (alloc_old (alloc_new w _) _) _).trans (alloc_new w _).symm)
  have m2 : SMap (((w.alloc (.map #[] 0)).alloc (.map #[] 0)).alloc (.cells #[.map (some (w.heap.size + 1))] 111)) (w.heap.size + 1) (mapG truV []) := by
    have h1 := smap_made (w.alloc (.map #[] 0))
    have h2 := alloc_new (w.alloc (.map #[] 0)) (.map #[] 0)
    rw [World.size_alloc] at h1 h2
    exact smap_same h1 ((alloc_old h2 _).trans h2.symm)
  have c4 : (((w.alloc (.map #[] 0)).alloc (.map #[] 0)).alloc (.cells #[.map (some (w.heap.size + 1))] 111)).heap[w.heap.size + 1 + 1]? = some (.cells #[.map (some (w.heap.size + 1))] 111 (0, 0)) := by
    have := alloc_new ((w.alloc (.map #[] 0)).alloc (.map #[] 0)) (.cells #[.map (some (w.heap.size + 1))] 111)
    rwa [World.size_alloc, World.size_alloc] at this
  go_enter Try.func36, Try.ntmps36
  go_upto_region 3 with fail
  change Code.wp _ _ _ _ (((w.alloc (.map #[] 0)).alloc (.map #[] 0)).alloc (.cells #[.map (some (w.heap.size + 1))] 111))
  clear hmm
  obtain ⟨M, hM⟩ : ∃ M, w.heap.size = M := ⟨_, rfl⟩
  have leM : w.heap.size ≤ M := by omega
  generalize ((w.alloc (.map #[] 0)).alloc (.map #[] 0)).alloc (.cells #[.map (some (w.heap.size + 1))] 111) = V at *
  simp only [hM] at m1 m2 c4 ⊢
  clear hM
  go_wp2_with fail
  go_loopw [14] (fun kv w' => ∃ k : Nat, k ≤ l.length ∧ kv = .int .i64 k ∧ Below w.heap.size w w' ∧ SMap w' M (mapG strV (foldT (l.take k)).first) ∧ SMap w' (M + 1) (mapG truV (foldT (l.take k)).odd) ∧ w'.heap[M + 1 + 1]? = some (.cells #[.map (some (M + 1))] 111 (0, 0))) (fun kv _ => l.length - (intOf kv).toNat)
  case atStart => exact ⟨0, by omega, rfl, q0, m1, m2, c4⟩
  case round =>
    clear m1 m2 c4 q0
    obtain ⟨k, h1, rfl, bel, m1, m2, c4⟩ := hrel
    rename World => wr
    by_cases h : k < l.length
    case neg =>
      obtain rfl : k = l.length := by omega
      have hkI : ¬ ((l.length : Int) < (l.length : Int)) := by omega
      rw [List.take_length] at m1 m2
      have hcl := clone_kUse l A l.length c wr B rfl hl (Kd.row_below bel hr)
      have HCL := Lib.hid hcl
      have HM2 := Lib.hid m2
      have HC4 := Lib.hid c4
      have eg : ∀ args w, (callFunc 68 args).run Try.prog w = .ok (.enter 68 args) w := enters_of Try.func68 (by kernel_rfl) rfl
      have HEG := Lib.hid eg
      clear hcl m1 m2 c4 eg
      go_wp2_with (first
        | (go_at_call 67; refine (HCL.out).mono ?_; rintro x w1 ⟨⟨v1, rfl, own1, _⟩, b1⟩; have HD := Lib.hid (twice_del l v1 w1 (M + 1 + 1) (M + 1) wr.heap.size HEG.out hl own1 (block_below b1 HC4.out) (smap_below (N := 0) HM2.out b1)); have HOW := Lib.hid own1; clear own1)
        | (go_at_call 66; refine (HD.out).mono ?_; rintro x w2 ⟨⟨v2, rfl, own2⟩, g2⟩))
      have b2 : Below wr.heap.size wr w2 := Kd.own_step b1 HOW.out g2
      go_ret
      exact ⟨⟨v2, wr.heap.size, rfl, own2⟩, bl_trans bel b2⟩
    case pos =>
      obtain ⟨u, hx⟩ : ∃ u, l[k]? = some u := ⟨_, List.getElem?_eq_getElem h⟩
      have hsucc := foldT_succ l k u hx
      obtain ⟨ad, rfl, e0, e1, e2, p0, p1, p2⟩ := kUse_at (Kd.row_below bel hr) hx
      have hkI : (k : Int) < (l.length : Int) := by omega
      have hk0 : (0 : Int) ≤ (k : Int) := by omega
      have bt := bl_alloc (bl_alloc (Below.refl wr.heap.size wr) (.cells #[.int .i64 u.signer, .int .i64 u.leaf, .string u.text] 71)) (.cells #[.int .i64 u.signer, .int .i64 u.leaf] 113)
      have t6 : ((wr.alloc (.cells #[.int .i64 u.signer, .int .i64 u.leaf, .string u.text] 71)).alloc (.cells #[.int .i64 u.signer, .int .i64 u.leaf] 113)).heap[wr.heap.size]? = some (.cells #[.int .i64 u.signer, .int .i64 u.leaf, .string u.text] 71 (0, 0)) := alloc_old (alloc_new wr _) _
      have t7 : ((wr.alloc (.cells #[.int .i64 u.signer, .int .i64 u.leaf, .string u.text] 71)).alloc (.cells #[.int .i64 u.signer, .int .i64 u.leaf] 113)).heap[wr.heap.size + 1]? = some (.cells #[.int .i64 u.signer, .int .i64 u.leaf] 113 (0, 0)) := by
        have := alloc_new (wr.alloc (.cells #[.int .i64 u.signer, .int .i64 u.leaf, .string u.text] 71)) (.cells #[.int .i64 u.signer, .int .i64 u.leaf] 113)
        rwa [World.size_alloc] at this
      have s1 := smap_below (N := 0) m1 bt
      have s2 := smap_below (N := 0) m2 bt
      have d4 := block_below bt c4
      have bel2 := bl_trans bel bt
      have hGM : M + 1 + 1 < wr.heap.size := blk_lt c4
      obtain ⟨S, hS⟩ : ∃ S, foldT (l.take k) = S := ⟨_, rfl⟩
      rw [hS] at s1 s2 hsucc
      clear hx m1 m2 c4 hS
      go_upto_region 7 with fail
      change Code.wp _ _ _ _ ((wr.alloc (.cells #[.int .i64 u.signer, .int .i64 u.leaf, .string u.text] 71)).alloc (.cells #[.int .i64 u.signer, .int .i64 u.leaf] 113))
      obtain ⟨G, hG⟩ : ∃ G, wr.heap.size = G := ⟨_, rfl⟩
      generalize (wr.alloc (.cells #[.int .i64 u.signer, .int .i64 u.leaf, .string u.text] 71)).alloc (.cells #[.int .i64 u.signer, .int .i64 u.leaf] 113) = W7 at *
      simp only [hG] at t6 t7 hGM ⊢
      clear hG bt e0 e1 e2
      have hlk := lookup_ok s1 Try.underlying110 (zero9 _) u.slot
      rw [look_map] at hlk
      cases hlo : lookG u.slot S.first with
      | none =>
        rw [hlo] at hlk
        have hlk2 : (Instr.lookup 110 (.map (some M)) (.agg #[.int .i64 u.signer, .int .i64 u.leaf]) true).run Try.prog W7 = .ok (.tuple #[.string ⟨#[]⟩, .bool false]) W7 := hlk
        have hst : stepT S u = ⟨putG u.slot u.text S.first, S.odd⟩ := by unfold stepT; rw [hlo]
        rw [hst] at hsucc
        obtain ⟨W8, hup, s3, bW, oW⟩ := update_at s1 Try.underlying110 u.slot (strV u.text)
        rw [put_map] at s3
        have hup2 : (Instr.mapUpdate 110 (.map (some M)) (.agg #[.int .i64 u.signer, .int .i64 u.leaf]) (.string u.text)).run Try.prog W7 = .ok () W8 := hup
        have s4 := smap_same s2 (oW (M + 1) (by omega))
        have d8 := (oW (M + 1 + 1) (by omega)).trans d4
        have bel3 := bel2.trans (bW _ leM)
        have t68 := (oW G (by omega)).trans t6
        have x0 := block_cell t6 (i := 0) rfl
        have x1 := block_cell t6 (i := 1) rfl
        have x2 := block_cell t6 (i := 2) rfl
        have y0 := block_cell t7 (i := 0) rfl
        have y1 := block_cell t7 (i := 1) rfl
        have HS := Lib.hid hsucc
        clear hsucc hlo hlk hst hup bW oW s1 s2 d4 t6 t7 t68
        go_wp2_with fail
        go_roundw
        case rel => exact ⟨k + 1, by omega, by go_num, bel3, by rw [HS.out]; exact s3, by rw [HS.out]; exact s4, d8⟩
        case measure => simp [intOf]; omega
      | some t =>
        rw [hlo] at hlk
        have hlk2 : (Instr.lookup 110 (.map (some M)) (.agg #[.int .i64 u.signer, .int .i64 u.leaf]) true).run Try.prog W7 = .ok (.tuple #[.string t, .bool true]) W7 := hlk
        have x0 := block_cell t6 (i := 0) rfl
        have x1 := block_cell t6 (i := 1) rfl
        have x2 := block_cell t6 (i := 2) rfl
        have y0 := block_cell t7 (i := 0) rfl
        have y1 := block_cell t7 (i := 1) rfl
        have z0 := block_cell d4 (i := 0) rfl
        cases hte : (t.toList == u.text.toList) with
        | true =>
          have hst : stepT S u = ⟨S.first, S.odd⟩ := by unfold stepT; rw [hlo]; dsimp only; rw [if_pos hte]
          rw [hst] at hsucc
          have HS := Lib.hid hsucc
          clear hsucc hlo hlk hst t6 t7
          go_wp2_with fail
          go_roundw
          case rel => exact ⟨k + 1, by omega, by go_num, bel2, by rw [HS.out]; exact s1, by rw [HS.out]; exact s2, d4⟩
          case measure => simp [intOf]; omega
        | false =>
          have hst : stepT S u = ⟨S.first, putG u.slot () S.odd⟩ := by unfold stepT; rw [hlo]; dsimp only; rw [if_neg (by rw [hte]; simp)]
          rw [hst] at hsucc
          obtain ⟨W8, hup, s3, bW, oW⟩ := update_at s2 Try.underlying111 u.slot (truV ())
          rw [put_map] at s3
          have hup2 : (Instr.mapUpdate 111 (.map (some (M + 1))) (.agg #[.int .i64 u.signer, .int .i64 u.leaf]) (.bool true)).run Try.prog W7 = .ok () W8 := hup
          have s4 := smap_same s1 (oW M (by omega))
          have d8 := (oW (M + 1 + 1) (by omega)).trans d4
          have bel3 := bel2.trans (bW _ (by omega))
          have HS := Lib.hid hsucc
          clear hsucc hlo hlk hst hup bW oW s1 s2 d4 t6 t7
          go_wp2_with fail
          go_roundw
          case rel => exact ⟨k + 1, by omega, by go_num, bel3, by rw [HS.out]; exact s4, by rw [HS.out]; exact s3, d8⟩
          case measure => simp [intOf]; omega
end Go.Proofs.Ytglneailkgminaa
