/- Package block: Valid. No claim of its own; no condition. -/
import Derived.Test.YtcbfpdenjdgnlaaGreatQt36
import Derived.Test.YtcbfpdenjdgnlaaGreatQt37
import Derived.Test.YtcbfpdenjdgnlaaGreatQt17
import Derived.MapKept
import Derived.WideKeyRuns
import Derived.Test.YtcbfpdenjdgnlaaGreatQt04
import Derived.Test.YtcbfpdenjdgnlaaGreatQt07
import Derived.Test.YtcbfpdenjdgnlaaGreatQt21
import Derived.Lib.Hide
import Derived.WalkSpells
namespace Go.Proofs.YtcbfpdenjdgnlaaGreat
open Go.ChangeShapes Go.WideShapes Go.ChangeAt Go.RowKit
set_option linter.unusedVariables false
set_option linter.unusedSimpArgs false
theorem certck_calls (m : Mark) (l : List Vote) (roots : List ByteArray) (q : Int) (A Ar : Option Addr) (n nr c cr B : Nat) (w : World) (hn : n = l.length) (hnr : nr = roots.length) (hl : l.length ≤ 1048576) (hlr : roots.length ≤ 1048576)
    (hr : kVote.Row 52 B w A l) (hrr : Kd.str.Row 9 B w Ar roots) :
    Calls Tryz.prog 128 #[.agg #[.int .i64 m.view, .int .i64 m.height, .string m.block, .slice A n c], .slice Ar nr cr, .int .i64 q] w fun e w' => e = .returned (.int .i64 (chkC m l roots q)) ∧ Below w.heap.size w w' := by
  by_cases h0 : l.length = 0
  · have hc : chkC m l roots q = if m = firstM then 0 else 41 := by unfold chkC; rw [if_pos h0]
    have hn0 : n = 0 := by omega
    subst hn0
    rw [hc]
    exact check_nil m A Ar c nr cr q w
  · exact check_cons m l roots q A Ar n nr c cr B w hn hnr hl h0 hlr hr hrr
set_option maxHeartbeats 1600000 in
set_option maxRecDepth 100000 in
theorem tval1_calls (t : Tx) (clients : List ByteArray) (Gc : Nat) (Ac : Option Addr) (cc B : Nat) (w : World) (hc : w.cell? ⟨Gc, 1, none⟩ = some (.slice Ac clients.length cc)) (hr : Kd.str.Row 9 B w Ac clients) (hl : clients.length ≤ 1048576) :
    Calls Tryz.prog 130 (#[.agg (tcs t)] ++ #[.pointer (some ⟨Gc, 0, none⟩)]) w fun e w' => e = .returned (.bool (!validT t clients)) ∧ Below w.heap.size w w' := by
  have hv := fun W (hW : Kd.str.Row 9 B W Ac clients) => tvalid_calls t clients Ac clients.length cc B W rfl hW hl
  have q0 := bl_alloc (Below.refl w.heap.size w) (.cells (tcs t) 77)
  have a0 : (w.alloc (.cells (tcs t) 77)).heap[w.heap.size]? = some (.cells (tcs t) 77 (0, 0)) := alloc_new w _
  have row0 := Kd.row_below q0 hr
  have c0 := cell_below q0 hc
  obtain ⟨v, hvv⟩ : ∃ x, validT t clients = x := ⟨_, rfl⟩
  obtain ⟨L, hL⟩ : ∃ x, clients.length = x := ⟨_, rfl⟩
  rw [hvv, hL] at hv
  rw [hvv]
  rw [hL] at c0
  have HV := Lib.hid hv
  have HR := Lib.hid row0
  clear hv hc hr hl hvv hL row0
  unfold tcs at *
  show Calls Tryz.prog 130 #[_, _] w _
  go_enter Tryz.func130, Tryz.ntmps130
  go_upto_region 1 with fail
  generalize w.alloc (.cells _ 77) = W at *
  obtain ⟨r0, r1, r2, r3, r4⟩ := tcells a0
  go_wp2_with (go_at_call 131; refine (HV.out _ HR.out).mono ?_; rintro x w1 ⟨rfl, b1⟩)
  go_ret
  exact ⟨rfl, bl_trans q0 b1⟩
/-- Whether a block is right. -/
def markJ (b : Block) : Mark := ⟨b.justify.view, b.justify.height, b.justify.block⟩
def validB (b : Block) (roots clients : List ByteArray) (q : Int) : Bool := blockOk b && (signedB b roots && (decide (chkC (markJ b) b.justify.votes roots q = 0) && b.txs.all (fun t => validT t clients)))
theorem anynot (l : List Tx) (p : Tx → Bool) : (!l.any fun t => !p t) = l.all p := by
  induction l with
  | nil => rfl
  | cons a l ih => simp [List.any_cons, List.all_cons, ← ih]
set_option maxHeartbeats 3200000 in
set_option maxRecDepth 100000 in
theorem bvalid_calls (b : Block) (A1 A Ar Ac : Option Addr) (n1 c1 n c nr cr nc cc B : Nat) (roots clients : List ByteArray) (q base cap : Int) (w : World) (hn1 : n1 = b.justify.votes.length) (hn : n = b.txs.length) (hnr : nr = roots.length) (hnc : nc = clients.length)
    (hl1 : b.justify.votes.length ≤ 1048576) (hl : b.txs.length ≤ 1048576) (hlr : roots.length ≤ 1048576) (hlc : clients.length ≤ 1048576)
    (hr1 : kVote.Row 52 B w A1 b.justify.votes) (hr : kTx.Row 77 B w A b.txs) (hrr : Kd.str.Row 9 B w Ar roots) (hrc : Kd.str.Row 9 B w Ac clients) :
    Calls Tryz.prog 62 #[.agg (bcs b (.slice A1 n1 c1) (.slice A n c)), .agg #[.slice Ar nr cr, .slice Ac nc cc, .int .i64 q, .int .i64 base, .int .i64 cap]] w fun x w' => x = .returned (.bool (validB b roots clients q)) ∧ Below w.heap.size w w' := by
  have hck := fun W (hW : kTx.Row 77 B W A b.txs) => bcheck_calls b A1 A n1 c1 n c B W hn (by omega) hW
  have qa := bl_alloc (Below.refl w.heap.size w) (.cells (bcs b (.slice A1 n1 c1) (.slice A n c)) 40)
  have q0 := bl_alloc qa (.cells #[.slice Ar nr cr, .slice Ac nc cc, .int .i64 q, .int .i64 base, .int .i64 cap] 24)
  have a0 := alloc_old (alloc_new w (.cells (bcs b (.slice A1 n1 c1) (.slice A n c)) 40)) (.cells #[.slice Ar nr cr, .slice Ac nc cc, .int .i64 q, .int .i64 base, .int .i64 cap] 24)
  have d0 := alloc_new (w.alloc (.cells (bcs b (.slice A1 n1 c1) (.slice A n c)) 40)) (.cells #[.slice Ar nr cr, .slice Ac nc cc, .int .i64 q, .int .i64 base, .int .i64 cap] 24)
  rw [World.size_alloc] at d0
  have row0 := Lib.hid (Kd.row_below q0 hr)
  have rowv := Lib.hid (Kd.row_below q0 hr1)
  have rowr := Lib.hid (Kd.row_below q0 hrr)
  have rowc := Lib.hid (Kd.row_below q0 hrc)
  clear qa hr hr1 hrr hrc
  cases hok : blockOk b with
  | false =>
    have h0 : chkB b = 9 := by unfold chkB; rw [if_neg (by rw [hok]; simp)]
    have hb : validB b roots clients q = false := by unfold validB; rw [hok]; rfl
    rw [h0] at hck
    rw [hb]
    have HCK := Lib.hid hck
    clear hck h0 hb hok hl hl1 hlr hlc hn hn1 hnr hnc
    go_enter Tryz.func62, Tryz.ntmps62
    go_upto_region 1 with fail
    generalize (w.alloc (.cells _ 40)).alloc (.cells _ 24) = W at *
    obtain ⟨r0, r1, r2, r3, r4, r5, r6, r7, r8⟩ := bcells a0
    go_wp2_with (go_at_call 124; refine (HCK.out _ row0.out).mono ?_; rintro x w1 ⟨rfl, b1⟩)
    go_ret
    exact ⟨rfl, bl_trans q0 b1⟩
  | true =>
    have h0 : chkB b = 0 := by unfold chkB; rw [if_pos hok]
    rw [h0] at hck
    have HCK := Lib.hid hck
    have hsg := fun W (hW : kTx.Row 77 B W A b.txs) (hR : Kd.str.Row 9 B W Ar roots) => bsigned_calls b A1 A Ar n1 c1 n c nr cr B B roots W hn hW hok hnr hR hlr
    cases hs : signedB b roots with
    | false =>
      have hb : validB b roots clients q = false := by unfold validB; rw [hok, hs]; rfl
      rw [hs] at hsg
      rw [hb]
      have HSG := Lib.hid hsg
      clear hsg hck h0 hb hok hs hl hl1 hlr hlc hn hn1 hnr hnc
      go_enter Tryz.func62, Tryz.ntmps62
      go_upto_region 1 with fail
      generalize (w.alloc (.cells _ 40)).alloc (.cells _ 24) = W at *
      obtain ⟨r0, r1, r2, r3, r4, r5, r6, r7, r8⟩ := bcells a0
      have e0 := block_cell d0 (i := 0) rfl
      go_wp2_with (first
        | (go_at_call 124; refine (HCK.out _ row0.out).mono ?_; rintro x w1 ⟨rfl, b1⟩; have e0' := cell_below b1 e0; obtain ⟨p0, p1, p2, p3, p4, p5, p6, p7, p8⟩ := bcells (block_below b1 a0))
        | (go_at_call 127; refine (HSG.out _ (Kd.row_below b1 row0.out) (Kd.row_below b1 rowr.out)).mono ?_; rintro x w2 ⟨rfl, b2⟩))
      go_ret
      exact ⟨rfl, bl_trans q0 (bl_trans b1 b2)⟩
    | true =>
      rw [hs] at hsg
      have HSG := Lib.hid hsg
      have hcc := fun W (hW : kVote.Row 52 B W A1 b.justify.votes) (hR : Kd.str.Row 9 B W Ar roots) => certck_calls (markJ b) b.justify.votes roots q A1 Ar n1 nr c1 cr B W hn1 hnr hl1 hlr hW hR
      by_cases hz : chkC (markJ b) b.justify.votes roots q = 0
      · have hb : validB b roots clients q = !(b.txs.any fun t => !validT t clients) := by unfold validB; rw [hok, hs, decide_eq_true hz, anynot]; rfl
        rw [hz] at hcc
        rw [hb]
        have hct := fun W Gc (hW : kTx.Row 77 B W A b.txs) (hC : Kd.str.Row 9 B W Ac clients) (hG : W.cell? ⟨Gc, 1, none⟩ = some (.slice Ac clients.length cc)) => contains_kTx b.txs A n c W B 130 #[.pointer (some ⟨Gc, 0, none⟩)] (fun x => !validT x clients) (enters_of Tryz.func130 (by kernel_rfl) rfl) hn (by omega) hW (fun x W' hB => tval1_calls x clients Gc Ac cc B W' (cell_below hB hG) (Kd.row_below hB hC) hlc)
        obtain ⟨res, hres⟩ : ∃ x, (b.txs.any fun t => !validT t clients) = x := ⟨_, rfl⟩
        rw [hres]
        rw [hres, ← hnc] at hct
        have HCC := Lib.hid hcc
        have HCT := Lib.hid hct
        unfold markJ at HCC
        clear hres hct hcc hsg hck h0 hb hok hs hz hl hl1 hlr hlc hn hn1 hnr hnc
        dsimp only at HCC
        obtain ⟨G, hG⟩ : ∃ G, w.heap.size = G := ⟨_, rfl⟩
        rw [hG] at a0 d0
        go_enter Tryz.func62, Tryz.ntmps62
        go_upto_region 1 with fail
        generalize (w.alloc (.cells _ 40)).alloc (.cells _ 24) = W at *
        obtain ⟨r0, r1, r2, r3, r4, r5, r6, r7, r8⟩ := bcells a0
        have e0 := block_cell d0 (i := 0) rfl
        go_upto_region 3 with (first
          | (go_at_call 124; refine (HCK.out _ row0.out).mono ?_; rintro x w1 ⟨rfl, b1⟩; have e0' := cell_below b1 e0; obtain ⟨p0, p1, p2, p3, p4, p5, p6, p7, p8⟩ := bcells (block_below b1 a0))
          | (go_at_call 127; refine (HSG.out _ (Kd.row_below b1 row0.out) (Kd.row_below b1 rowr.out)).mono ?_; rintro x w2 ⟨rfl, b2⟩; have a2 := block_below b2 (block_below b1 a0); have d2 := block_below b2 (block_below b1 d0); obtain ⟨s0, s1, s2, s3, s4, s5, s6, s7, s8⟩ := bcells a2; have f0 := block_cell d2 (i := 0) rfl; have f2 := block_cell d2 (i := 2) rfl)
          | (go_at_call 128; refine (HCC.out _ (Kd.row_below b2 (Kd.row_below b1 rowv.out)) (Kd.row_below b2 (Kd.row_below b1 rowr.out))).mono ?_; rintro x w3 ⟨rfl, b3⟩))
        have a3 := block_below b3 a2
        have d3 := block_below b3 d2
        obtain ⟨t0, t1, t2, t3, t4, t5, t6, t7, t8⟩ := bcells a3
        have g1 := block_cell d3 (i := 1) (v := .slice Ac nc cc) rfl
        have b13 := bl_trans (bl_trans b1 b2) b3
        go_wp2_with (go_at_call 129; refine (HCT.out _ _ (Kd.row_below b13 row0.out) (Kd.row_below b13 rowc.out) g1).mono ?_; rintro x w4 ⟨rfl, b4⟩)
        go_ret
        exact ⟨rfl, bl_trans q0 (bl_trans b13 b4)⟩
      · have hb : validB b roots clients q = false := by unfold validB; rw [hok, hs, decide_eq_false hz]; rfl
        rw [hb]
        obtain ⟨z, hzz⟩ : ∃ z, chkC (markJ b) b.justify.votes roots q = z := ⟨_, rfl⟩
        rw [hzz] at hcc hz
        have hzb : (z != 0) = true := by rw [bne_iff_ne]; exact hz
        have HCC := Lib.hid hcc
        unfold markJ at HCC
        clear hzz hcc hsg hck h0 hb hok hs hz hl hl1 hlr hlc hn hn1 hnr hnc
        dsimp only at HCC
        obtain ⟨G, hG⟩ : ∃ G, w.heap.size = G := ⟨_, rfl⟩
        rw [hG] at a0 d0
        go_enter Tryz.func62, Tryz.ntmps62
        go_upto_region 1 with fail
        generalize (w.alloc (.cells _ 40)).alloc (.cells _ 24) = W at *
        obtain ⟨r0, r1, r2, r3, r4, r5, r6, r7, r8⟩ := bcells a0
        have e0 := block_cell d0 (i := 0) rfl
        go_wp2_with (first
          | (go_at_call 124; refine (HCK.out _ row0.out).mono ?_; rintro x w1 ⟨rfl, b1⟩; have e0' := cell_below b1 e0; obtain ⟨p0, p1, p2, p3, p4, p5, p6, p7, p8⟩ := bcells (block_below b1 a0))
          | (go_at_call 127; refine (HSG.out _ (Kd.row_below b1 row0.out) (Kd.row_below b1 rowr.out)).mono ?_; rintro x w2 ⟨rfl, b2⟩; have a2 := block_below b2 (block_below b1 a0); have d2 := block_below b2 (block_below b1 d0); obtain ⟨s0, s1, s2, s3, s4, s5, s6, s7, s8⟩ := bcells a2; have f0 := block_cell d2 (i := 0) rfl; have f2 := block_cell d2 (i := 2) rfl)
          | (go_at_call 128; refine (HCC.out _ (Kd.row_below b2 (Kd.row_below b1 rowv.out)) (Kd.row_below b2 (Kd.row_below b1 rowr.out))).mono ?_; rintro x w3 ⟨rfl, b3⟩))
        go_ret
        exact ⟨rfl, bl_trans q0 (bl_trans (bl_trans b1 b2) b3)⟩
end Go.Proofs.YtcbfpdenjdgnlaaGreat
/- Maps whose keys are of any kind with a law of its equality: look-up and store. No claim of its own; no condition. Turned out of LeaM. -/
namespace Go.Proofs.YtcbfpdenjdgnlaaGreat
open Go.ChangeShapes Go.WideShapes Go.ChangeAt Go.RowKit
set_option linter.unusedVariables false
set_option linter.unusedSimpArgs false
variable {κ : Type} [DecidableEq κ]
def kvs (es : List MapEntry) : List (Value × Value) := es.map fun e => (e.key, e.val)
def idxS (s : κ) : List (κ × Value) → Nat → Option (Nat × Value)
  | [], _ => none
  | p :: m, i => if s = p.1 then some (i, p.2) else idxS s m (i + 1)
structure KeyD (κ : Type) [DecidableEq κ] (kt : TypeId) where
  val : κ → Value
  find : ∀ (s : κ) (m : List (κ × Value)) (es : List MapEntry) (w : World), kvs es = m.map (fun p => (val p.1, p.2)) → (Instr.findKey kt (val s) es).run Tryz.prog w = .ok (idxS s m 0) w
  chk : ∀ (em : Bool) (s : κ) (w : World), (Instr.checkKey em 10000 kt (val s)).run Tryz.prog w = .ok () w
  same : ∀ s : κ, Instr.sameBits 10000 (val s) (val s) = true
variable {kt : TypeId} (D : KeyD κ kt)
/-- The entries' stamps: unlike, and older than the clock. -/
def BornOk (es : Array MapEntry) (c : Nat) : Prop := (∀ x ∈ es.toList, x.born < c) ∧ (es.toList.map (·.born)).Nodup
theorem born_nil : BornOk #[] 0 := ⟨fun x h => by simp at h, by simp⟩
theorem born_push {es : Array MapEntry} {c : Nat} (h : BornOk es c) (k v : Value) : BornOk (es.push { key := k, val := v, born := c }) (c + 1) := by
  obtain ⟨h1, h2⟩ := h
  refine ⟨fun x hx => ?_, ?_⟩
  · rw [Array.toList_push] at hx
    rcases List.mem_append.1 hx with hx | hx
    · have := h1 x hx; omega
    · rw [List.mem_singleton] at hx; subst hx; show c < c + 1; omega
  · rw [Array.toList_push, List.map_append, List.nodup_append]
    refine ⟨h2, by simp, fun a ha b hb => ?_⟩
    obtain ⟨x, hx, rfl⟩ := List.mem_map.1 ha
    have := h1 x hx
    simp at hb
    omega
theorem born_map (k v : Value) : ∀ (l : List MapEntry) (i : Nat), (l.modify i fun e => { e with key := k, val := v }).map (·.born) = l.map (·.born)
  | [], i => by simp
  | e :: l, 0 => by simp [List.modify]
  | e :: l, i + 1 => by simp only [List.modify_succ_cons, List.map_cons]; rw [born_map k v l i]
theorem born_modify {es : Array MapEntry} {c : Nat} (h : BornOk es c) (i : Nat) (k v : Value) : BornOk (es.modify i fun e => { e with key := k, val := v }) c := by
  obtain ⟨h1, h2⟩ := h
  have e : (es.modify i fun e => { e with key := k, val := v }).toList.map (·.born) = es.toList.map (·.born) := by rw [Array.toList_modify, born_map]
  refine ⟨fun x hx => ?_, by rw [e]; exact h2⟩
  have : x.born ∈ es.toList.map (·.born) := by rw [← e]; exact List.mem_map.2 ⟨x, hx, rfl⟩
  obtain ⟨y, hy, hb⟩ := List.mem_map.1 this
  rw [← hb]
  exact h1 y hy
def SMap (w : World) (b : Nat) (m : List (κ × Value)) : Prop := ∃ es clock, w.heap[b]? = some (.map es clock) ∧ (kvs es.toList = m.map fun p => (D.val p.1, p.2)) ∧ BornOk es clock
def lookS (s : κ) (m : List (κ × Value)) : Option Value := (idxS s m 0).map (·.2)
theorem smap_made (w : World) : SMap D (w.alloc (.map #[] 0)) w.heap.size [] := ⟨#[], 0, alloc_new w _, rfl, born_nil⟩
theorem smap_same {w w' : World} {b : Nat} {m : List (κ × Value)} (h : SMap D w b m) (hb : w'.heap[b]? = w.heap[b]?) : SMap D w' b m := by
  obtain ⟨es, c, h1, h2⟩ := h
  exact ⟨es, c, hb.trans h1, h2⟩
theorem smap_lt {w : World} {b : Nat} {m : List (κ × Value)} (h : SMap D w b m) : b < w.heap.size := by
  obtain ⟨es, c, h1, h2, h2b⟩ := h
  exact blk_lt h1
theorem lookup_ok {w : World} {b t e : Nat} {m : List (κ × Value)} (h : SMap D w b m) (ht : Tryz.prog.underlying t = some (.map kt e)) {z : Value} (hz : (zeroValue e).run Tryz.prog w = .ok z w) (s : κ) :
    (Instr.lookup t (.map (some b)) (D.val s) true).run Tryz.prog w = .ok (.tuple #[(lookS s m).getD z, .bool (lookS s m).isSome]) w := by
  obtain ⟨es, c, h1, h2, h2b⟩ := h
  have h3 := D.find s m es.toList w h2
  unfold Instr.lookup lookS
  cases hx : idxS s m 0 with
  | none => rw [hx] at h3; simp [run_underlying ht, MapKept.run_getObj_map h1, D.chk, h3, hz, Result.andThen]
  | some p => rw [hx] at h3; simp [run_underlying ht, MapKept.run_getObj_map h1, D.chk, h3, Result.andThen]
theorem lookup_v {w : World} {b t e : Nat} {m : List (κ × Value)} (h : SMap D w b m) (ht : Tryz.prog.underlying t = some (.map kt e)) {z : Value} (hz : (zeroValue e).run Tryz.prog w = .ok z w) (s : κ) :
    (Instr.lookup t (.map (some b)) (D.val s) false).run Tryz.prog w = .ok ((lookS s m).getD z) w := by
  obtain ⟨es, c, h1, h2, h2b⟩ := h
  have h3 := D.find s m es.toList w h2
  unfold Instr.lookup lookS
  cases hx : idxS s m 0 with
  | none => rw [hx] at h3; simp [run_underlying ht, MapKept.run_getObj_map h1, D.chk, h3, hz, Result.andThen]
  | some p => rw [hx] at h3; simp [run_underlying ht, MapKept.run_getObj_map h1, D.chk, h3, Result.andThen]
def putS (s : κ) (v : Value) : List (κ × Value) → List (κ × Value)
  | [] => [(s, v)]
  | p :: m => if s = p.1 then (s, v) :: m else p :: putS s v m
theorem put_none (s : κ) (v : Value) : ∀ (m : List (κ × Value)) (j : Nat), idxS s m j = none → putS s v m = m ++ [(s, v)]
  | [], _, _ => rfl
  | p :: m, j, h => by
    unfold idxS at h
    split at h
    · cases h
    · rename_i hp
      unfold putS
      rw [if_neg hp, put_none s v m (j + 1) h]
      rfl
theorem put_some (s : κ) (v : Value) : ∀ (m : List (κ × Value)) (es : List MapEntry) (j i : Nat) (old : Value), kvs es = m.map (fun p => (D.val p.1, p.2)) → idxS s m j = some (i, old) →
    j ≤ i ∧ (es[i - j]?).map (·.key) = some (D.val s) ∧ kvs (es.modify (i - j) fun e => { e with key := D.val s, val := v }) = (putS s v m).map fun p => (D.val p.1, p.2)
  | [], es, j, i, old, _, h => by cases h
  | p :: m, es, j, i, old, h, hx => by
    cases es with
    | nil => simp [kvs] at h
    | cons e es =>
      simp only [kvs, List.map_cons, List.cons.injEq, Prod.mk.injEq] at h
      obtain ⟨⟨h1, h2⟩, h3⟩ := h
      unfold idxS at hx
      split at hx
      · rename_i hp
        cases hx
        refine ⟨Nat.le_refl _, by rw [Nat.sub_self]; simp [h1, hp], ?_⟩
        rw [Nat.sub_self]
        unfold putS
        rw [if_pos hp]
        simp [kvs, List.modify] at h3 ⊢
        exact h3
      · rename_i hp
        obtain ⟨k1, k2, k3⟩ := put_some s v m es (j + 1) i old h3 hx
        have e1 : i - j = (i - (j + 1)) + 1 := by omega
        refine ⟨by omega, by rw [e1]; simpa using k2, ?_⟩
        unfold putS
        rw [if_neg hp, e1]
        simp only [kvs, List.modify_succ_cons, List.map_cons] at k3 ⊢
        rw [k3, h1, h2]
theorem update_ok {w : World} {b t e : Nat} {m : List (κ × Value)} (h : SMap D w b m) (ht : Tryz.prog.underlying t = some (.map kt e)) (s : κ) (v : Value) :
    ∃ o, (Instr.mapUpdate t (.map (some b)) (D.val s) v).run Tryz.prog w = .ok () { w with heap := w.heap.setIfInBounds b o } ∧ SMap D { w with heap := w.heap.setIfInBounds b o } b (putS s v m) := by
  obtain ⟨es, c, h1, h2, h2b⟩ := h
  have h3 := D.find s m es.toList w h2
  have hset : ∀ o, (w.heap.setIfInBounds b o)[b]? = some o := fun o => (MapKept.heap_set h1).1
  cases hx : idxS s m 0 with
  | none =>
    rw [hx] at h3
    refine ⟨.map (es.push { key := D.val s, val := v, born := c }) (c + 1), ?_, _, _, hset _, ?_, ?_⟩
    · unfold Instr.mapUpdate
      simp [run_underlying ht, MapKept.run_getObj_map h1, D.chk, h3, MapKept.run_setObj_map _ h1, Result.andThen]
    · rw [put_none s v m 0 hx]
      simp only [kvs, Array.toList_push, List.map_append, List.map_cons, List.map_nil] at h2 ⊢
      rw [h2]
    · exact born_push h2b _ _
  | some p =>
    obtain ⟨i, old⟩ := p
    rw [hx] at h3
    obtain ⟨_, k2, k3⟩ := put_some D s v m es.toList 0 i old h2 hx
    rw [Nat.sub_zero] at k2 k3
    have k2' : ((es[i]?).map (·.key)).getD (D.val s) = D.val s := by
      rw [show es[i]? = es.toList[i]? by simp, k2]
      rfl
    refine ⟨.map (es.modify i fun e => { e with key := D.val s, val := v }) c, ?_, _, _, hset _, ?_, ?_⟩
    · unfold Instr.mapUpdate
      have hk : (Instr.keyThatStays (D.val s) (D.val s)).run Tryz.prog w = .ok (D.val s) w := by
        unfold Instr.keyThatStays
        rw [show Instr.sameBits 10000 (D.val s) (D.val s) = true from D.same s]
        rfl
      simp [run_underlying ht, MapKept.run_getObj_map h1, D.chk, h3, k2', hk, MapKept.run_setObj_map _ h1, Result.andThen]
    · rw [Array.toList_modify]
      exact k3
    · exact born_modify h2b _ _ _
theorem setB_below {w : World} {b N : Nat} (o : Obj) (hN : N ≤ b) : Below N w { w with heap := w.heap.setIfInBounds b o } :=
  ⟨rfl, rfl, rfl, by simp, fun k hk => by
    show (w.heap.setIfInBounds b o)[k]? = _
    rw [Array.getElem?_setIfInBounds_ne (by omega)]⟩
theorem setB_other {w : World} {b k : Nat} (o : Obj) (hk : k ≠ b) : ({ w with heap := w.heap.setIfInBounds b o } : World).heap[k]? = w.heap[k]? := by
  show (w.heap.setIfInBounds b o)[k]? = _
  rw [Array.getElem?_setIfInBounds_ne (fun e => hk e.symm)]
theorem ba_beq (s p : ByteArray) : (s == p) = decide (s = p) := by
  obtain ⟨a⟩ := s
  obtain ⟨b⟩ := p
  by_cases h : a = b
  · subst h
    rw [decide_eq_true rfl]
    show (a == a) = true
    simp
  · rw [decide_eq_false (fun e => h (ByteArray.mk.inj e))]
    show (a == b) = false
    simpa using h
/-- Keys that are texts. -/
theorem findNow_str (s : ByteArray) : ∀ (m : List (ByteArray × Value)) (es : List MapEntry) (i : Nat), kvs es = m.map (fun p => (Value.string p.1, p.2)) → Instr.findNow .string (.string s) es i = some (idxS s m i)
  | [], es, i, h => by
    have : es = [] := by simpa [kvs] using h
    subst this
    rfl
  | p :: m, es, i, h => by
    cases es with
    | nil => simp [kvs] at h
    | cons e es =>
      simp only [kvs, List.map_cons, List.cons.injEq, Prod.mk.injEq] at h
      obtain ⟨⟨h1, h2⟩, h3⟩ := h
      unfold Instr.findNow
      rw [h1]
      simp only [Instr.sameNow]
      by_cases hp : s = p.1
      · have : (s == p.1) = true := by rw [ba_beq]; exact decide_eq_true hp
        rw [this]
        simp [idxS, hp, h2]
      · have : (s == p.1) = false := by rw [ba_beq]; exact decide_eq_false hp
        rw [this]
        simp only [idxS, hp, if_false]
        exact findNow_str s m es (i + 1) h3
theorem chkStr (em : Bool) (s : ByteArray) (n : Nat) (w : World) : (Instr.checkKey em (n + 1) 9 (.string s)).run Tryz.prog w = .ok () w := by
  simp [Instr.checkKey, run_underlying Tryz.underlying9]
theorem sameStr (s : ByteArray) (n : Nat) : Instr.sameBits n (.string s) (.string s) = true := by
  cases n <;> simp [Instr.sameBits, ba_beq]
theorem sameInt (k : IntKind) (s : Int) (n : Nat) : Instr.sameBits n (.int k s) (.int k s) = true := by
  cases n <;> simp [Instr.sameBits]
theorem sameVote (s : Vote) (n : Nat) : Instr.sameBits (n + 1) (.agg (vcs s)) (.agg (vcs s)) = true := by
  unfold vcs
  simp [Instr.sameBits, sameStr, sameInt]
def keyStr : KeyD ByteArray 9 where
  val := fun s => .string s
  find := fun s m es w h => by
    unfold Instr.findKey
    simp [run_underlying Tryz.underlying9, findNow_str s m es 0 h]
  chk := fun em s w => chkStr em s 9999 w
  same := fun s => sameStr s 10000
/-- Keys that are votes. -/
theorem eqVoteK (x y : Vote) (w : World) : (Op.equal 52 (.agg (vcs x)) (.agg (vcs y))).run Tryz.prog w = .ok (decide (x = y)) w := by
  have e : ((x.kind == y.kind) && ((x.view == y.view) && ((x.height == y.height) && ((x.block.toList == y.block.toList) && ((x.ticks == y.ticks) && ((x.signer == y.signer) && ((x.sig.toList == y.sig.toList) && true))))))) = decide (x = y) := by
    cases x; cases y
    simp only [bytes_beq, Vote.mk.injEq, Bool.and_true, Bool.decide_and]
    try simp only [← Int.beq_eq_decide_eq, ← Bool.beq_eq_decide_eq]
    try rfl
  rw [← e]
  unfold vcs
  exact eq_of (d := 9999) Tryz.underlying52 (by kernel_rfl) (eqf_cons (by rfl) (by go_simp; rfl) (by go_simp; rfl) (by go_simp) (eqf_cons (by rfl) (by go_simp; rfl) (by go_simp; rfl) (by go_simp) (eqf_cons (by rfl) (by go_simp; rfl) (by go_simp; rfl) (by go_simp) (eqf_cons (by rfl) (by go_simp; rfl) (by go_simp; rfl) (by go_simp) (eqf_cons (by rfl) (by go_simp; rfl) (by go_simp; rfl) (by go_simp) (eqf_cons (by rfl) (by go_simp; rfl) (by go_simp; rfl) (by go_simp) (eqf_cons (by rfl) (by go_simp; rfl) (by go_simp; rfl) (by go_simp) eqf_nil)))))))
theorem findV (s : Vote) (w : World) : ∀ (m : List (Vote × Value)) (es : List MapEntry) (i : Nat), kvs es = m.map (fun p => (Value.agg (vcs p.1), p.2)) → (Instr.findAsking 52 (.agg (vcs s)) es i).run Tryz.prog w = .ok (idxS s m i) w
  | [], es, i, h => by
    have : es = [] := by simpa [kvs] using h
    subst this
    rfl
  | p :: m, es, i, h => by
    cases es with
    | nil => simp [kvs] at h
    | cons e es =>
      simp only [kvs, List.map_cons, List.cons.injEq, Prod.mk.injEq] at h
      obtain ⟨⟨h1, h2⟩, h3⟩ := h
      have heq : (Op.equal 52 (.agg (vcs s)) e.key).run Tryz.prog w = .ok (decide (s = p.1)) w := by
        rw [h1]
        exact eqVoteK s p.1 w
      unfold Instr.findAsking
      simp only [Sem.run_bind, heq, Result.andThen_ok]
      by_cases hp : s = p.1
      · simp [hp, idxS, h2]
      · simp only [hp, decide_false, Bool.false_eq_true, if_false, idxS]
        exact findV s w m es (i + 1) h3
theorem chkVote (em : Bool) (s : Vote) (n : Nat) (w : World) : (Instr.checkKey em (n + 1 + 1) 52 (.agg (vcs s))).run Tryz.prog w = .ok () w := by
  unfold vcs
  simp [Instr.checkKey, Tryz.underlying52, Tryz.underlying3, Tryz.underlying9, go_sem]
def keyVote : KeyD Vote 52 where
  val := fun s => .agg (vcs s)
  find := fun s m es w h => by
    rw [run_findKey_eq (P := Tryz.prog) (w := w) (k := 52) (by rw [Tryz.underlying52]) (.agg (vcs s)) es]
    exact findV s w m es 0 h
  chk := fun em s w => chkVote em s 9998 w
  same := fun s => sameVote s 9999
end Go.Proofs.YtcbfpdenjdgnlaaGreat
/- slices.Clone at texts, tree.New, disk.New. No claim of its own; no condition. -/
namespace Go.Proofs.YtcbfpdenjdgnlaaGreat
open Go.ChangeShapes Go.WideShapes Go.ChangeAt Go.RowKit
set_option linter.unusedVariables false
set_option linter.unusedSimpArgs false
theorem sinfo : (Tryz.prog.info? 9).map (fun i => (i.zero, i.size, i.bytes)) = some (some (.string ⟨#[]⟩), 1, 16) := by kernel_rfl
set_option maxHeartbeats 800000 in
set_option maxRecDepth 100000 in
theorem clones_calls (l : List ByteArray) (A : Option Addr) (n c : Nat) (w : World) (B : Nat) (hn : n = l.length) (hl : l.length ≤ 2097152) (hr : Kd.str.Row 9 B w A l) :
    Calls Tryz.prog 56 #[.slice A n c] w fun e w' => (∃ v, e = .returned v ∧ Kd.str.Own 9 w.heap.size w' w.heap.size v l ∧ (v = .slice none 0 0 ↔ A = none)) ∧ Below w.heap.size w w' := by
  subst hn
  obtain ⟨i0, hi, hz0, hz1, hz2⟩ := info_parts sinfo
  have hnil : ∀ (w : World) (a : Option Addr) (n c n' c' : Nat), (binOp .eql 22 (.slice a n c) (.slice none n' c')).run Tryz.prog w = .ok (.bool a.isNone) w := fun w a n c n' c' => Lib.run_eql_slice_nil w _ _ a n c n' c' Tryz.underlying22
  cases A with
  | none =>
    have hx : l = [] := by
      cases l with
      | nil => rfl
      | cons x l => obtain ⟨ad, h, _⟩ := hr (by simp); cases h
    subst hx
    go_enter Tryz.func56, Tryz.ntmps56
    go_wp2_with fail
    go_ret
    exact ⟨⟨_, rfl, Kd.own_nil _ _ _ _ _, by simp⟩, Below.refl _ _⟩
  | some ad =>
    have qe := bl_alloc (Below.refl w.heap.size w) (.cells #[] 9)
    have rowe := Kd.row_below qe (Kd.row_flat Kd.flat_str hr (Nat.le_refl _))
    go_enter Tryz.func56, Tryz.ntmps56
    go_wp2_with (at_builtin; refine wpList_append_row _ rfl (.tmp 5) (.tmp 6) 22 rfl Kd.str w.heap.size w.heap.size 9 i0 _ 16 Tryz.underlying22 hi hz0 hz1 hz2 rfl (by decide) (.slice (some ⟨w.heap.size, 0, none⟩) 0 0) [] rfl (Kd.own_empty (Nat.le_refl _)) (some ad) c l.length l rfl rfl rowe (by simp only [List.length_nil]; omega) (by decide) qe.size (Nat.le_refl _) (by decide) ?_; intro v1 w1 own1 grw1 at1; have b1 := Kd.own_step qe (Kd.own_empty (d := Kd.str) (e := 9) (B := w.heap.size) (Nat.le_refl _)) grw1; rw [List.nil_append] at own1)
    go_ret
    refine ⟨⟨v1, rfl, own1, ?_⟩, b1⟩
    constructor
    · rintro rfl
      rcases at1 with h | h <;> simp [Value.ownBlock] at h
    · intro h; cases h
/-- A tree of no blocks. -/
def TreeNew (w w' : World) (b : Nat) : Prop := ∃ M, w'.heap[b]? = some (.cells #[.map (some M)] 169 (0, 0)) ∧ w'.heap[M]? = some (.map #[] 0) ∧ w.heap.size ≤ b ∧ w.heap.size ≤ M
theorem tree_new (w : World) : Calls Tryz.prog 57 #[] w fun e w' => (∃ b, e = .returned (.pointer (some ⟨b, 0, none⟩)) ∧ TreeNew w w' b) ∧ Below w.heap.size w w' := by
  have hmm := @run_makeMap Tryz.prog
  have q0 := bl_alloc (bl_alloc (Below.refl w.heap.size w) (.map #[] 0)) (.cells #[.map (some w.heap.size)] 169)
  have a0 := alloc_old (alloc_new w (.map #[] 0)) (.cells #[.map (some w.heap.size)] 169)
  have a1 : ((w.alloc (.map #[] 0)).alloc (.cells #[.map (some w.heap.size)] 169)).heap[w.heap.size + 1]? = some (.cells #[.map (some w.heap.size)] 169 (0, 0)) := by
    have := alloc_new (w.alloc (.map #[] 0)) (.cells #[.map (some w.heap.size)] 169)
    rwa [World.size_alloc] at this
  go_enter Tryz.func57, Tryz.ntmps57
  go_wp2_with fail
  go_ret
  exact ⟨⟨_, rfl, _, a1, a0, by omega, by omega⟩, q0⟩
theorem disk_new (room : Int) (hr : 0 ≤ room ∧ room ≤ 262144) (w : World) : Calls Tryz.prog 90 #[.int .i64 room] w fun e w' => (∃ b, e = .returned (.pointer (some ⟨b, 0, none⟩)) ∧ w'.heap[b]? = some (.cells #[.slice none 0 0, .int .i64 0, .int .i64 room, .bool true] 220 (0, 0)) ∧ w.heap.size ≤ b) ∧ Below w.heap.size w w' := by
  have q0 := bl_alloc (Below.refl w.heap.size w) (.cells #[.slice none 0 0, .int .i64 0, .int .i64 room, .bool true] 220)
  have a0 := alloc_new w (.cells #[.slice none 0 0, .int .i64 0, .int .i64 room, .bool true] 220)
  have h1 : max room 0 = room := by omega
  have h2 : min room 262144 = room := by omega
  go_enter Tryz.func90, Tryz.ntmps90
  go_wp2_with fail
  go_ret
  exact ⟨⟨_, rfl, a0, Nat.le_refl _⟩, q0⟩
end Go.Proofs.YtcbfpdenjdgnlaaGreat
