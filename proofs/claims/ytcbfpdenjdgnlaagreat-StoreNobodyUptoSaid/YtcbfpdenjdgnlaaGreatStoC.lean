/- Package store: a live store, and its Fail with no octets. No claim of its own; no condition. -/
import Derived.Test.YtcbfpdenjdgnlaaGreatStoB
import Derived.Test.YtcbfpdenjdgnlaaGreatJnlB
import Derived.Test.YtcbfpdenjdgnlaaGreatRdrB
import Derived.Test.YtcbfpdenjdgnlaaGreatNobA
namespace Go.Proofs.YtcbfpdenjdgnlaaGreat
open Go.ChangeShapes Go.WideShapes Go.ChangeAt Go.RowKit
set_option linter.unusedVariables false
set_option linter.unusedSimpArgs false
/-- A store at S with a learner at L and a disk at D. -/
def StoAt (M : Nat) (w : World) (S L D : Nat) (roots clients : List ByteArray) (q base cap rk rn : Int) (down : Bool) (b : List UInt8) (sure : Nat) (room : Int) : Prop :=
  ∃ A1 c1 A2 c2, w.heap[S]? = some (.cells #[.slice A1 roots.length c1, .slice A2 clients.length c2, .int .i64 q, .int .i64 base, .int .i64 cap, .int .i64 rk, .int .i64 rn, .pointer (some ⟨L, 0, none⟩), .pointer (some ⟨D, 0, none⟩), .bool down] 88 (0, 0)) ∧ M ≤ S ∧
    Kd.str.Own 9 M w M (.slice A1 roots.length c1) roots ∧ Kd.str.Own 9 M w M (.slice A2 clients.length c2) clients ∧ Dsk M w D b sure room
theorem stoat_new {B S : Nat} {w : World} {roots clients : List ByteArray} {q base cap rk rn room : Int} (h : StoNew B w S roots clients q base cap rk rn room) (hr : 0 ≤ room ∧ room ≤ 262144) :
    ∃ L D, StoAt B w S L D roots clients q base cap rk rn false [] 0 room ∧ LrnNew B w L roots clients q base cap rk rn := by
  obtain ⟨L, D, A1, c1, A2, c2, h1, h2, h3, h4, h5, h6, h7⟩ := h
  exact ⟨L, D, ⟨A1, c1, A2, c2, h1, h2, h6, h7, h5, Nat.le_refl _, by simpa using hr.1, hr.2, .slice none 0 0, h4, Kd.own_nil _ _ _ _ _⟩, h3⟩
theorem stoat_dk {M S L D sure sure' : Nat} {w w' : World} {roots clients : List ByteArray} {q base cap rk rn room : Int} {down : Bool} {b b' : List UInt8} (h : StoAt M w S L D roots clients q base cap rk rn down b sure room) (k : Dk M w w') (d : Dsk M w' D b' sure' room) :
    StoAt M w' S L D roots clients q base cap rk rn down b' sure' room := by
  obtain ⟨A1, c1, A2, c2, h1, h2, h3, h4, h5⟩ := h
  have k9 := k.2 [9] (by decide) (by decide)
  exact ⟨A1, c1, A2, c2, ((k.2 [88] (by decide) (by decide)).2 S ⟨blk_lt h1, .inr ⟨_, _, _, h1, by simp⟩⟩).trans h1, h2, Kd.own_keep h3 (by simpa [Kd.str] using k9), Kd.own_keep h4 (by simpa [Kd.str] using k9), d⟩
theorem stoat_below {M S L D sure : Nat} {w w' : World} {roots clients : List ByteArray} {q base cap rk rn room : Int} {down : Bool} {b : List UInt8} (h : StoAt M w S L D roots clients q base cap rk rn down b sure room) (k : Below w.heap.size w w') :
    StoAt M w' S L D roots clients q base cap rk rn down b sure room := by
  have h' := h
  obtain ⟨A1, c1, A2, c2, h1, h2, h3, h4, h5⟩ := h'
  exact stoat_dk h (dk_below k (dsk_size h5)) (dsk_below h5 k)
theorem stoat_set {M S L D sure : Nat} {w : World} {roots clients : List ByteArray} {q base cap rk rn room : Int} {down : Bool} {b : List UInt8} (h : StoAt M w S L D roots clients q base cap rk rn down b sure room) (d : Bool) :
    StoAt M (w.setCell ⟨S, 9, none⟩ (.bool d)) S L D roots clients q base cap rk rn d b sure room ∧ Below M w (w.setCell ⟨S, 9, none⟩ (.bool d)) := by
  obtain ⟨A1, c1, A2, c2, h1, h2, h3, h4, h5⟩ := h
  have kk : ∀ E, 88 ∉ E → Keeps M E w (w.setCell ⟨S, 9, none⟩ (.bool d)) := fun E hE => Keeps.set (p := ⟨S, 9, none⟩) h1 h2 hE _
  have k9 := kk [9] (by decide)
  refine ⟨⟨A1, c1, A2, c2, ?_, h2, Kd.own_keep h3 (by simpa [Kd.str] using k9), Kd.own_keep h4 (by simpa [Kd.str] using k9), dsk_keep h5 (kk _ (by decide))⟩, (Below.refl _ _).setCell (p := ⟨S, 9, none⟩) h2 _⟩
  have := block_set (i := 9) (u := .bool d) h1
  simpa using this
theorem stoat_learner {M S L D sure : Nat} {w : World} {roots clients : List ByteArray} {q base cap rk rn room : Int} {down : Bool} {b : List UInt8} (h : StoAt M w S L D roots clients q base cap rk rn down b sure room) (L' : Nat) :
    StoAt M (w.setCell ⟨S, 7, none⟩ (.pointer (some ⟨L', 0, none⟩))) S L' D roots clients q base cap rk rn down b sure room ∧ Below M w (w.setCell ⟨S, 7, none⟩ (.pointer (some ⟨L', 0, none⟩))) := by
  obtain ⟨A1, c1, A2, c2, h1, h2, h3, h4, h5⟩ := h
  have kk : ∀ E, 88 ∉ E → Keeps M E w (w.setCell ⟨S, 7, none⟩ (.pointer (some ⟨L', 0, none⟩))) := fun E hE => Keeps.set (p := ⟨S, 7, none⟩) h1 h2 hE _
  have k9 := kk [9] (by decide)
  refine ⟨⟨A1, c1, A2, c2, ?_, h2, Kd.own_keep h3 (by simpa [Kd.str] using k9), Kd.own_keep h4 (by simpa [Kd.str] using k9), dsk_keep h5 (kk _ (by decide))⟩, (Below.refl _ _).setCell (p := ⟨S, 7, none⟩) h2 _⟩
  have := block_set (i := 7) (u := .pointer (some ⟨L', 0, none⟩)) h1
  simpa using this
theorem stoat_cells {M S L D sure : Nat} {w : World} {roots clients : List ByteArray} {q base cap rk rn room : Int} {down : Bool} {b : List UInt8} (h : StoAt M w S L D roots clients q base cap rk rn down b sure room) :
    w.cell? ⟨S, 7, none⟩ = some (.pointer (some ⟨L, 0, none⟩)) ∧ w.cell? ⟨S, 8, none⟩ = some (.pointer (some ⟨D, 0, none⟩)) ∧ w.cell? ⟨S, 9, none⟩ = some (.bool down) ∧ w.frozen? ⟨S, 9, none⟩ = false ∧ w.frozen? ⟨S, 7, none⟩ = false ∧ Dsk M w D b sure room ∧ M ≤ w.heap.size := by
  obtain ⟨A1, c1, A2, c2, h1, h2, h3, h4, h5⟩ := h
  exact ⟨block_cell h1 (i := 7) rfl, block_cell h1 (i := 8) rfl, block_cell h1 (i := 9) rfl, block_free h1, block_free h1, h5, dsk_size h5⟩
set_option maxHeartbeats 1600000 in
set_option maxRecDepth 100000 in
theorem sfail_nil (M S L D m : Nat) (roots clients : List ByteArray) (q base cap rk rn room : Int) (w : World) (h : StoAt M w S L D roots clients q base cap rk rn false [] 0 room) (hm : w.cell? ⟨L, 8, none⟩ = some (.map (some m))):
    Calls Tryz.prog 42 #[.pointer (some ⟨S, 0, none⟩), .slice none 0 0, .int .i64 0] w fun x w' => (∃ u, x = .returned u) ∧ StoAt M w' S L D roots clients q base cap rk rn true [] 0 room ∧ Below M w w' := by
  obtain ⟨s7, s8, s9, f9, f7, d0, hMw⟩ := stoat_cells h
  have HD := Lib.hid (sdown_at S ⟨L, 0, none⟩ false w s7 s9)
  have HH := Lib.hid (lhear_nil w L m hm)
  have H := Lib.hid h
  clear h hm d0 s9 f9 f7
  go_enter Tryz.func42, Tryz.ntmps42
  go_wp2_with first
    | (go_at_call 38; refine Calls.mono (HD.out) ?_; rintro x w0 ⟨rfl, hw⟩; subst hw)
    | (go_at_call 24; refine Calls.mono (HH.out) ?_; rintro x w1 ⟨rfl, b1⟩; have st1 := stoat_below H.out b1; have t8 := (stoat_cells st1).2.1; have ST1 := Lib.hid st1; clear st1)
    | (go_at_call 98; refine Calls.mono (dcrash_calls M D 0 [] room 0 w1 (stoat_cells ST1.out).2.2.2.2.2.1 (by unfold IntOk; omega)) ?_; rintro x w4 ⟨⟨vx, rfl⟩, d4, k4⟩; rw [show keptN [] 0 0 = 0 by simp [keptN]] at d4; have st4 := stoat_dk ST1.out k4 d4; have v9 := (stoat_cells st4).2.2.1; have v9f := (stoat_cells st4).2.2.2.1; have st5 := stoat_set st4 true; have ST5 := Lib.hid st5; have K4 := Lib.hid k4; clear st4 st5 d4 k4)
  go_end0
  exact ⟨⟨_, rfl⟩, ST5.out.1, ((b1.mono hMw).trans K4.out.1).trans ST5.out.2⟩
end Go.Proofs.YtcbfpdenjdgnlaaGreat
