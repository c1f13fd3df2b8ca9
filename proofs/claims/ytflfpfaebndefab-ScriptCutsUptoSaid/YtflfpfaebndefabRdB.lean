/- Package script: the iterator of steps. No claim of its own; no condition. -/
import Derived.Test.YtflfpfaebndefabRdA
import Derived.ControlIn
import Derived.Sort.CutIn
namespace Go.Proofs.Ytflfpfaebndefab
open Go.ChangeShapes Go.WideShapes Go.ChangeAt Go.RowKit Go.Shelf
set_option linter.unusedVariables false
set_option linter.unusedSimpArgs false
def zeroS : Value := .agg #[.int .i64 0, .int .i64 0, .int .i64 0, .int .i64 0, .int .i64 0, .slice none 0 0]
def stepV (x : Step) (A : Option Addr) (c : Nat) : Value := .agg #[.int .i64 x.kind, .int .i64 x.a, .int .i64 x.b, .int .i64 x.c, .int .i64 x.d, .slice A x.data.length c]
theorem u8_ok (x : UInt8) : IntOk (x.toNat : Int) := by have := x.toNat_lt; unfold IntOk; omega
theorem atI_ok (b : List UInt8) (i : Nat) : IntOk (atI b i) := by
  have : get2 b i < 4611686018427387904 := Nat.mod_lt _ (by decide)
  unfold atI IntOk
  omega
def boxLen (Bx : Nat) (W : World) : Nat := match W.cell? ⟨Bx, 0, none⟩ with | some (.slice _ n _) => n | _ => 0
theorem at_any (b : List UInt8) (ad : Addr) (c Bx : Nat) (iI : Int) (w : World) (B : Nat) (hi : iI = 1 ∨ iI = 3 ∨ iI = 5 ∨ iI = 7) (h11 : 11 ≤ b.length) (hnc : b.length ≤ c) (hc : c ≤ maxLen) (hbx : w.cell? ⟨Bx, 0, none⟩ = some (.slice (some ad) b.length c)) (hr : Kd.u8.Row 5 B w (some ad) b) :
    Calls Try.prog 65 #[.int .i64 iI, .pointer (some ⟨Bx, 0, none⟩)] w fun e w' => e = .returned (.int .i64 (atI b iI.toNat)) ∧ Below w.heap.size w w' := by
  obtain ⟨i, rfl⟩ : ∃ i : Nat, iI = (i : Int) := ⟨iI.toNat, by omega⟩
  exact at_calls b ad b.length c Bx i w B (by omega) rfl h11 hnc hc hbx hr
theorem own_rows {α : Type} {d : Kd α} (hf : d.Flat) {e : TypeId} {B base : Nat} {w : World} {A : Option Addr} {n c : Nat} {xs : List α} (h : d.Own e B w base (.slice A n c) xs) (B' : Nat) : d.Row e B' w A xs := by
  obtain ⟨A', c', h1, _, _, h2, _⟩ := Kd.own_row (Kd.own_flat (B' := B') hf h (Nat.le_refl _))
  cases h1
  exact h2
theorem bl_setz {a w : World} (h : Below a.heap.size a w) {N i : Nat} (hp : a.heap.size ≤ N) (u : Value) : Below a.heap.size a (w.setCell ⟨N, i, none⟩ u) := bl_set h (p := ⟨N, i, none⟩) hp u
theorem row_any {α : Type} {d : Kd α} (hf : d.Flat) {e : TypeId} {w : World} {A : Option Addr} {xs : List α} (h : d.Row e 0 w A xs) (B : Nat) : d.Row e B w A xs := by
  intro hne
  obtain ⟨ad, rfl, hb, hx⟩ := h hne
  refine ⟨ad, rfl, ⟨hb.1, .inr (hb.2.resolve_left (by omega))⟩, fun i x hi => ?_⟩
  obtain ⟨cs, hK, hc⟩ := hx i x hi
  exact ⟨cs, hf _ _ _ _ _ _ hK, hc⟩
theorem row_set {α : Type} {d : Kd α} (hf : d.Flat) {e t : TypeId} {w : World} {N i : Nat} {cs : Array Value} {f : Nat × Nat} {A : Option Addr} {xs : List α} (hN : w.heap[N]? = some (.cells cs t f)) (ht : t ∉ e :: d.E) (u : Value) (h : ∀ B, d.Row e B w A xs) : ∀ B, d.Row e B (w.setCell ⟨N, i, none⟩ u) A xs :=
  row_any hf (Kd.row_keep (Keeps.set (p := ⟨N, i, none⟩) hN (Nat.zero_le _) ht u) (h 0))
def zs6 : Array Value := #[.int .i64 0, .int .i64 0, .int .i64 0, .int .i64 0, .int .i64 0, .slice none 0 0]
/-- The new step's block is laid, and empty. -/
def ZB (w1 w2 : World) (N : Nat) : Prop := w1.heap.size ≤ N ∧ w2.heap[N]? = some (.cells zs6 66 (0, 0))
theorem zb_alloc {w1 W w2 : World} (h : Below w1.heap.size w1 W) (b : Below (W.alloc (.cells #[.int .i64 0, .int .i64 0, .int .i64 0, .int .i64 0, .int .i64 0, .slice none 0 0] 66)).heap.size (W.alloc (.cells #[.int .i64 0, .int .i64 0, .int .i64 0, .int .i64 0, .int .i64 0, .slice none 0 0] 66)) w2) : ZB w1 w2 W.heap.size :=
  ⟨h.size, block_below b (alloc_new W _)⟩
theorem zb_allocd {w1 W w2 : World} (h : Below w1.heap.size w1 W) (b : Below (W.alloc (.cells #[.int .i64 0, .int .i64 0, .int .i64 0, .int .i64 0, .int .i64 0, .slice none 0 0] 66)).drew.heap.size (W.alloc (.cells #[.int .i64 0, .int .i64 0, .int .i64 0, .int .i64 0, .int .i64 0, .slice none 0 0] 66)).drew w2) : ZB w1 w2 W.heap.size :=
  ⟨h.size, block_below b (show (W.alloc (.cells #[.int .i64 0, .int .i64 0, .int .i64 0, .int .i64 0, .int .i64 0, .slice none 0 0] 66)).drew.heap[W.heap.size]? = _ from alloc_new W _)⟩
theorem zb_keep {w1 W w2 : World} {N : Nat} (h : ZB w1 W N) (b : Below W.heap.size W w2) : ZB w1 w2 N := ⟨h.1, block_below b h.2⟩
theorem zb_cells {w1 w2 : World} {N : Nat} (h : ZB w1 w2 N) : (w2.cell? ⟨N, 0, none⟩ = some (.int .i64 0) ∧ w2.cell? ⟨N, 1, none⟩ = some (.int .i64 0) ∧ w2.cell? ⟨N, 2, none⟩ = some (.int .i64 0) ∧ w2.cell? ⟨N, 3, none⟩ = some (.int .i64 0) ∧ w2.cell? ⟨N, 4, none⟩ = some (.int .i64 0) ∧ w2.cell? ⟨N, 5, none⟩ = some (.slice none 0 0)) ∧ (w2.frozen? ⟨N, 0, none⟩ = false ∧ w2.frozen? ⟨N, 1, none⟩ = false ∧ w2.frozen? ⟨N, 2, none⟩ = false ∧ w2.frozen? ⟨N, 3, none⟩ = false ∧ w2.frozen? ⟨N, 4, none⟩ = false ∧ w2.frozen? ⟨N, 5, none⟩ = false) :=
  ⟨⟨block_cell h.2 rfl, block_cell h.2 rfl, block_cell h.2 rfl, block_cell h.2 rfl, block_cell h.2 rfl, block_cell h.2 rfl⟩, block_free h.2, block_free h.2, block_free h.2, block_free h.2, block_free h.2, block_free h.2⟩
theorem zb_fill {w1 w2 : World} {N : Nat} (h : ZB w1 w2 N) (a b c d e f : Value) : ((((((w2.setCell ⟨N, 0, none⟩ a).setCell ⟨N, 1, none⟩ b).setCell ⟨N, 2, none⟩ c).setCell ⟨N, 3, none⟩ d).setCell ⟨N, 4, none⟩ e).setCell ⟨N, 5, none⟩ f).heap[N]? = some (.cells #[a, b, c, d, e, f] 66 (0, 0)) :=
  block_set (block_set (block_set (block_set (block_set (block_set h.2)))))
theorem zb_row {w1 w2 : World} {N : Nat} (h : ZB w1 w2 N) (a b c d e f : Value) {A : Option Addr} {xs : List UInt8} (hr : ∀ B, Kd.u8.Row 5 B w2 A xs) : ∀ B, Kd.u8.Row 5 B ((((((w2.setCell ⟨N, 0, none⟩ a).setCell ⟨N, 1, none⟩ b).setCell ⟨N, 2, none⟩ c).setCell ⟨N, 3, none⟩ d).setCell ⟨N, 4, none⟩ e).setCell ⟨N, 5, none⟩ f) A xs := by
  have hk : ∀ {w : World} {cs : Array Value} (u : Value) (i : Nat), w.heap[N]? = some (.cells cs 66 (0, 0)) → (∀ B, Kd.u8.Row 5 B w A xs) → ((∀ B, Kd.u8.Row 5 B (w.setCell ⟨N, i, none⟩ u) A xs) ∧ (w.setCell ⟨N, i, none⟩ u).heap[N]? = some (.cells (cs.setIfInBounds i u) 66 (0, 0))) := fun u i h0 h1 => ⟨row_set Kd.flat_u8 h0 (by decide) u h1, block_set h0⟩
  obtain ⟨r0, b0⟩ := hk a 0 h.2 hr
  obtain ⟨r1, b1⟩ := hk b 1 b0 r0
  obtain ⟨r2, b2⟩ := hk c 2 b1 r1
  obtain ⟨r3, b3⟩ := hk d 3 b2 r2
  obtain ⟨r4, b4⟩ := hk e 4 b3 r3
  exact (hk f 5 b4 r4).1
set_option maxHeartbeats 20000000 in
set_option maxRecDepth 100000 in
theorem steps1_in (m : Nat) (hm : 1 ≤ m) (l Bx B : Nat) (w0 : World) (b : List UInt8) (A : Option Addr) (c : Nat) (J : List Step → World → Prop) (Jx : World → Prop) (hlen : b.length ≤ 16384)
    (hJb : ∀ pre W, J pre W → Below w0.heap.size w0 W)
    (hset : ∀ pre W v, J pre W → J pre (W.setCell ⟨Bx, 0, none⟩ v))
    (hbel : ∀ pre W W', J pre W → Below W.heap.size W W' → J pre W')
    (hY : ∀ pre x A c W, J pre W → pre.length < b.length → (IntOk x.kind ∧ IntOk x.a ∧ IntOk x.b ∧ IntOk x.c ∧ IntOk x.d) → x.data.length ≤ c → c ≤ maxLen → (∀ B, Kd.u8.Row 5 B W A x.data) → YieldAt Fence.wide (m - 1) Try.prog l #[stepV x A c, .bool true] W fun e W' =>
      e = .returned (.bool true) ∧ J (pre ++ [x]) W' ∧ ∀ v, Boxed W Bx 58 v → Boxed W' Bx 58 v)
    (hN : ∀ pre W, J pre W → YieldAt Fence.wide (m - 1) Try.prog l #[zeroS, .bool false] W fun e W' => e = .returned (.bool false) ∧ Jx W')
    (W : World) (hb : Boxed W Bx 58 (.slice A b.length c)) (hc1 : b.length ≤ c) (hc2 : c ≤ maxLen) (hr : Kd.u8.Row 5 B w0 A b) (h0 : J [] W) :
    CallsIn Fence.wide m Try.prog 64 #[.func (.yield l) #[] #[], .pointer (some ⟨Bx, 0, none⟩)] W fun e W' => (∃ v, e = .returned v) ∧
      (((readAll b).2 = true ∧ J (readAll b).1 W') ∨ ((readAll b).2 = false ∧ Jx W')) := by
  have f65 : Fence.wide.fn 65 := trivial
  have f66 : Fence.wide.fn 66 := trivial
  have f67 : Fence.wide.fn 67 := trivial
  refine callsIn_of_wp Try.func64 rfl trivial ?_ rfl
  simp only [Try.ntmps64, List.size_toArray, List.length_cons, List.length_nil, Nat.reduceAdd, Nat.reduceSub, Array.replicate_succ, Array.replicate_zero, List.push_toArray, List.append_toArray, List.nil_append, List.cons_append]
  gi_wp2
  gi_loopw [6] (fun _ wr => ∃ (pre : List Step) (r : List UInt8) (A' : Option Addr) (c' : Nat), Boxed wr Bx 58 (.slice A' r.length c') ∧ r.length ≤ c' ∧ c' ≤ maxLen ∧ r.length ≤ 16384 ∧ Kd.u8.Row 5 B w0 A' r ∧ J pre wr ∧ Hid (readAll b = (pre ++ (readAll r).1, (readAll r).2)) ∧ pre.length + r.length ≤ b.length)
    (fun _ wr => boxLen Bx wr)
  case atStart => exact ⟨[], b, A, c, hb, hc1, hc2, hlen, hr, h0, Lib.hid rfl, by simp⟩
  case round =>
    obtain ⟨pre, r, A', c', hbx, hrc, hc', hrl, hrow, hJ, hread, hpl⟩ := hrel
    have hcell := Boxed.cell hbx
    have HBL := Lib.hid (show boxLen Bx wr = r.length by unfold boxLen; rw [hcell])
    by_cases h : r = []
    · subst h
      gi_wp2
      go_end0
      have hR := hread.out
      rw [readAll_nil] at hR
      exact ⟨⟨_, rfl⟩, .inl ⟨by rw [hR], by rw [hR]; simpa using hJ⟩⟩
    · have hpos : 0 < r.length := by
        cases r with
        | nil => exact absurd rfl h
        | cons a r => simp
      have hgI : (r.length : Int) > 0 := by omega
      cases k1 : decide (r.length < 11)
      · have h11 : 11 ≤ r.length := by simpa using k1
        have h11I : ¬ ((r.length : Int) < 11) := by omega
        obtain ⟨ad, rfl, hhd, _⟩ := hrow h
        have hro := Kd.row_below (hJb pre wr hJ) hrow
        obtain ⟨g, hg⟩ : ∃ g, get2 r 9 = g := ⟨_, rfl⟩
        have hget := get_calls ((r.drop 9).take 2) (some (ad.add 9)) 2 (c' - 9) wr B (by rw [List.length_take, List.length_drop]; omega) (by rw [List.length_take]; omega) (urow_take (urow_drop hro 9) 2)
        have hg1 := hg
        unfold get2 at hg1
        rw [hg1, show ad.add 9 = ⟨ad.block, ad.off + 9, none⟩ from rfl] at hget
        have hg2 : g < 4611686018427387904 := by rw [← hg]; exact Nat.mod_lt _ (by decide)
        have HGET := Lib.hid hget
        clear hget hg1
        have hc9 : (11 : Int) ≤ (c' : Int) := by omega
        cases k2 : decide (4096 < g)
        · have k2n : g ≤ 4096 := by simpa using k2
          have k2I : decide ((4096 : Int) < (g : Int)) = false := by simp; omega
          cases k3 : decide (r.length < 11 + g)
          · have k3n : 11 + g ≤ r.length := by simpa using k3
            have k3I : decide ((r.length : Int) - 11 < (g : Int)) = false := by simp; omega
            gi_wp2_with ((gi_at_call 66; refine (callsIn_wide.2 HGET.out).mono ?_; rintro e w1 ⟨rfl, b1⟩; have hbx1 : Boxed w1 Bx 58 _ := block_below b1 hbx; have hcell1 := Boxed.cell hbx1))
            have hro1 := Kd.row_below b1 hro
            obtain ⟨r0, hr0⟩ : ∃ r0, r[0]? = some r0 := ⟨_, List.getElem?_eq_getElem hpos⟩
            obtain ⟨ad', had, hb0⟩ := u8_at hro1 hr0
            cases had
            have hb0' : w1.cell? ad = some (.int .u8 (r0.toNat : Int)) := hb0
            have kbox := held_cell hcell1
            have kb0 := held_cell hb0'
            have hx0 : r.headD 0 = r0 := by
              cases r with
              | nil => cases hr0
              | cons a r => simpa using hr0
            clear hb0 hb0' hcell1 hcell hbx
            have hdat : ∀ w', Below w1.heap.size w1 w' → Kd.u8.Row 5 B w' (some (ad.add 11)) ((r.drop 11).take g) := fun w' hw => urow_take (urow_drop (Kd.row_below hw hro1) 11) g
            have hdl : ((r.drop 11).take g).length = g := by rw [List.length_take, List.length_drop]; omega
            rw [show ad.add 11 = ⟨ad.block, ad.off + 11, none⟩ from rfl] at hdat
            obtain ⟨D, hD⟩ : ∃ D, (r.drop 11).take g = D := ⟨_, rfl⟩
            rw [hD] at hdl hdat
            have HDL := Lib.hid hdl
            have HD := Lib.hid hD
            have hwr : IntKind.i64.wrap (r0.toNat : Int) = (r0.toNat : Int) := IntWalk.i64_in _ (by have := r0.toNat_lt; omega)
            clear hdl hr0 hD
            have k4 : 11 + g < c' ∨ (11 + g = c' ∧ 0 < g) ∨ (g = 0 ∧ c' = 11) := by omega
            have hEnd : (11 + g < c' ∨ r.drop (11 + g) = []) := by
              rcases Nat.lt_or_ge (11 + g) c' with h | h
              · exact .inl h
              · exact .inr (List.drop_eq_nil_of_le (by omega))
            have HE := Lib.hid hEnd
            have hHead : headS r = some (⟨(r0.toNat : Int), atI r 1, atI r 3, atI r 5, atI r 7, D⟩, r.drop (11 + g)) := by
              unfold headS
              rw [hg, k1, k2, k3, hx0, HD.out]
              rfl
            have HH := Lib.hid hHead
            clear hEnd hHead hg hx0
            rcases k4 with k4n | ⟨k4n, k4p⟩ | ⟨k4n, k4p⟩
            · have q1 : (11 : Int) + (g : Int) ≤ (c' : Int) := by omega
              have q2 : (11 : Int) ≤ (11 : Int) + (g : Int) := by omega
              have q3 : (0 : Int) ≤ (11 : Int) + (g : Int) := by omega
              have qw : IntKind.i64.wrap ((11 : Int) + (g : Int)) = (11 : Int) + (g : Int) := IntWalk.i64_in _ (by omega)
              have hat : ∀ (iI : Int) (w' : World), (iI = 1 ∨ iI = 3 ∨ iI = 5 ∨ iI = 7) → Below w1.heap.size w1 w' → Calls Try.prog 65 #[.int .i64 iI, .pointer (some ⟨Bx, 0, none⟩)] w' fun e w2 => e = .returned (.int .i64 (atI r iI.toNat)) ∧ Below w'.heap.size w' w2 := fun iI w' h1 h2 => at_any r ad _ Bx iI w' B h1 h11 hrc hc' (kbox w' h2) (Kd.row_below h2 hro1)
              have hcl : ∀ (a0 : Addr) (n cc : Nat) (w' : World), n = g → (g = 0 ∨ a0 = ⟨ad.block, ad.off + 11, none⟩) → Below w1.heap.size w1 w' → Calls Try.prog 67 #[.slice (some a0) n cc] w' fun e w2 => (∃ v, e = .returned v ∧ Kd.u8.Own 5 w'.heap.size w2 w'.heap.size v D) ∧ Below w'.heap.size w' w2 := fun a0 n cc w' hn h1 h2 => by
                refine clone_u8 D a0 n cc w' B (hn.trans HDL.out.symm) (by rw [HDL.out]; omega) ?_
                rcases h1 with h1 | rfl
                · rw [show D = [] from List.eq_nil_of_length_eq_zero (by rw [HDL.out]; exact h1)]; exact Kd.row_nil _ _ _ _ _
                · exact hdat w' h2
              have HAT := Lib.hid hat
              have HCL := Lib.hid hcl
              clear hat hcl hdat
              gi_cut [5] from 57 (fun v5 w' => ∃ N A40 c40, v5 = .pointer (some ⟨N, 0, none⟩) ∧ w1.heap.size ≤ N ∧ w'.heap[N]? = some (.cells #[.int .i64 (r0.toNat : Int), .int .i64 (atI r 1), .int .i64 (atI r 3), .int .i64 (atI r 5), .int .i64 (atI r 7), .slice A40 D.length c40] 66 (0, 0)) ∧ D.length ≤ c40 ∧ c40 ≤ maxLen ∧ (∀ B, Kd.u8.Row 5 B w' A40 D) ∧ Below w1.heap.size w1 w')
              case first J1 K1 hJ1 hK1 =>
                refine wpIn_wide.2 ?_
                go_region_held3 (fun w' => Below w1.heap.size w1 w') (repeat (with_reducible (first | (refine bl_setz ?_ (by assumption) _) | exact Below.refl _ _ | assumption | refine bl_drew ?_ | refine bl_alloc ?_ _ | (refine bl_trans ?_ (by assumption))))) ((first
                  | (go_at_call 65; refine (HAT.out _ _ (by omega) (by assumption)).mono ?_; rintro e w21 ⟨rfl, b21⟩; (first | (have hz := zb_alloc (w1 := w1) (by repeat (first | exact Below.refl _ _ | assumption | apply bl_drew | apply bl_alloc | (refine bl_trans ?_ (by assumption)))) b21) | (have hz := zb_allocd (w1 := w1) (by repeat (first | exact Below.refl _ _ | assumption | apply bl_drew | apply bl_alloc | (refine bl_trans ?_ (by assumption)))) b21) | (have hz := zb_keep (w1 := w1) (by assumption) b21) | skip))
                  | (go_at_call 67; refine (HCL.out _ _ _ _ (by omega) (by first | exact .inr rfl | exact .inl rfl | (left; omega)) (by assumption)).mono ?_; rintro e w40 ⟨⟨v40, rfl, own40⟩, b40⟩; have own41 := Kd.own_flat (B' := w1.heap.size) Kd.flat_u8 own40 (Nat.le_refl _); obtain ⟨A40, c40, rfl, hx1, hx2, row40, hx3⟩ := Kd.own_row own40; (first | (have hz := zb_alloc (w1 := w1) (by repeat (first | exact Below.refl _ _ | assumption | apply bl_drew | apply bl_alloc | (refine bl_trans ?_ (by assumption)))) b40; obtain ⟨⟨z0, z1, z2, z3, z4, z5⟩, y0, y1, y2, y3, y4, y5⟩ := zb_cells hz; have hzN := hz.1) | (have hz := zb_keep (w1 := w1) (by assumption) b40; obtain ⟨⟨z0, z1, z2, z3, z4, z5⟩, y0, y1, y2, y3, y4, y5⟩ := zb_cells hz; have hzN := hz.1) | skip))))
                · show K1 _ _
                  refine hK1 _ _ (Met.intro (hJ1 _ _ ?_))
                  (repeat apply Exists.intro)
                  refine ⟨?_, rfl⟩
                  exact ⟨_, _, _, rfl, Below.size (show Below w1.heap.size w1 w40 from (by repeat (with_reducible (first | (refine bl_setz ?_ (by assumption) _) | exact Below.refl _ _ | assumption | refine bl_drew ?_ | refine bl_alloc ?_ _ | (refine bl_trans ?_ (by assumption)))))), alloc_new _ _, hx1, hx2, fun B => Kd.row_below (bl_alloc (Below.refl _ _) _) (own_rows Kd.flat_u8 own40 B), (by repeat (with_reducible (first | (refine bl_setz ?_ (by assumption) _) | exact Below.refl _ _ | assumption | refine bl_drew ?_ | refine bl_alloc ?_ _ | (refine bl_trans ?_ (by assumption)))))⟩
                all_goals
                  show K1 _ _
                  refine hK1 _ _ (Met.intro (hJ1 _ _ ?_))
                  (repeat apply Exists.intro)
                  refine ⟨?_, rfl⟩
                  exact ⟨_, _, _, rfl, hzN, zb_fill hz _ _ _ _ _ _, hx1, hx2, zb_row hz _ _ _ _ _ _ (own_rows Kd.flat_u8 own40), (by repeat (with_reducible (first | (refine bl_setz ?_ (by assumption) _) | exact Below.refl _ _ | assumption | refine bl_drew ?_ | refine bl_alloc ?_ _ | (refine bl_trans ?_ (by assumption)))))⟩
              case rest =>
                obtain ⟨N, A40, c40, rfl, hN, hblk, hx1, hx2, rowD, belc⟩ := hcut
                have hbxc : Boxed wc Bx 58 _ := block_below belc hbx1
                have kc := Boxed.cell hbxc
                have kf := Boxed.frozen hbxc
                have hBN : Bx ≠ N := by have := Boxed.lt hbx1; omega
                have hNB : N ≠ Bx := fun e => hBN e.symm
                have x0 := block_cell hblk (i := 0) rfl
                have x1 := block_cell hblk (i := 1) rfl
                have x2 := block_cell hblk (i := 2) rfl
                have x3 := block_cell hblk (i := 3) rfl
                have x4 := block_cell hblk (i := 4) rfl
                have x5 := block_cell hblk (i := 5) rfl
                gi_upto_region 9 with fail
                have hb6 : Boxed (wc.setCell ⟨Bx, 0, none⟩ (Value.slice (some (ad.add (11 + g))) (r.length - (11 + g)) (c' - (11 + g)))) Bx 58 (Value.slice (some (ad.add (11 + g))) (r.length - (11 + g)) (c' - (11 + g))) := Boxed.set _ hbxc
                have hJ6 : J pre (wc.setCell ⟨Bx, 0, none⟩ (Value.slice (some (ad.add (11 + g))) (r.length - (11 + g)) (c' - (11 + g)))) := hset pre wc _ (hbel pre wr wc hJ (bl_trans b1 belc))
                have rowD6 : ∀ B, Kd.u8.Row 5 B (wc.setCell ⟨Bx, 0, none⟩ (Value.slice (some (ad.add (11 + g))) (r.length - (11 + g)) (c' - (11 + g)))) A40 D := row_set Kd.flat_u8 hbxc (by decide) _ rowD
                have y0 := (World.cell?_setCell_far wc ⟨Bx, 0, none⟩ ⟨N, 0, none⟩ (Value.slice (some (ad.add (11 + g))) (r.length - (11 + g)) (c' - (11 + g))) hBN).trans x0
                have y1 := (World.cell?_setCell_far wc ⟨Bx, 0, none⟩ ⟨N, 1, none⟩ (Value.slice (some (ad.add (11 + g))) (r.length - (11 + g)) (c' - (11 + g))) hBN).trans x1
                have y2 := (World.cell?_setCell_far wc ⟨Bx, 0, none⟩ ⟨N, 2, none⟩ (Value.slice (some (ad.add (11 + g))) (r.length - (11 + g)) (c' - (11 + g))) hBN).trans x2
                have y3 := (World.cell?_setCell_far wc ⟨Bx, 0, none⟩ ⟨N, 3, none⟩ (Value.slice (some (ad.add (11 + g))) (r.length - (11 + g)) (c' - (11 + g))) hBN).trans x3
                have y4 := (World.cell?_setCell_far wc ⟨Bx, 0, none⟩ ⟨N, 4, none⟩ (Value.slice (some (ad.add (11 + g))) (r.length - (11 + g)) (c' - (11 + g))) hBN).trans x4
                have y5 := (World.cell?_setCell_far wc ⟨Bx, 0, none⟩ ⟨N, 5, none⟩ (Value.slice (some (ad.add (11 + g))) (r.length - (11 + g)) (c' - (11 + g))) hBN).trans x5
                generalize wc.setCell ⟨Bx, 0, none⟩ (Value.slice (some (ad.add (11 + g))) (r.length - (11 + g)) (c' - (11 + g))) = W6 at *
                obtain ⟨fn, tmps, assign, body, hy, hR⟩ := hY pre ⟨(r0.toNat : Int), atI r 1, atI r 3, atI r 5, atI r 7, D⟩ A40 c40 W6 hJ6 (by omega) ⟨u8_ok r0, atI_ok _ _, atI_ok _ _, atI_ok _ _, atI_ok _ _⟩ hx1 hx2 rowD6
                unfold stepV at hy
                dsimp only at hy
                clear x0 x1 x2 x3 x4 x5 kc kf hblk hbxc belc rowD rowD6 hJ6
                gi_wp2
                refine hR.mono ?_
                rintro e W3 ⟨rfl, hJ3, hk3⟩
                have hb3 := hk3 _ hb6
                clear hk3 hb6 y0 y1 y2 y3 y4 y5
                gi_wp2
                go_roundw
                case rel =>
                  have hq := hread.out
                  rw [readAll_ok h HH.out] at hq
                  refine ⟨pre ++ [⟨(r0.toNat : Int), atI r 1, atI r 3, atI r 5, atI r 7, D⟩], r.drop (11 + g), some (ad.add (11 + g)), c' - (11 + g), by rw [List.length_drop]; exact hb3, by rw [List.length_drop]; omega, by omega, by rw [List.length_drop]; omega, urow_drop hrow (11 + g), hJ3, Lib.hid (by rw [hq]; simp), by rw [List.length_append, List.length_drop]; simp only [List.length_cons, List.length_nil]; omega⟩
                case measure =>
                  rw [HBL.out]
                  unfold boxLen
                  rw [Boxed.cell hb3]
                  simp only []
                  omega
            · obtain rfl : c' = 11 + g := by omega
              have q1 : (11 : Int) + (g : Int) ≤ ((11 + g : Nat) : Int) := by omega
              have q2 : (11 : Int) ≤ (11 : Int) + (g : Int) := by omega
              have q3 : (0 : Int) ≤ (11 : Int) + (g : Int) := by omega
              have qw : IntKind.i64.wrap ((11 : Int) + (g : Int)) = (11 : Int) + (g : Int) := IntWalk.i64_in _ (by omega)
              have hat : ∀ (iI : Int) (w' : World), (iI = 1 ∨ iI = 3 ∨ iI = 5 ∨ iI = 7) → Below w1.heap.size w1 w' → Calls Try.prog 65 #[.int .i64 iI, .pointer (some ⟨Bx, 0, none⟩)] w' fun e w2 => e = .returned (.int .i64 (atI r iI.toNat)) ∧ Below w'.heap.size w' w2 := fun iI w' h1 h2 => at_any r ad _ Bx iI w' B h1 h11 hrc hc' (kbox w' h2) (Kd.row_below h2 hro1)
              have hcl : ∀ (a0 : Addr) (n cc : Nat) (w' : World), n = g → (g = 0 ∨ a0 = ⟨ad.block, ad.off + 11, none⟩) → Below w1.heap.size w1 w' → Calls Try.prog 67 #[.slice (some a0) n cc] w' fun e w2 => (∃ v, e = .returned v ∧ Kd.u8.Own 5 w'.heap.size w2 w'.heap.size v D) ∧ Below w'.heap.size w' w2 := fun a0 n cc w' hn h1 h2 => by
                refine clone_u8 D a0 n cc w' B (hn.trans HDL.out.symm) (by rw [HDL.out]; omega) ?_
                rcases h1 with h1 | rfl
                · rw [show D = [] from List.eq_nil_of_length_eq_zero (by rw [HDL.out]; exact h1)]; exact Kd.row_nil _ _ _ _ _
                · exact hdat w' h2
              have HAT := Lib.hid hat
              have HCL := Lib.hid hcl
              clear hat hcl hdat
              gi_cut [5] from 57 (fun v5 w' => ∃ N A40 c40, v5 = .pointer (some ⟨N, 0, none⟩) ∧ w1.heap.size ≤ N ∧ w'.heap[N]? = some (.cells #[.int .i64 (r0.toNat : Int), .int .i64 (atI r 1), .int .i64 (atI r 3), .int .i64 (atI r 5), .int .i64 (atI r 7), .slice A40 D.length c40] 66 (0, 0)) ∧ D.length ≤ c40 ∧ c40 ≤ maxLen ∧ (∀ B, Kd.u8.Row 5 B w' A40 D) ∧ Below w1.heap.size w1 w')
              case first J1 K1 hJ1 hK1 =>
                refine wpIn_wide.2 ?_
                go_region_held3 (fun w' => Below w1.heap.size w1 w') (repeat (with_reducible (first | (refine bl_setz ?_ (by assumption) _) | exact Below.refl _ _ | assumption | refine bl_drew ?_ | refine bl_alloc ?_ _ | (refine bl_trans ?_ (by assumption))))) ((first
                  | (go_at_call 65; refine (HAT.out _ _ (by omega) (by assumption)).mono ?_; rintro e w21 ⟨rfl, b21⟩; (first | (have hz := zb_alloc (w1 := w1) (by repeat (first | exact Below.refl _ _ | assumption | apply bl_drew | apply bl_alloc | (refine bl_trans ?_ (by assumption)))) b21) | (have hz := zb_allocd (w1 := w1) (by repeat (first | exact Below.refl _ _ | assumption | apply bl_drew | apply bl_alloc | (refine bl_trans ?_ (by assumption)))) b21) | (have hz := zb_keep (w1 := w1) (by assumption) b21) | skip))
                  | (go_at_call 67; refine (HCL.out _ _ _ _ (by omega) (by first | exact .inr rfl | exact .inl rfl | (left; omega)) (by assumption)).mono ?_; rintro e w40 ⟨⟨v40, rfl, own40⟩, b40⟩; have own41 := Kd.own_flat (B' := w1.heap.size) Kd.flat_u8 own40 (Nat.le_refl _); obtain ⟨A40, c40, rfl, hx1, hx2, row40, hx3⟩ := Kd.own_row own40; (first | (have hz := zb_alloc (w1 := w1) (by repeat (first | exact Below.refl _ _ | assumption | apply bl_drew | apply bl_alloc | (refine bl_trans ?_ (by assumption)))) b40; obtain ⟨⟨z0, z1, z2, z3, z4, z5⟩, y0, y1, y2, y3, y4, y5⟩ := zb_cells hz; have hzN := hz.1) | (have hz := zb_keep (w1 := w1) (by assumption) b40; obtain ⟨⟨z0, z1, z2, z3, z4, z5⟩, y0, y1, y2, y3, y4, y5⟩ := zb_cells hz; have hzN := hz.1) | skip))))
                · show K1 _ _
                  refine hK1 _ _ (Met.intro (hJ1 _ _ ?_))
                  (repeat apply Exists.intro)
                  refine ⟨?_, rfl⟩
                  exact ⟨_, _, _, rfl, Below.size (show Below w1.heap.size w1 w40 from (by repeat (with_reducible (first | (refine bl_setz ?_ (by assumption) _) | exact Below.refl _ _ | assumption | refine bl_drew ?_ | refine bl_alloc ?_ _ | (refine bl_trans ?_ (by assumption)))))), alloc_new _ _, hx1, hx2, fun B => Kd.row_below (bl_alloc (Below.refl _ _) _) (own_rows Kd.flat_u8 own40 B), (by repeat (with_reducible (first | (refine bl_setz ?_ (by assumption) _) | exact Below.refl _ _ | assumption | refine bl_drew ?_ | refine bl_alloc ?_ _ | (refine bl_trans ?_ (by assumption)))))⟩
                all_goals
                  show K1 _ _
                  refine hK1 _ _ (Met.intro (hJ1 _ _ ?_))
                  (repeat apply Exists.intro)
                  refine ⟨?_, rfl⟩
                  exact ⟨_, _, _, rfl, hzN, zb_fill hz _ _ _ _ _ _, hx1, hx2, zb_row hz _ _ _ _ _ _ (own_rows Kd.flat_u8 own40), (by repeat (with_reducible (first | (refine bl_setz ?_ (by assumption) _) | exact Below.refl _ _ | assumption | refine bl_drew ?_ | refine bl_alloc ?_ _ | (refine bl_trans ?_ (by assumption)))))⟩
              case rest =>
                obtain ⟨N, A40, c40, rfl, hN, hblk, hx1, hx2, rowD, belc⟩ := hcut
                have hbxc : Boxed wc Bx 58 _ := block_below belc hbx1
                have kc := Boxed.cell hbxc
                have kf := Boxed.frozen hbxc
                have hBN : Bx ≠ N := by have := Boxed.lt hbx1; omega
                have hNB : N ≠ Bx := fun e => hBN e.symm
                have x0 := block_cell hblk (i := 0) rfl
                have x1 := block_cell hblk (i := 1) rfl
                have x2 := block_cell hblk (i := 2) rfl
                have x3 := block_cell hblk (i := 3) rfl
                have x4 := block_cell hblk (i := 4) rfl
                have x5 := block_cell hblk (i := 5) rfl
                gi_upto_region 9 with fail
                have hb6 : Boxed (wc.setCell ⟨Bx, 0, none⟩ (Value.slice (some ad) 0 0)) Bx 58 (Value.slice (some ad) 0 0) := Boxed.set _ hbxc
                have hJ6 : J pre (wc.setCell ⟨Bx, 0, none⟩ (Value.slice (some ad) 0 0)) := hset pre wc _ (hbel pre wr wc hJ (bl_trans b1 belc))
                have rowD6 : ∀ B, Kd.u8.Row 5 B (wc.setCell ⟨Bx, 0, none⟩ (Value.slice (some ad) 0 0)) A40 D := row_set Kd.flat_u8 hbxc (by decide) _ rowD
                have y0 := (World.cell?_setCell_far wc ⟨Bx, 0, none⟩ ⟨N, 0, none⟩ (Value.slice (some ad) 0 0) hBN).trans x0
                have y1 := (World.cell?_setCell_far wc ⟨Bx, 0, none⟩ ⟨N, 1, none⟩ (Value.slice (some ad) 0 0) hBN).trans x1
                have y2 := (World.cell?_setCell_far wc ⟨Bx, 0, none⟩ ⟨N, 2, none⟩ (Value.slice (some ad) 0 0) hBN).trans x2
                have y3 := (World.cell?_setCell_far wc ⟨Bx, 0, none⟩ ⟨N, 3, none⟩ (Value.slice (some ad) 0 0) hBN).trans x3
                have y4 := (World.cell?_setCell_far wc ⟨Bx, 0, none⟩ ⟨N, 4, none⟩ (Value.slice (some ad) 0 0) hBN).trans x4
                have y5 := (World.cell?_setCell_far wc ⟨Bx, 0, none⟩ ⟨N, 5, none⟩ (Value.slice (some ad) 0 0) hBN).trans x5
                generalize wc.setCell ⟨Bx, 0, none⟩ (Value.slice (some ad) 0 0) = W6 at *
                obtain ⟨fn, tmps, assign, body, hy, hR⟩ := hY pre ⟨(r0.toNat : Int), atI r 1, atI r 3, atI r 5, atI r 7, D⟩ A40 c40 W6 hJ6 (by omega) ⟨u8_ok r0, atI_ok _ _, atI_ok _ _, atI_ok _ _, atI_ok _ _⟩ hx1 hx2 rowD6
                unfold stepV at hy
                dsimp only at hy
                clear x0 x1 x2 x3 x4 x5 kc kf hblk hbxc belc rowD rowD6 hJ6
                gi_wp2
                refine hR.mono ?_
                rintro e W3 ⟨rfl, hJ3, hk3⟩
                have hb3 := hk3 _ hb6
                clear hk3 hb6 y0 y1 y2 y3 y4 y5
                gi_wp2
                go_roundw
                case rel =>
                  have hq := hread.out
                  rw [readAll_ok h HH.out] at hq
                  have hnil := HE.out.resolve_left (by omega)
                  refine ⟨pre ++ [⟨(r0.toNat : Int), atI r 1, atI r 3, atI r 5, atI r 7, D⟩], [], some ad, 0, hb3, by simp, by simp [maxLen], by simp, Kd.row_nil _ _ _ _ _, hJ3, Lib.hid (by rw [hq, hnil]; simp), by rw [List.length_append]; simp only [List.length_cons, List.length_nil]; omega⟩
                case measure =>
                  rw [HBL.out]
                  unfold boxLen
                  rw [Boxed.cell hb3]
                  simp only []
                  omega
            · obtain rfl : c' = 11 := by omega
              have HG := Lib.hid k4n
              clear k4n
              have q1 : (11 : Int) + (g : Int) ≤ (11 : Int) := by omega
              have q2 : (11 : Int) ≤ (11 : Int) + (g : Int) := by omega
              have q3 : (0 : Int) ≤ (11 : Int) + (g : Int) := by omega
              have qw : IntKind.i64.wrap ((11 : Int) + (g : Int)) = (11 : Int) + (g : Int) := IntWalk.i64_in _ (by omega)
              have hat : ∀ (iI : Int) (w' : World), (iI = 1 ∨ iI = 3 ∨ iI = 5 ∨ iI = 7) → Below w1.heap.size w1 w' → Calls Try.prog 65 #[.int .i64 iI, .pointer (some ⟨Bx, 0, none⟩)] w' fun e w2 => e = .returned (.int .i64 (atI r iI.toNat)) ∧ Below w'.heap.size w' w2 := fun iI w' h1 h2 => at_any r ad _ Bx iI w' B h1 h11 hrc hc' (kbox w' h2) (Kd.row_below h2 hro1)
              have hcl : ∀ (a0 : Addr) (n cc : Nat) (w' : World), n = g → (g = 0 ∨ a0 = ⟨ad.block, ad.off + 11, none⟩) → Below w1.heap.size w1 w' → Calls Try.prog 67 #[.slice (some a0) n cc] w' fun e w2 => (∃ v, e = .returned v ∧ Kd.u8.Own 5 w'.heap.size w2 w'.heap.size v D) ∧ Below w'.heap.size w' w2 := fun a0 n cc w' hn h1 h2 => by
                refine clone_u8 D a0 n cc w' B (hn.trans HDL.out.symm) (by rw [HDL.out]; omega) ?_
                rcases h1 with h1 | rfl
                · rw [show D = [] from List.eq_nil_of_length_eq_zero (by rw [HDL.out]; exact h1)]; exact Kd.row_nil _ _ _ _ _
                · exact hdat w' h2
              have HAT := Lib.hid hat
              have HCL := Lib.hid hcl
              clear hat hcl hdat
              gi_cut [5] from 57 (fun v5 w' => ∃ N A40 c40, v5 = .pointer (some ⟨N, 0, none⟩) ∧ w1.heap.size ≤ N ∧ w'.heap[N]? = some (.cells #[.int .i64 (r0.toNat : Int), .int .i64 (atI r 1), .int .i64 (atI r 3), .int .i64 (atI r 5), .int .i64 (atI r 7), .slice A40 D.length c40] 66 (0, 0)) ∧ D.length ≤ c40 ∧ c40 ≤ maxLen ∧ (∀ B, Kd.u8.Row 5 B w' A40 D) ∧ Below w1.heap.size w1 w')
              case first J1 K1 hJ1 hK1 =>
                refine wpIn_wide.2 ?_
                go_region_held3 (fun w' => Below w1.heap.size w1 w') (repeat (with_reducible (first | (refine bl_setz ?_ (by assumption) _) | exact Below.refl _ _ | assumption | refine bl_drew ?_ | refine bl_alloc ?_ _ | (refine bl_trans ?_ (by assumption))))) ((first
                  | (go_at_call 65; refine (HAT.out _ _ (by omega) (by assumption)).mono ?_; rintro e w21 ⟨rfl, b21⟩; (first | (have hz := zb_alloc (w1 := w1) (by repeat (first | exact Below.refl _ _ | assumption | apply bl_drew | apply bl_alloc | (refine bl_trans ?_ (by assumption)))) b21) | (have hz := zb_allocd (w1 := w1) (by repeat (first | exact Below.refl _ _ | assumption | apply bl_drew | apply bl_alloc | (refine bl_trans ?_ (by assumption)))) b21) | (have hz := zb_keep (w1 := w1) (by assumption) b21) | skip))
                  | (go_at_call 67; refine (HCL.out _ _ _ _ (by omega) (by first | exact .inr rfl | exact .inl rfl | (left; omega)) (by assumption)).mono ?_; rintro e w40 ⟨⟨v40, rfl, own40⟩, b40⟩; have own41 := Kd.own_flat (B' := w1.heap.size) Kd.flat_u8 own40 (Nat.le_refl _); obtain ⟨A40, c40, rfl, hx1, hx2, row40, hx3⟩ := Kd.own_row own40; (first | (have hz := zb_alloc (w1 := w1) (by repeat (first | exact Below.refl _ _ | assumption | apply bl_drew | apply bl_alloc | (refine bl_trans ?_ (by assumption)))) b40; obtain ⟨⟨z0, z1, z2, z3, z4, z5⟩, y0, y1, y2, y3, y4, y5⟩ := zb_cells hz; have hzN := hz.1) | (have hz := zb_keep (w1 := w1) (by assumption) b40; obtain ⟨⟨z0, z1, z2, z3, z4, z5⟩, y0, y1, y2, y3, y4, y5⟩ := zb_cells hz; have hzN := hz.1) | skip))))
                · show K1 _ _
                  refine hK1 _ _ (Met.intro (hJ1 _ _ ?_))
                  (repeat apply Exists.intro)
                  refine ⟨?_, rfl⟩
                  exact ⟨_, _, _, rfl, Below.size (show Below w1.heap.size w1 w40 from (by repeat (with_reducible (first | (refine bl_setz ?_ (by assumption) _) | exact Below.refl _ _ | assumption | refine bl_drew ?_ | refine bl_alloc ?_ _ | (refine bl_trans ?_ (by assumption)))))), alloc_new _ _, hx1, hx2, fun B => Kd.row_below (bl_alloc (Below.refl _ _) _) (own_rows Kd.flat_u8 own40 B), (by repeat (with_reducible (first | (refine bl_setz ?_ (by assumption) _) | exact Below.refl _ _ | assumption | refine bl_drew ?_ | refine bl_alloc ?_ _ | (refine bl_trans ?_ (by assumption)))))⟩
                all_goals
                  show K1 _ _
                  refine hK1 _ _ (Met.intro (hJ1 _ _ ?_))
                  (repeat apply Exists.intro)
                  refine ⟨?_, rfl⟩
                  exact ⟨_, _, _, rfl, hzN, zb_fill hz _ _ _ _ _ _, hx1, hx2, zb_row hz _ _ _ _ _ _ (own_rows Kd.flat_u8 own40), (by repeat (with_reducible (first | (refine bl_setz ?_ (by assumption) _) | exact Below.refl _ _ | assumption | refine bl_drew ?_ | refine bl_alloc ?_ _ | (refine bl_trans ?_ (by assumption)))))⟩
              case rest =>
                obtain rfl : g = 0 := HG.out
                obtain ⟨N, A40, c40, rfl, hN, hblk, hx1, hx2, rowD, belc⟩ := hcut
                have hbxc : Boxed wc Bx 58 _ := block_below belc hbx1
                have kc := Boxed.cell hbxc
                have kf := Boxed.frozen hbxc
                have hBN : Bx ≠ N := by have := Boxed.lt hbx1; omega
                have hNB : N ≠ Bx := fun e => hBN e.symm
                have x0 := block_cell hblk (i := 0) rfl
                have x1 := block_cell hblk (i := 1) rfl
                have x2 := block_cell hblk (i := 2) rfl
                have x3 := block_cell hblk (i := 3) rfl
                have x4 := block_cell hblk (i := 4) rfl
                have x5 := block_cell hblk (i := 5) rfl
                gi_upto_region 9 with fail
                have hb6 : Boxed (wc.setCell ⟨Bx, 0, none⟩ (Value.slice (some ad) 0 0)) Bx 58 (Value.slice (some ad) 0 0) := Boxed.set _ hbxc
                have hJ6 : J pre (wc.setCell ⟨Bx, 0, none⟩ (Value.slice (some ad) 0 0)) := hset pre wc _ (hbel pre wr wc hJ (bl_trans b1 belc))
                have rowD6 : ∀ B, Kd.u8.Row 5 B (wc.setCell ⟨Bx, 0, none⟩ (Value.slice (some ad) 0 0)) A40 D := row_set Kd.flat_u8 hbxc (by decide) _ rowD
                have y0 := (World.cell?_setCell_far wc ⟨Bx, 0, none⟩ ⟨N, 0, none⟩ (Value.slice (some ad) 0 0) hBN).trans x0
                have y1 := (World.cell?_setCell_far wc ⟨Bx, 0, none⟩ ⟨N, 1, none⟩ (Value.slice (some ad) 0 0) hBN).trans x1
                have y2 := (World.cell?_setCell_far wc ⟨Bx, 0, none⟩ ⟨N, 2, none⟩ (Value.slice (some ad) 0 0) hBN).trans x2
                have y3 := (World.cell?_setCell_far wc ⟨Bx, 0, none⟩ ⟨N, 3, none⟩ (Value.slice (some ad) 0 0) hBN).trans x3
                have y4 := (World.cell?_setCell_far wc ⟨Bx, 0, none⟩ ⟨N, 4, none⟩ (Value.slice (some ad) 0 0) hBN).trans x4
                have y5 := (World.cell?_setCell_far wc ⟨Bx, 0, none⟩ ⟨N, 5, none⟩ (Value.slice (some ad) 0 0) hBN).trans x5
                generalize wc.setCell ⟨Bx, 0, none⟩ (Value.slice (some ad) 0 0) = W6 at *
                obtain ⟨fn, tmps, assign, body, hy, hR⟩ := hY pre ⟨(r0.toNat : Int), atI r 1, atI r 3, atI r 5, atI r 7, D⟩ A40 c40 W6 hJ6 (by omega) ⟨u8_ok r0, atI_ok _ _, atI_ok _ _, atI_ok _ _, atI_ok _ _⟩ hx1 hx2 rowD6
                unfold stepV at hy
                dsimp only at hy
                clear x0 x1 x2 x3 x4 x5 kc kf hblk hbxc belc rowD rowD6 hJ6
                gi_wp2
                refine hR.mono ?_
                rintro e W3 ⟨rfl, hJ3, hk3⟩
                have hb3 := hk3 _ hb6
                clear hk3 hb6 y0 y1 y2 y3 y4 y5
                gi_wp2
                go_roundw
                case rel =>
                  have hq := hread.out
                  rw [readAll_ok h HH.out] at hq
                  have hnil := HE.out.resolve_left (by omega)
                  refine ⟨pre ++ [⟨(r0.toNat : Int), atI r 1, atI r 3, atI r 5, atI r 7, D⟩], [], some ad, 0, hb3, by simp, by simp [maxLen], by simp, Kd.row_nil _ _ _ _ _, hJ3, Lib.hid (by rw [hq, hnil]; simp), by rw [List.length_append]; simp only [List.length_cons, List.length_nil]; omega⟩
                case measure =>
                  rw [HBL.out]
                  unfold boxLen
                  rw [Boxed.cell hb3]
                  simp only []
                  omega
          · have k3n : r.length < 11 + g := by simpa using k3
            have k3I : decide ((r.length : Int) - 11 < (g : Int)) = true := by simp; omega
            gi_wp2_with ((gi_at_call 66; refine (callsIn_wide.2 HGET.out).mono ?_; rintro e w1 ⟨rfl, b1⟩; have hbx1 : Boxed w1 Bx 58 _ := block_below b1 hbx; have hcell1 := Boxed.cell hbx1; obtain ⟨fn, tmps, assign, body, hy, hR⟩ := hN pre w1 (hbel pre wr w1 hJ b1); unfold zeroS at hy))
            refine hR.mono ?_
            rintro e W3 ⟨rfl, hJx⟩
            gi_wp2
            refine bodyPost_ret (results_none rfl _ _ _) rfl ?_
            have hq := hread.out
            rw [readAll_bad h (by unfold headS; rw [hg, k1, k2, k3]; rfl)] at hq
            exact ⟨⟨_, rfl⟩, .inr ⟨by rw [hq], hJx⟩⟩
        · have k2n : 4096 < g := by simpa using k2
          have k2I : decide ((4096 : Int) < (g : Int)) = true := by simp; omega
          gi_wp2_with ((gi_at_call 66; refine (callsIn_wide.2 HGET.out).mono ?_; rintro e w1 ⟨rfl, b1⟩; have hbx1 : Boxed w1 Bx 58 _ := block_below b1 hbx; have hcell1 := Boxed.cell hbx1; obtain ⟨fn, tmps, assign, body, hy, hR⟩ := hN pre w1 (hbel pre wr w1 hJ b1); unfold zeroS at hy))
          refine hR.mono ?_
          rintro e W3 ⟨rfl, hJx⟩
          gi_wp2
          refine bodyPost_ret (results_none rfl _ _ _) rfl ?_
          have hq := hread.out
          rw [readAll_bad h (by unfold headS; rw [hg, k1, k2]; rfl)] at hq
          exact ⟨⟨_, rfl⟩, .inr ⟨by rw [hq], hJx⟩⟩
      · have h11 : r.length < 11 := by simpa using k1
        have h11I : (r.length : Int) < 11 := by omega
        obtain ⟨fn, tmps, assign, body, hy, hR⟩ := hN pre wr hJ
        unfold zeroS at hy
        gi_wp2
        refine hR.mono ?_
        rintro e W3 ⟨rfl, hJx⟩
        gi_wp2
        refine bodyPost_ret (results_none rfl _ _ _) rfl ?_
        have hq := hread.out
        rw [readAll_bad h (by unfold headS; rw [k1, if_pos rfl])] at hq
        exact ⟨⟨_, rfl⟩, .inr ⟨by rw [hq], hJx⟩⟩
end Go.Proofs.Ytflfpfaebndefab
