/- Small laws: bounds, max and min of two and of three. No claim of its own; no condition. -/
import Derived.WalkKit
import Derived.ProofKit
import Derived.OpenShut
import Derived.LoopTactic
import Derived.LoopN
import Derived.Lib.Hide
import Derived.Deep.DeepCutAuto
import Derived.Deep.CutBlock
import Derived.Deep.RegionHeld3
import Derived.Deep.QuietTactic
import Derived.BigQuiet
import Derived.IntWalk
import Derived.OwnWalk
import Derived.Laws.Cover1
import Derived.Test.YtcbfpdenjdgnlaaGreatQt03
import Derived.Test.YtcbfpdenjdgnlaaGreatQt02
import Derived.Laws.CopyRow
import Derived.Laws.CopyOwn
import Derived.Laws.BitsAllLaws
import Derived.Laws.Bits64b
namespace Go.Proofs.YtcbfpdenjdgnlaaGreat
open Go.ChangeShapes Go.WideShapes Go.ChangeAt Go.RowKit
set_option linter.unusedVariables false
theorem ret_int {k : IntKind} {a b : Int} (h : a = b) : Ending.returned (.int k a) = .returned (.int k b) := by rw [h]
theorem int_bd {a : Int} (h : (Lit.int .i64 a).wf = true) : -9223372036854775808 ≤ a ∧ a ≤ 9223372036854775807 := by
  simpa [Lit.wf, IntKind.min, IntKind.max, IntKind.signed, IntKind.bits] using h
theorem run_max2 {P : Program} {w : World} (ts : Array TypeId) (t : TypeId) (k k' : IntKind) (x y : Int) : (Builtin.max_ ts t #[.int k x, .int k' y]).run P w = .ok (.int k (max x y)) w := by
  rw [run_max_int2]
  congr 2
  split <;> omega
theorem run_min2 {P : Program} {w : World} (ts : Array TypeId) (t : TypeId) (k k' : IntKind) (x y : Int) : (Builtin.min_ ts t #[.int k x, .int k' y]).run P w = .ok (.int k (min x y)) w := by
  simp [Builtin.min_, Builtin.min2]
  split <;> omega
end Go.Proofs.YtcbfpdenjdgnlaaGreat
/- Words: rows that were just built. No claim of its own; no condition. -/
namespace Go.Proofs.YtcbfpdenjdgnlaaGreat
open Go.ChangeShapes Go.WideShapes Go.ChangeAt Go.RowKit
set_option linter.unusedVariables false
theorem Kd.row_fresh {α : Type} {d : Kd α} {e : TypeId} {B : Nat} {w W : World} {xs : List α} {cs : Array Value} (hW : W = w.alloc (.cells cs e)) (h : Kd.Reps d B W xs cs.toList) :
    d.Row e B W (some ⟨w.heap.size, 0, none⟩) xs := by
  intro hne
  have hb : W.heap[w.heap.size]? = some (.cells cs e) := by rw [hW]; exact alloc_new w _
  refine ⟨_, rfl, ⟨blk_lt hb, .inr ⟨_, _, _, hb, List.mem_cons_self⟩⟩, fun i x hi => ?_⟩
  obtain ⟨c, h1, h2⟩ := h.get hi
  refine ⟨c, h1, fun j u hu => ?_⟩
  have h3 := h2 j u hu
  have h4 : (⟨w.heap.size, 0, none⟩ : Addr).add (i * d.sz + j) = ⟨w.heap.size, i * d.sz + j, none⟩ := by
    unfold Addr.add
    split
    · rename_i h0; rw [h0]
    · simp
  rw [h4]
  show World.cell? W _ = _
  simp only [World.cell?, hb]
  simpa using h3
theorem Kd.row_fresh1 {α : Type} {d : Kd α} {e : TypeId} {B : Nat} {w : World} {x : α} {cs : Array Value} (h : d.K B (w.alloc (.cells cs e)) x cs.toList) :
    d.Row e B (w.alloc (.cells cs e)) (some ⟨w.heap.size, 0, none⟩) [x] := Kd.row_fresh rfl (Kd.Reps.one h)
end Go.Proofs.YtcbfpdenjdgnlaaGreat
/- 'copy' and 'make' of rows whose elements are of several cells. No claim of its own; no condition. -/
namespace Go.Proofs.YtcbfpdenjdgnlaaGreat
open Go.ChangeShapes Go.WideShapes Go.ChangeAt Go.RowKit
set_option linter.unusedVariables false
set_option linter.unusedSimpArgs false

theorem run_copy_rowN {P : Program} (w : World) (dT sT ty elem : TypeId) (sz g o dLen dCap : Nat) (a : Addr) (sLen sCap : Nat) (cur : Array Value) (t : TypeId) (cs : List Value)
    (hu : P.underlying dT = some (.slice elem)) (hs : (P.info? elem).map (·.size) = some sz)
    (hg : w.heap[g]? = some (.cells cur t (0, 0))) (hn : cs.length = Nat.min sLen dLen * sz)
    (hsrc : ∀ j v, cs[j]? = some v → w.cell? (a.add j) = some v) (hfit : o + cs.length ≤ cur.size) (h1 : ∀ v ∈ cs, v.oneCell' = true) :
    (Builtin.copy_ #[dT, sT] ty #[.slice (some ⟨g, o, none⟩) dLen dCap, .slice (some a) sLen sCap]).run P w =
      .ok (goInt (Nat.min sLen dLen)) (w.setRow g (cur.toList.take o ++ cs ++ cur.toList.drop (o + cs.length)).toArray) := by
  have hl := run_loadCells_list (P := P) w a cs hsrc
  have hst := run_storeCells_at P g o t cs 0 cur w hg (by simpa using hfit) h1
  cases hq : P.info? elem with
  | none => simp [hq] at hs
  | some i =>
    have hi : i.size = sz := by simpa [hq] using hs
    simp [Builtin.copy_, run_underlying hu, Builtin.lenOf, Builtin.firstCells, sizeOf, typeInfo, hq, hi, ← hn, hl, hst]
theorem run_copy_noneN {P : Program} (w : World) (dT sT ty elem : TypeId) (d a : Option Addr) (dLen dCap sLen sCap : Nat) (hu : P.underlying dT = some (.slice elem)) (hs : ((P.info? elem).map (·.size)).isSome = true) (hn : Nat.min sLen dLen = 0) :
    (Builtin.copy_ #[dT, sT] ty #[.slice d dLen dCap, .slice a sLen sCap]).run P w = .ok (goInt 0) w := by
  cases hq : P.info? elem with
  | none => simp [hq] at hs
  | some i =>
    have hl : ∀ (x : Addr), (loadCells x 0).run P w = .ok #[] w := fun x => by simpa using run_loadCells_list (P := P) w x [] (by simp)
    cases d <;> cases a <;> simp [Builtin.copy_, run_underlying hu, Builtin.lenOf, Builtin.firstCells, sizeOf, typeInfo, hq, hn, storeCells, hl]
/-- 'copy(out, l)', out as long as l and the call's own: out is l. -/
theorem run_copy_own {P : Program} {α : Type} (w : World) (d : Kd α) (dT sT ty elem : TypeId) (base B B' g n c : Nat) (A : Option Addr) (l : List α) (cur : Array Value)
    (hu : P.underlying dT = some (.slice elem)) (hs : (P.info? elem).map (·.size) = some d.sz) (hg : w.heap[g]? = some (.cells cur elem (0, 0))) (hcur : cur.size = n * d.sz) (hn : n = l.length)
    (hr : d.Row elem B' w A l) (hm : n ≤ maxLen) (hb : base ≤ g) :
    ∃ w' cs, (Builtin.copy_ #[dT, sT] ty #[.slice (some ⟨g, 0, none⟩) n n, .slice A n c]).run P w = .ok (goInt n) w' ∧ Kd.Reps d B' w l cs ∧ w'.heap[g]? = some (.cells cs.toArray elem (0, 0)) ∧ w.grownBy w' (some g) := by
  subst hn
  cases l with
  | nil =>
    refine ⟨w, [], ?_, .nil, ?_, World.grownBy.refl w _⟩
    · exact run_copy_noneN w dT sT ty elem _ A 0 0 0 c hu (by rw [hs]; rfl) rfl
    · have : cur = #[] := by
        have : cur.size = 0 := by simpa using hcur
        exact Array.eq_empty_of_size_eq_zero this
      rw [hg, this]
  | cons x xs =>
    obtain ⟨ad, rfl, _, h3⟩ := hr (by simp)
    obtain ⟨cs, h1, h2⟩ := Kd.Reps.mk h3
    have hl : cs.length = (x :: xs).length * d.sz := h1.len
    have hr := run_copy_rowN (P := P) w dT sT ty elem d.sz g 0 (x :: xs).length (x :: xs).length ad (x :: xs).length c cur elem cs hu hs hg (by rw [hl]; simp) h2 (by rw [hl, hcur]; omega) h1.oneCell
    have e : cur.toList.take 0 ++ cs ++ cur.toList.drop (0 + cs.length) = cs := by
      rw [List.drop_of_length_le (by rw [hl, Nat.zero_add, ← hcur]; simp)]
      simp
    rw [e] at hr
    refine ⟨_, cs, by rw [hr]; simp, h1, setRow_heap w g cur _ elem _ hg, ⟨rfl, rfl, rfl, by simp [World.setRow], fun k hk hne => setRow_other w g k _ (fun h => hne (by rw [h]))⟩⟩
/-- A row of the call's own, from its block. -/
theorem own_of_block {α : Type} {d : Kd α} {e : TypeId} {B base g n : Nat} {w : World} {xs : List α} {cs : List Value} (hb : w.heap[g]? = some (.cells cs.toArray e (0, 0))) (hr : Kd.Reps d B w xs cs) (hg : base ≤ g) (hn : n = xs.length) (hm : n ≤ maxLen) :
    d.Own e B w base (.slice (some ⟨g, 0, none⟩) n n) xs := by
  subst hn
  exact ⟨cs, ⟨hr.len, .inr ⟨g, xs.length, cs.toArray, rfl, hg, hb, Nat.le_refl _, hm, by simp [hr.len], by rw [← hr.len]; simp⟩⟩, hr⟩
theorem block_of_own {w : World} {base n g : Nat} {e : TypeId} {size : Nat} {cs : List Value} (h : w.ownsRow base e size (.slice (some ⟨g, 0, none⟩) n n) n cs) :
    ∃ cur, w.heap[g]? = some (.cells cur e (0, 0)) ∧ cur.size = n * size ∧ base ≤ g := by
  rcases h.2 with ⟨h', _⟩ | ⟨g', cap, cur, h', hb, hh, _, _, hs, _⟩
  · simp at h'
  · simp only [Value.slice.injEq, Option.some.injEq, Addr.mk.injEq, and_true, true_and] at h'
    obtain ⟨rfl, rfl⟩ := h'
    exact ⟨cur, hh, hs, hb⟩
end Go.Proofs.YtcbfpdenjdgnlaaGreat
/- Words: kinds whose cells say all (flat kinds); rows of the call's own, as blocks. No claim of its own; no condition. -/
namespace Go.Proofs.YtcbfpdenjdgnlaaGreat
open Go.ChangeShapes Go.WideShapes Go.ChangeAt Go.RowKit
set_option linter.unusedVariables false
namespace Kd
variable {α β : Type}
/-- What the cells are says all: no memory behind them. -/
def Flat (d : Kd α) : Prop := ∀ (B B' : Nat) (w w' : World) (x : α) (cs : List Value), d.K B w x cs → d.K B' w' x cs
theorem flat_int : Flat Kd.int := fun _ _ _ _ _ _ h => h
theorem flat_u8 : Flat Kd.u8 := fun _ _ _ _ _ _ h => h
theorem flat_bool : Flat Kd.bool := fun _ _ _ _ _ _ h => h
theorem flat_str : Flat Kd.str := fun _ _ _ _ _ _ h => h
theorem flat_pair {a : Kd α} {b : Kd β} (ha : a.Flat) (hb : b.Flat) : (a.pair b).Flat := by
  rintro B B' w w' x cs ⟨c0, c1, rfl, h0, h1⟩
  exact ⟨c0, c1, rfl, ha _ _ _ _ _ _ h0, hb _ _ _ _ _ _ h1⟩
theorem flat_iso {a : Kd α} {f : β → α} (ha : a.Flat) : (a.iso f).Flat := fun _ _ _ _ _ _ h => ha _ _ _ _ _ _ h
theorem Reps.flat {d : Kd α} (hf : d.Flat) {B B' : Nat} {w w' : World} {xs : List α} {cs : List Value} (h : Reps d B w xs cs) : Reps d B' w' xs cs := by
  induction h with
  | nil => exact .nil
  | cons hc _ ih => exact .cons (hf _ _ _ _ _ _ hc) ih
theorem row_flat {d : Kd α} (hf : d.Flat) {e : TypeId} {B B' : Nat} {w : World} {A : Option Addr} {xs : List α} (h : d.Row e B w A xs) (hB : w.heap.size ≤ B') : d.Row e B' w A xs := by
  intro hne
  obtain ⟨ad, rfl, hb, hx⟩ := h hne
  refine ⟨ad, rfl, ⟨hb.1, .inl (by have := hb.1; omega)⟩, fun i x hi => ?_⟩
  obtain ⟨cs, hK, hc⟩ := hx i x hi
  exact ⟨cs, hf _ _ _ _ _ _ hK, hc⟩
theorem own_flat {d : Kd α} (hf : d.Flat) {e : TypeId} {B B' base base' : Nat} {w : World} {v : Value} {xs : List α} (h : d.Own e B w base v xs) (hb : base' ≤ base) : d.Own e B' w base' v xs := by
  obtain ⟨cs, ho, hr⟩ := h
  refine ⟨cs, ⟨ho.1, ?_⟩, hr.flat hf⟩
  rcases ho.2 with h | ⟨g, cap, cur, h1, h2, h3⟩
  · exact .inl h
  · exact .inr ⟨g, cap, cur, h1, Nat.le_trans hb h2, h3⟩
/-- A row of the call's own that is not empty, as its block. -/
theorem own_form {d : Kd α} {e : TypeId} {B base : Nat} {w : World} {v : Value} {xs : List α} (h : d.Own e B w base v xs) (hne : xs ≠ []) :
    ∃ g c cs Z, v = .slice (some ⟨g, 0, none⟩) xs.length c ∧ base ≤ g ∧ w.heap[g]? = some (.cells (cs ++ Z).toArray e (0, 0)) ∧ Reps d B w xs cs ∧ xs.length ≤ c ∧ c ≤ maxLen ∧ (cs ++ Z).length = c * d.sz := by
  obtain ⟨cs, ho, hr⟩ := h
  rcases ho.2 with ⟨_, h⟩ | ⟨g, cap, cur, h1, h2, h3, h4, h5, h6, h7⟩
  · exact absurd (List.eq_nil_of_length_eq_zero h) hne
  · have e1 : cs ++ cur.toList.drop (xs.length * d.sz) = cur.toList := by rw [← h7]; exact List.take_append_drop _ _
    exact ⟨g, cap, cs, cur.toList.drop (xs.length * d.sz), h1, h2, by rw [e1]; exact h3, hr, h4, h5, by rw [e1]; simpa using h6⟩
theorem own_of_form {d : Kd α} {e : TypeId} {B base g n c : Nat} {w : World} {xs : List α} {cs Z : List Value} (hb : w.heap[g]? = some (.cells (cs ++ Z).toArray e (0, 0))) (hr : Reps d B w xs cs) (hg : base ≤ g) (hn : n = xs.length) (hc : n ≤ c) (hm : c ≤ maxLen)
    (hz : (cs ++ Z).length = c * d.sz) : d.Own e B w base (.slice (some ⟨g, 0, none⟩) n c) xs := by
  subst hn
  refine ⟨cs, ⟨hr.len, .inr ⟨g, c, (cs ++ Z).toArray, rfl, hg, hb, hc, hm, by simpa using hz, ?_⟩⟩, hr⟩
  rw [← hr.len]
  simp
/-- 'make([]T, 0)' and '[]T{}': a row of nothing in a block of its own. -/
theorem own_empty {d : Kd α} {e : TypeId} {B base : Nat} {w : World} (hb : base ≤ w.heap.size) : d.Own e B (w.alloc (.cells #[] e)) base (.slice (some ⟨w.heap.size, 0, none⟩) 0 0) [] :=
  ⟨[], World.ownsRow_made w #[] 0 hb (by simp [maxLen]) (by simp), .nil⟩
end Kd
theorem set_blockZ {w : World} {G : Nat} {cs Z : List Value} {e : TypeId} (h : w.heap[G]? = some (.cells (cs ++ Z).toArray e (0, 0))) (j : Nat) (hj : j < cs.length) (u : Value) : (w.setCell ⟨G, j, none⟩ u).heap[G]? = some (.cells (cs.set j u ++ Z).toArray e (0, 0)) := by
  rw [heap_setCell_same w G j (cs ++ Z).toArray e u h]
  simp [List.set_append_left _ _ hj]
end Go.Proofs.YtcbfpdenjdgnlaaGreat
/- Package sha: words of 32 bits, and what turns them. No claim of its own; no condition. -/
namespace Go.Proofs.YtcbfpdenjdgnlaaGreat
open Go.ChangeShapes Go.WideShapes Go.ChangeAt Go.RowKit
set_option linter.unusedVariables false
set_option linter.unusedSimpArgs false
/-- A word as the model has it. -/
def tn (x : UInt32) : Int := (x.toNat : Int)
theorem tn_bd (x : UInt32) : 0 ≤ tn x ∧ tn x < 4294967296 := by have := x.toNat_lt; unfold tn; omega
theorem tn_inj {x y : UInt32} (h : tn x = tn y) : x = y := UInt32.toNat_inj.1 (by unfold tn at h; omega)
theorem tn_of (n : Nat) : tn (UInt32.ofNat n) = ((n % 4294967296 : Nat) : Int) := by unfold tn; simp
theorem wrap_nat (n : Nat) : IntKind.u32.wrap (n : Int) = ((n % 4294967296 : Nat) : Int) := by
  simp [IntKind.wrap, IntKind.bits, IntKind.signed]
theorem wrap_tn (x : UInt32) : IntKind.u32.wrap (tn x) = tn x := by
  unfold tn
  rw [wrap_nat, Nat.mod_eq_of_lt x.toNat_lt]
theorem of_tn (x : UInt32) : BitVec.ofInt 32 (tn x) = x.toBitVec := by
  apply BitVec.eq_of_toNat_eq
  have := x.toNat_lt
  unfold tn
  simp
theorem b_xor (x y : UInt32) : bits .xor .u32 (tn x) (tn y) = tn (x ^^^ y) := by
  show IntKind.u32.wrap ((BitVec.ofInt 32 (tn x) ^^^ BitVec.ofInt 32 (tn y)).toNat : Int) = _
  rw [of_tn, of_tn]
  exact wrap_tn (x ^^^ y)
theorem b_and (x y : UInt32) : bits .and .u32 (tn x) (tn y) = tn (x &&& y) := by
  show IntKind.u32.wrap ((BitVec.ofInt 32 (tn x) &&& BitVec.ofInt 32 (tn y)).toNat : Int) = _
  rw [of_tn, of_tn]
  exact wrap_tn (x &&& y)
theorem b_or (x y : UInt32) : bits .or .u32 (tn x) (tn y) = tn (x ||| y) := by
  show IntKind.u32.wrap ((BitVec.ofInt 32 (tn x) ||| BitVec.ofInt 32 (tn y)).toNat : Int) = _
  rw [of_tn, of_tn]
  exact wrap_tn (x ||| y)
theorem b_add' (x y : UInt32) : (tn x + tn y) % 4294967296 = tn (x + y) := by
  have h : tn (x + y) = (((x.toNat + y.toNat) % 2 ^ 32 : Nat) : Int) := by unfold tn; rw [UInt32.toNat_add]
  rw [h]
  unfold tn
  omega
theorem b_not (x : UInt32) : bits .xor .u32 4294967295 (tn x) = tn (~~~x) := by
  have h := b_xor 4294967295 x
  rw [show tn 4294967295 = 4294967295 from rfl] at h
  rw [h]
  congr 1
theorem b_add (x y : UInt32) : IntKind.u32.wrap (tn x + tn y) = tn (x + y) := by
  unfold tn
  rw [← Int.natCast_add, wrap_nat, UInt32.toNat_add]
/-- Turned right. -/
def rotr (x : UInt32) (n : Nat) : UInt32 := UInt32.ofNat (x.toNat / 2 ^ n) ||| UInt32.ofNat (x.toNat * 2 ^ (32 - n))
def shr (x : UInt32) (n : Nat) : UInt32 := UInt32.ofNat (x.toNat / 2 ^ n)
theorem tn_div (x : UInt32) (n : Nat) : tn x / 2 ^ n = tn (shr x n) := by
  have h := x.toNat_lt
  unfold shr
  rw [tn_of]
  unfold tn
  have h2 : x.toNat / 2 ^ n ≤ x.toNat := Nat.div_le_self _ _
  rw [Nat.mod_eq_of_lt (by omega)]
  simp
theorem tn_shl (x : UInt32) (n : Nat) : IntKind.u32.wrap (tn x * 2 ^ n) = tn (UInt32.ofNat (x.toNat * 2 ^ n)) := by
  rw [tn_of, ← wrap_nat]
  unfold tn
  simp
theorem tn_shl' (x : UInt32) (n : Nat) : tn x * 2 ^ n % 4294967296 = tn (UInt32.ofNat (x.toNat * 2 ^ n)) := by
  rw [tn_of]
  unfold tn
  rw [show (x.toNat : Int) * 2 ^ n = ((x.toNat * 2 ^ n : Nat) : Int) by simp]
  omega
theorem rotr_eq (x : UInt32) (n : Nat) : bits .or .u32 (tn x / 2 ^ n) (IntKind.u32.wrap (tn x * 2 ^ (32 - n))) = tn (rotr x n) := by
  rw [tn_div, tn_shl, b_or]
  rfl
theorem rotr_eq' (x : UInt32) (n : Nat) : bits .or .u32 (IntKind.u32.wrap (tn x * 2 ^ (32 - n))) (tn x / 2 ^ n) = tn (rotr x n) := by
  rw [tn_div, tn_shl, b_or, UInt32.or_comm]
  rfl
theorem neg_and (n : Nat) (h1 : 1 ≤ n) (h2 : n ≤ 31) : bits .and .u64 (IntKind.u64.wrap (-(n : Int))) 31 = ((32 - n : Nat) : Int) := by
  have key : ∀ n : Fin 32, 1 ≤ n.val → bits .and .u64 (IntKind.u64.wrap (-(n.val : Int))) 31 = ((32 - n.val : Nat) : Int) := by decide +kernel
  exact key ⟨n, by omega⟩ h1
theorem rotate_calls (x : UInt32) (n : Nat) (h1 : 1 ≤ n) (h2 : n ≤ 31) (w : World) :
    Calls Tryz.prog 281 #[.int .u32 (tn x), .int .i64 (-(n : Int))] w fun e w' => e = .returned (.int .u32 (tn (rotr x n))) ∧ w = w' := by
  have ha := neg_and n h1 h2
  have hn : (0 : Int) ≤ ((32 - n : Nat) : Int) := by omega
  have hn2 : (0 : Int) ≤ 32 - ((32 - n : Nat) : Int) := by omega
  go_enter Tryz.func281, Tryz.ntmps281
  go_wp2_with fail
  go_ret
  refine ⟨ret_int ?_, rfl⟩
  show bits .or .u32 (tn x * 2 ^ (32 - n) % 4294967296) (tn x / 2 ^ (32 - (32 - n))) = _
  rw [show 32 - (32 - n) = n by omega, tn_shl', tn_div, b_or, UInt32.or_comm]
  rfl
theorem right_calls (x : UInt32) (n : Nat) (h1 : 1 ≤ n) (h2 : n ≤ 31) (w : World) :
    Calls Tryz.prog 267 #[.int .u32 (tn x), .int .i64 (n : Int)] w fun e w' => e = .returned (.int .u32 (tn (rotr x n))) ∧ w = w' := by
  go_enter Tryz.func267, Tryz.ntmps267
  go_wp2_with (go_at_call 281; refine (rotate_calls x n h1 h2 _).mono ?_; rintro e w' ⟨rfl, rfl⟩)
  go_ret
  exact ⟨rfl, rfl⟩
theorem turn_calls (x : UInt32) (n : Nat) (h1 : 1 ≤ n) (h2 : n ≤ 31) (w : World) :
    Calls Tryz.prog 161 #[.int .u32 (tn x), .int .u64 (n : Int)] w fun e w' => e = .returned (.int .u32 (tn (rotr x n))) ∧ w = w' := by
  have hn2 : (0 : Int) ≤ 32 - (n : Int) := by omega
  go_enter Tryz.func161, Tryz.ntmps161
  go_wp2_with fail
  go_ret
  refine ⟨ret_int ?_, rfl⟩
  show bits .or .u32 (tn x / 2 ^ n) (tn x * 2 ^ (32 - n) % 4294967296) = _
  rw [tn_shl', tn_div, b_or]
  rfl
end Go.Proofs.YtcbfpdenjdgnlaaGreat
/- Package sha: a word out of octets. No claim of its own; no condition. -/
namespace Go.Proofs.YtcbfpdenjdgnlaaGreat
open Go.ChangeShapes Go.WideShapes Go.ChangeAt Go.RowKit
set_option linter.unusedVariables false
set_option linter.unusedSimpArgs false
theorem u8_at {e : TypeId} {B : Nat} {w : World} {A : Option Addr} {xs : List UInt8} (h : Kd.u8.Row e B w A xs) {i : Nat} {x : UInt8} (hx : xs[i]? = some x) : ∃ ad, A = some ad ∧ w.cell? (ad.add i) = some (.int .u8 (x.toNat : Int)) := by
  obtain ⟨ad, cs, h1, _, hK, hc⟩ := Kd.row_at h hx
  obtain rfl : cs = [.int .u8 (x.toNat : Int)] := hK
  refine ⟨ad, h1, ?_⟩
  have := hc 0 _ rfl
  have e1 : Kd.u8.sz = 1 := rfl
  rw [e1] at this
  simpa using this
/-- An octet as a word. -/
def w8 (x : UInt8) : UInt32 := UInt32.ofNat x.toNat
theorem tn_w8 (x : UInt8) : tn (w8 x) = (x.toNat : Int) := by
  have := x.toNat_lt
  unfold w8
  rw [tn_of]
  omega
/-- So many of a word's octets, from a place on. -/
def beG (b : List UInt8) (a : Nat) : Nat → UInt32
  | 0 => 0
  | k + 1 => UInt32.ofNat ((beG b a k).toNat * 256) ||| w8 (b.getD (a + k) 0)
def beW (b : List UInt8) (a : Nat) : UInt32 := beG b a 4
theorem shl8 (x : UInt32) : tn x * 256 % 4294967296 = tn (UInt32.ofNat (x.toNat * 256)) := tn_shl' x 8
theorem w8_mod (x : UInt8) : (x.toNat : Int) % 4294967296 = tn (w8 x) := by
  have := x.toNat_lt
  rw [tn_w8]
  omega
theorem word_step (u : UInt32) (x : UInt8) : bits .or .u32 (tn u * 256 % 4294967296) ((x.toNat : Int) % 4294967296) = tn (UInt32.ofNat (u.toNat * 256) ||| w8 x) := by
  rw [shl8, w8_mod, b_or]
set_option maxHeartbeats 1600000 in
set_option maxRecDepth 100000 in
theorem word_calls (b : List UInt8) (A : Option Addr) (n c a : Nat) (w : World) (B : Nat) (hn : n = b.length) (ha : a + 4 ≤ b.length) (hl : b.length ≤ 4194304) (hr : Kd.u8.Row 5 B w A b) :
    Calls Tryz.prog 280 #[.slice A n c, .int .i64 (a : Int)] w fun e w' => e = .returned (.int .u32 (tn (beW b a))) ∧ Below w.heap.size w w' := by
  subst hn
  go_enter Tryz.func280, Tryz.ntmps280
  go_wp2_with fail
  go_loopw [5, 7] (fun wv kv w' => ∃ k : Nat, k ≤ 4 ∧ kv = .int .i64 k ∧ wv = .int .u32 (tn (beG b a k)) ∧ Below w.heap.size w w') (fun _ kv _ => 4 - (intOf kv).toNat)
  case atStart => exact ⟨0, by omega, rfl, rfl, Below.refl _ _⟩
  case round =>
    obtain ⟨k, h1, rfl, rfl, bel⟩ := hrel
    by_cases h : k < 4
    · obtain ⟨x, hx⟩ : ∃ x, b[a + k]? = some x := ⟨_, List.getElem?_eq_getElem (by omega)⟩
      obtain ⟨ad, rfl, e0⟩ := u8_at (Kd.row_below bel hr) hx
      have hkI : (k : Int) < 4 := by omega
      have hg : (a : Int) < (b.length : Int) - (k : Int) := by omega
      have hi : (a : Int) + (k : Int) < (b.length : Int) := by omega
      have hd : beG b a (k + 1) = UInt32.ofNat ((beG b a k).toNat * 256) ||| w8 x := by
        show _ ||| w8 (b.getD (a + k) 0) = _
        rw [List.getD_eq_getElem?_getD, hx]
        rfl
      have HD := Lib.hid hd
      generalize beG b a k = u at *
      clear hd hx
      go_wp2_with fail
      go_roundw
      case rel => exact ⟨k + 1, by omega, by go_num, by rw [HD.out, word_step], bel⟩
      case measure => simp [intOf]; omega
    · have hk : k = 4 := by omega
      subst hk
      have hkI : ¬ (((4 : Nat) : Int) < 4) := by omega
      go_wp2_with fail
      go_ret
      exact ⟨rfl, bel⟩
end Go.Proofs.YtcbfpdenjdgnlaaGreat
