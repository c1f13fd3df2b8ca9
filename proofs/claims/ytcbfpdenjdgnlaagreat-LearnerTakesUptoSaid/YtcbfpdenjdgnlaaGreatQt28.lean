/- slices.Equal at statements and transactions. No claim of its own; no condition. Printed by a program of this session. -/
import Derived.Test.YtcbfpdenjdgnlaaGreatQt27
import Derived.Shelf.Strings.Repeat
import Derived.Test.YtcbfpdenjdgnlaaGreatQt03
import Derived.Test.YtcbfpdenjdgnlaaGreatQt04
import Derived.Sort.Statements
import Derived.Shelf.SlSortCmp.WholeK
namespace Go.Proofs.YtcbfpdenjdgnlaaGreat
open Go.ChangeShapes Go.WideShapes Go.ChangeAt Go.RowKit
set_option linter.unusedVariables false
set_option linter.unusedSimpArgs false
set_option maxHeartbeats 1600000 in
set_option maxRecDepth 100000 in
theorem equal_kVote (xs ys : List Vote) (A1 A2 : Option Addr) (n1 c1 n2 c2 B1 B2 : Nat) (w : World) (hn1 : n1 = xs.length) (hn2 : n2 = ys.length) (hl : xs.length ≤ 2097152) (hl2 : ys.length ≤ 2097152) (hr1 : kVote.Row 52 B1 w A1 xs) (hr2 : kVote.Row 52 B2 w A2 ys) :
    Calls Tryz.prog 219 #[.slice A1 n1 c1, .slice A2 n2 c2] w fun e w' => e = .returned (.bool (decide (xs = ys))) ∧ Below w.heap.size w w' := by
  by_cases hne : n1 = n2
  case neg =>
    have hd : decide (xs = ys) = false := decide_eq_false (by rintro rfl; omega)
    rw [hd]
    have b1 : (n1 == n2) = false := by simpa using hne
    have b2 : decide (n1 = n2) = false := decide_eq_false hne
    clear hr1 hr2 hd hn1 hn2
    go_enter Tryz.func219, Tryz.ntmps219
    go_wp2_with fail
    go_ret
    exact ⟨rfl, Below.refl _ _⟩
  case pos =>
    subst hne
    have HN1 := Lib.hid hn1
    have HN2 := Lib.hid hn2
    have HL := Lib.hid (show n1 ≤ 2097152 by omega)
    have HR1 := Lib.hid hr1
    have HR2 := Lib.hid hr2
    obtain ⟨d, hd⟩ : ∃ d, decide (xs = ys) = d := ⟨_, rfl⟩
    rw [hd]
    have HD := Lib.hid hd
    clear hn1 hn2 hr1 hr2 hl hl2 hd
    go_enter Tryz.func219, Tryz.ntmps219
    go_upto_region 4 with fail
    go_loopw [13] (fun kv w' => ∃ k : Nat, k ≤ n1 ∧ kv = .int .i64 k ∧ xs.take k = ys.take k ∧ Below w.heap.size w w') (fun kv _ => n1 - (intOf kv).toNat)
    case atStart => exact ⟨0, Nat.zero_le _, rfl, rfl, Below.refl _ _⟩
    case round =>
      obtain ⟨k, hk, rfl, htk, bel⟩ := hrel
      rename World => wr
      by_cases hlt : k < n1
      case neg =>
        obtain rfl : k = n1 := by omega
        have hb : decide (k < k) = false := by simp
        have hdt : d = true := by
          rw [← HD.out]
          refine decide_eq_true ?_
          rw [HN1.out] at htk
          rw [List.take_length, ← HN1.out, HN2.out, List.take_length] at htk
          exact htk
        subst hdt
        clear htk
        go_wp2_with fail
        go_ret
        exact ⟨rfl, bel⟩
      case pos =>
        have hx1 : k < xs.length := by have := HN1.out; omega
        have hx2 : k < ys.length := by have := HN2.out; omega
        obtain ⟨x, hx⟩ : ∃ x, xs[k]? = some x := ⟨_, List.getElem?_eq_getElem hx1⟩
        obtain ⟨y, hy⟩ : ∃ y, ys[k]? = some y := ⟨_, List.getElem?_eq_getElem hx2⟩
        obtain ⟨ad1, rfl, e0, e1, e2, e3, e4, e5, e6, _⟩ := kVote_at (Kd.row_below bel HR1.out) hx
        obtain ⟨ad2, rfl, f0, f1, f2, f3, f4, f5, f6, _⟩ := kVote_at (Kd.row_below bel HR2.out) hy
        have hb : decide (k < n1) = true := decide_eq_true hlt
        have hkI : (k : Int) < (n1 : Int) := by omega
        have hk0 : (0 : Int) ≤ (k : Int) := by omega
        have hkb : k < 2097152 := by have := HL.out; omega
        have HKN := Lib.hid hlt
        have hq0 := fun W => neqVote x y W
        have HX := Lib.hid hx
        have HY := Lib.hid hy
        have HTK := Lib.hid htk
        clear hx hy hx1 hx2 htk hk
        by_cases hxy : x = y
        · subst hxy
          have hq : ∀ W, (binOp .neq 52 (.agg #[.int .i64 x.kind, .int .i64 x.view, .int .i64 x.height, .string x.block, .int .i64 x.ticks, .int .i64 x.signer, .string x.sig]) (.agg #[.int .i64 x.kind, .int .i64 x.view, .int .i64 x.height, .string x.block, .int .i64 x.ticks, .int .i64 x.signer, .string x.sig])).run Tryz.prog W = .ok (.bool false) W := fun W => by rw [hq0, decide_eq_true rfl]; rfl
          clear hq0
          go_upto_region 6 with fail
          go_quiet (fail)
          go_wp2_with fail
          go_roundw
          case rel => exact ⟨k + 1, by have := HKN.out; omega, by go_num, by rw [List.take_add_one, List.take_add_one, HX.out, HY.out, HTK.out], bl_drewN bel _⟩
          case measure => have := HKN.out; simp [intOf]; omega
        · have hq : ∀ W, (binOp .neq 52 (.agg #[.int .i64 x.kind, .int .i64 x.view, .int .i64 x.height, .string x.block, .int .i64 x.ticks, .int .i64 x.signer, .string x.sig]) (.agg #[.int .i64 y.kind, .int .i64 y.view, .int .i64 y.height, .string y.block, .int .i64 y.ticks, .int .i64 y.signer, .string y.sig])).run Tryz.prog W = .ok (.bool true) W := fun W => by rw [hq0, decide_eq_false hxy]; rfl
          clear hq0
          have hdt : d = false := by
            rw [← HD.out]
            refine decide_eq_false ?_
            intro e
            have h1 := HX.out
            rw [e, HY.out] at h1
            cases h1
            exact hxy rfl
          subst hdt
          clear hxy
          go_upto_region 6 with fail
          go_quiet (fail)
          go_wp2_with fail
          go_ret
          exact ⟨rfl, bl_drewN bel _⟩

set_option maxHeartbeats 1600000 in
set_option maxRecDepth 100000 in
theorem equal_kTx (xs ys : List Tx) (A1 A2 : Option Addr) (n1 c1 n2 c2 B1 B2 : Nat) (w : World) (hn1 : n1 = xs.length) (hn2 : n2 = ys.length) (hl : xs.length ≤ 2097152) (hl2 : ys.length ≤ 2097152) (hr1 : kTx.Row 77 B1 w A1 xs) (hr2 : kTx.Row 77 B2 w A2 ys) :
    Calls Tryz.prog 260 #[.slice A1 n1 c1, .slice A2 n2 c2] w fun e w' => e = .returned (.bool (decide (xs = ys))) ∧ Below w.heap.size w w' := by
  by_cases hne : n1 = n2
  case neg =>
    have hd : decide (xs = ys) = false := decide_eq_false (by rintro rfl; omega)
    rw [hd]
    have b1 : (n1 == n2) = false := by simpa using hne
    have b2 : decide (n1 = n2) = false := decide_eq_false hne
    clear hr1 hr2 hd hn1 hn2
    go_enter Tryz.func260, Tryz.ntmps260
    go_wp2_with fail
    go_ret
    exact ⟨rfl, Below.refl _ _⟩
  case pos =>
    subst hne
    have HN1 := Lib.hid hn1
    have HN2 := Lib.hid hn2
    have HL := Lib.hid (show n1 ≤ 2097152 by omega)
    have HR1 := Lib.hid hr1
    have HR2 := Lib.hid hr2
    obtain ⟨d, hd⟩ : ∃ d, decide (xs = ys) = d := ⟨_, rfl⟩
    rw [hd]
    have HD := Lib.hid hd
    clear hn1 hn2 hr1 hr2 hl hl2 hd
    go_enter Tryz.func260, Tryz.ntmps260
    go_upto_region 4 with fail
    go_loopw [13] (fun kv w' => ∃ k : Nat, k ≤ n1 ∧ kv = .int .i64 k ∧ xs.take k = ys.take k ∧ Below w.heap.size w w') (fun kv _ => n1 - (intOf kv).toNat)
    case atStart => exact ⟨0, Nat.zero_le _, rfl, rfl, Below.refl _ _⟩
    case round =>
      obtain ⟨k, hk, rfl, htk, bel⟩ := hrel
      rename World => wr
      by_cases hlt : k < n1
      case neg =>
        obtain rfl : k = n1 := by omega
        have hb : decide (k < k) = false := by simp
        have hdt : d = true := by
          rw [← HD.out]
          refine decide_eq_true ?_
          rw [HN1.out] at htk
          rw [List.take_length, ← HN1.out, HN2.out, List.take_length] at htk
          exact htk
        subst hdt
        clear htk
        go_wp2_with fail
        go_ret
        exact ⟨rfl, bel⟩
      case pos =>
        have hx1 : k < xs.length := by have := HN1.out; omega
        have hx2 : k < ys.length := by have := HN2.out; omega
        obtain ⟨x, hx⟩ : ∃ x, xs[k]? = some x := ⟨_, List.getElem?_eq_getElem hx1⟩
        obtain ⟨y, hy⟩ : ∃ y, ys[k]? = some y := ⟨_, List.getElem?_eq_getElem hx2⟩
        obtain ⟨ad1, rfl, e0, e1, e2, e3, e4, _⟩ := kTx_at (Kd.row_below bel HR1.out) hx
        obtain ⟨ad2, rfl, f0, f1, f2, f3, f4, _⟩ := kTx_at (Kd.row_below bel HR2.out) hy
        have hb : decide (k < n1) = true := decide_eq_true hlt
        have hkI : (k : Int) < (n1 : Int) := by omega
        have hk0 : (0 : Int) ≤ (k : Int) := by omega
        have hkb : k < 2097152 := by have := HL.out; omega
        have HKN := Lib.hid hlt
        have hq0 := fun W => neqTx x y W
        have HX := Lib.hid hx
        have HY := Lib.hid hy
        have HTK := Lib.hid htk
        clear hx hy hx1 hx2 htk hk
        by_cases hxy : x = y
        · subst hxy
          have hq : ∀ W, (binOp .neq 77 (.agg #[.int .i64 x.frm, .int .i64 x.to, .int .i64 x.amount, .int .i64 x.nonce, .string x.sig]) (.agg #[.int .i64 x.frm, .int .i64 x.to, .int .i64 x.amount, .int .i64 x.nonce, .string x.sig])).run Tryz.prog W = .ok (.bool false) W := fun W => by rw [hq0, decide_eq_true rfl]; rfl
          clear hq0
          go_upto_region 6 with fail
          go_quiet (fail)
          go_wp2_with fail
          go_roundw
          case rel => exact ⟨k + 1, by have := HKN.out; omega, by go_num, by rw [List.take_add_one, List.take_add_one, HX.out, HY.out, HTK.out], bl_drewN bel _⟩
          case measure => have := HKN.out; simp [intOf]; omega
        · have hq : ∀ W, (binOp .neq 77 (.agg #[.int .i64 x.frm, .int .i64 x.to, .int .i64 x.amount, .int .i64 x.nonce, .string x.sig]) (.agg #[.int .i64 y.frm, .int .i64 y.to, .int .i64 y.amount, .int .i64 y.nonce, .string y.sig])).run Tryz.prog W = .ok (.bool true) W := fun W => by rw [hq0, decide_eq_false hxy]; rfl
          clear hq0
          have hdt : d = false := by
            rw [← HD.out]
            refine decide_eq_false ?_
            intro e
            have h1 := HX.out
            rw [e, HY.out] at h1
            cases h1
            exact hxy rfl
          subst hdt
          clear hxy
          go_upto_region 6 with fail
          go_quiet (fail)
          go_wp2_with fail
          go_ret
          exact ⟨rfl, bl_drewN bel _⟩

end Go.Proofs.YtcbfpdenjdgnlaaGreat
/- strings.Repeat of the library laid at this program. No claim of its own; no condition. -/
namespace Go.Proofs.YtcbfpdenjdgnlaaGreat
open Go.Shelf
def Tryz.laysRepeat_ren : Go.Shelf.Ren := ⟨fun | 105 => 245 | 212 => 269 | 99 => 270 | 165 => 271 | 166 => 272 | 170 => 273 | 169 => 274 | 263 => 282 | 264 => 283 | 206 => 284 | 240 => 285 | 241 => 286 | 276 => 288 | 277 => 289 | n => n, fun | 9 => 9 | 3 => 3 | 4 => 4 | 20 => 20 | 0 => 0 | 46 => 160 | 109 => 299 | 5 => 5 | 72 => 304 | 76 => 307 | 51 => 214 | 146 => 316 | 53 => 261 | 148 => 318 | 70 => 302 | 37 => 60 | 75 => 306 | 127 => 320 | 164 => 322 | 80 => 95 | n => n, fun n => n⟩
theorem Tryz.laysRepeat : Lays.n105 Tryz.prog Tryz.laysRepeat_ren := {
  mixed := by kernel_rfl
  f99 := Tryz.func270.trans (congrArg some (by kernel_rfl))
  f105 := Tryz.func245.trans (congrArg some (by kernel_rfl))
  f165 := Tryz.func271.trans (congrArg some (by kernel_rfl))
  f166 := Tryz.func272.trans (congrArg some (by kernel_rfl))
  f169 := Tryz.func274.trans (congrArg some (by kernel_rfl))
  f170 := Tryz.func273.trans (congrArg some (by kernel_rfl))
  f206 := Tryz.func284.trans (congrArg some (by kernel_rfl))
  f212 := Tryz.func269.trans (congrArg some (by kernel_rfl))
  f240 := Tryz.func285.trans (congrArg some (by kernel_rfl))
  f241 := Tryz.func286.trans (congrArg some (by kernel_rfl))
  f263 := Tryz.func282.trans (congrArg some (by kernel_rfl))
  f264 := Tryz.func283.trans (congrArg some (by kernel_rfl))
  f276 := Tryz.func288.trans (congrArg some (by kernel_rfl))
  f277 := Tryz.func289.trans (congrArg some (by kernel_rfl))
  t0 := Tryz.underlying0
  a0 := Tryz.isAgg0
  z0 := Tryz.sizeOf0
  v0 := Tryz.zeroValue0
  t3 := Tryz.underlying3
  a3 := Tryz.isAgg3
  z3 := Tryz.sizeOf3
  v3 := Tryz.zeroValue3
  t4 := Tryz.underlying4
  a4 := Tryz.isAgg4
  z4 := Tryz.sizeOf4
  v4 := Tryz.zeroValue4
  t5 := Tryz.underlying5
  a5 := Tryz.isAgg5
  z5 := Tryz.sizeOf5
  v5 := Tryz.zeroValue5
  t9 := Tryz.underlying9
  a9 := Tryz.isAgg9
  z9 := Tryz.sizeOf9
  v9 := Tryz.zeroValue9
  t20 := Tryz.underlying20
  a20 := Tryz.isAgg20
  z20 := Tryz.sizeOf20
  v20 := Tryz.zeroValue20
  t37 := Tryz.underlying60
  a37 := Tryz.isAgg60
  z37 := Tryz.sizeOf60
  v37 := Tryz.zeroValue60
  t46 := Tryz.underlying160
  a46 := Tryz.isAgg160
  z46 := Tryz.sizeOf160
  v46 := Tryz.zeroValue160
  t51 := Tryz.underlying214
  a51 := Tryz.isAgg214
  z51 := Tryz.sizeOf214
  v51 := Tryz.zeroValue214
  t53 := Tryz.underlying261
  a53 := Tryz.isAgg261
  z53 := Tryz.sizeOf261
  v53 := Tryz.zeroValue261
  t70 := Tryz.underlying302
  a70 := Tryz.isAgg302
  z70 := Tryz.sizeOf302
  v70 := Tryz.zeroValue302
  t72 := Tryz.underlying304
  a72 := Tryz.isAgg304
  z72 := Tryz.sizeOf304
  v72 := Tryz.zeroValue304
  t75 := Tryz.underlying306
  a75 := Tryz.isAgg306
  z75 := Tryz.sizeOf306
  v75 := Tryz.zeroValue306
  t76 := Tryz.underlying307
  a76 := Tryz.isAgg307
  z76 := Tryz.sizeOf307
  v76 := Tryz.zeroValue307
  t109 := Tryz.underlying299
  a109 := Tryz.isAgg299
  z109 := Tryz.sizeOf299
  v109 := Tryz.zeroValue299
  t127 := Tryz.underlying320
  a127 := Tryz.isAgg320
  z127 := Tryz.sizeOf320
  v127 := Tryz.zeroValue320
  t146 := Tryz.underlying316
  a146 := Tryz.isAgg316
  z146 := Tryz.sizeOf316
  v146 := Tryz.zeroValue316
  t148 := Tryz.underlying318
  a148 := Tryz.isAgg318
  z148 := Tryz.sizeOf318
  v148 := Tryz.zeroValue318
  t164 := Tryz.underlying322
  a164 := Tryz.isAgg322
  z164 := Tryz.sizeOf322
  v164 := Tryz.zeroValue322 }
theorem Tryz.extraRepeat : Builder.Extra Tryz.prog Tryz.laysRepeat_ren := {
  sizeBuilder := by kernel_rfl
  liesBuilder := by kernel_rfl
  t5 := Tryz.laysRepeat.t5
  a5 := Tryz.laysRepeat.a5
  z5 := Tryz.laysRepeat.z5
  v5 := Tryz.laysRepeat.v5
  infoByte := by kernel_rfl
  cellsByte := by kernel_rfl
  sizeByte := by kernel_rfl
  neB5 := by decide }
end Go.Proofs.YtcbfpdenjdgnlaaGreat
/- slices.Compact, in plain Lean: what is left where of equal neighbours one is kept. No claim of its own; no condition. -/
namespace Go.Proofs.YtcbfpdenjdgnlaaGreat
set_option linter.unusedVariables false
section
variable {α : Type} [DecidableEq α]
/-- What is left behind p. -/
def compFrom : α → List α → List α
  | _, [] => []
  | p, y :: t => if y = p then compFrom p t else y :: compFrom y t
def compF : List α → List α
  | [] => []
  | x :: t => x :: compFrom x t
theorem compFrom_snoc (x : α) : ∀ (t : List α) (p : α), compFrom p (t ++ [x]) = if x = (p :: t).getLast (by simp) then compFrom p t else compFrom p t ++ [x]
  | [], p => by
    by_cases hx : x = p
    · rw [if_pos (by simpa using hx)]; simp [compFrom, hx]
    · rw [if_neg (by simpa using hx)]; simp [compFrom, hx]
  | y :: t, p => by
    have ih := fun q => compFrom_snoc x t q
    have hl : (p :: y :: t).getLast (by simp) = (y :: t).getLast (by simp) := List.getLast_cons_cons ..
    by_cases hx : x = (y :: t).getLast (by simp)
    · rw [if_pos (by rw [hl]; exact hx)]
      rw [List.cons_append]
      simp only [compFrom]
      by_cases h : y = p
      · subst h
        rw [if_pos rfl, if_pos rfl, ih, if_pos hx]
      · rw [if_neg h, if_neg h, ih, if_pos hx]
    · rw [if_neg (by rw [hl]; exact hx)]
      rw [List.cons_append]
      simp only [compFrom]
      by_cases h : y = p
      · subst h
        rw [if_pos rfl, if_pos rfl, ih, if_neg hx]
      · rw [if_neg h, if_neg h, ih, if_neg hx, List.cons_append]
theorem comp_snoc (x p : α) (l : List α) (h : l.getLast? = some p) : compF (l ++ [x]) = if x = p then compF l else compF l ++ [x] := by
  cases l with
  | nil => simp at h
  | cons a t =>
    rw [List.getLast?_eq_some_getLast (by simp)] at h
    injection h with h
    subst h
    rw [List.cons_append]
    simp only [compF]
    rw [compFrom_snoc]
    split <;> simp
theorem comp_step {l : List α} {n : Nat} {x p : α} (h0 : l[n]? = some p) (h1 : l[n + 1]? = some x) : compF (l.take (n + 2)) = if x = p then compF (l.take (n + 1)) else compF (l.take (n + 1)) ++ [x] := by
  rw [List.take_add_one, h1]
  refine comp_snoc x p _ ?_
  have hlt : n < l.length := (List.getElem?_eq_some_iff.1 h0).1
  rw [List.getLast?_eq_getElem?, List.length_take, List.getElem?_take, Nat.min_eq_left (by omega), if_pos (by omega)]
  exact h0
theorem compFrom_mem {z : α} : ∀ {t : List α} {p : α}, z ∈ compFrom p t → z ∈ t
  | [], p, h => by simp [compFrom] at h
  | y :: t, p, h => by
    simp only [compFrom] at h
    split at h
    · exact List.mem_cons_of_mem _ (compFrom_mem h)
    · rcases List.mem_cons.1 h with rfl | h
      · exact List.mem_cons_self
      · exact List.mem_cons_of_mem _ (compFrom_mem h)
theorem mem_compFrom {z : α} : ∀ {t : List α} {p : α}, z ∈ t → z = p ∨ z ∈ compFrom p t
  | [], p, h => by cases h
  | y :: t, p, h => by
    simp only [compFrom]
    by_cases e : y = p
    · rw [if_pos e]
      rcases List.mem_cons.1 h with rfl | h
      · exact .inl e
      · exact mem_compFrom h
    · rw [if_neg e]
      rcases List.mem_cons.1 h with rfl | h
      · exact .inr List.mem_cons_self
      · rcases mem_compFrom (p := y) h with rfl | h
        · exact .inr List.mem_cons_self
        · exact .inr (List.mem_cons_of_mem _ h)
theorem mem_comp {z : α} {l : List α} : z ∈ compF l ↔ z ∈ l := by
  cases l with
  | nil => rfl
  | cons x t =>
    simp only [compF, List.mem_cons]
    constructor
    · rintro (h | h)
      · exact .inl h
      · exact .inr (compFrom_mem h)
    · rintro (h | h)
      · exact .inl h
      · exact mem_compFrom h
theorem comp_len (l : List α) : (compF l).length ≤ l.length := by
  have key : ∀ (t : List α) (p : α), (compFrom p t).length ≤ t.length := by
    intro t
    induction t with
    | nil => intro p; simp [compFrom]
    | cons y t ih =>
      intro p
      simp only [compFrom]
      split
      · have := ih p; simp; omega
      · have := ih y; simp; omega
  cases l with
  | nil => simp [compF]
  | cons x t => simp [compF]; exact key t x
/-- Of a sorted list what is left rises strictly. -/
theorem comp_rises {lt : α → α → Bool} (htri : ∀ a b, lt a b = false → lt b a = false → a = b) : ∀ (l : List α), l.Pairwise (fun a b => lt b a = false) → (htr : ∀ a b c, lt a b = true → lt b c = true → lt a c = true) → (compF l).Pairwise (fun a b => lt a b = true) := by
  intro l hl htr
  have key : ∀ (t : List α) (p : α), (p :: t).Pairwise (fun a b => lt b a = false) → (p :: compFrom p t).Pairwise (fun a b => lt a b = true) := by
    intro t
    induction t with
    | nil => intro p _; simp [compFrom]
    | cons y t ih =>
      intro p hp
      simp only [compFrom]
      have hpy : lt y p = false := (List.pairwise_cons.1 hp).1 y (by simp)
      have hyt := (List.pairwise_cons.1 hp).2
      by_cases e : y = p
      · rw [if_pos e]
        subst e
        exact ih y hyt
      · rw [if_neg e]
        have hy := ih y hyt
        have hlt : lt p y = true := by
          cases h : lt p y with
          | true => rfl
          | false => exact absurd (htri p y h hpy).symm e
        refine List.pairwise_cons.2 ⟨fun z hz => ?_, hy⟩
        rcases List.mem_cons.1 hz with rfl | hz
        · exact hlt
        · exact htr p y z hlt ((List.pairwise_cons.1 hy).1 z hz)
  cases l with
  | nil => simp [compF]
  | cons x t => exact key t x hl
end
end Go.Proofs.YtcbfpdenjdgnlaaGreat
/- Package rule: the order of marks, in plain Lean. No claim of its own; no condition. -/
namespace Go.Proofs.YtcbfpdenjdgnlaaGreat
open Go.Sort
set_option linter.unusedVariables false
/-- '<' of strings is the lexical order. -/
theorem less_lt : ∀ (x y : List UInt8), Op.bytesLess x y = true ↔ x < y
  | [], [] => by simp [Op.bytesLess]
  | _ :: _, [] => by simp [Op.bytesLess]
  | [], _ :: _ => by simp [Op.bytesLess]
  | a :: x, b :: y => by
    have ih := less_lt x y
    simp only [Op.bytesLess, List.cons_lt_cons_iff, Bool.or_eq_true, Bool.and_eq_true, decide_eq_true_eq, beq_iff_eq]
    rw [ih]
def strLt (a b : ByteArray) : Bool := Op.bytesLess a.toList b.toList
theorem strLt_irr (a : ByteArray) : strLt a a = false := by
  cases h : strLt a a with
  | false => rfl
  | true => exact absurd ((less_lt _ _).1 h) (List.lt_irrefl _)
theorem strLt_tr {a b c : ByteArray} (h : strLt a b = true) (k : strLt b c = true) : strLt a c = true := (less_lt _ _).2 (List.lt_trans ((less_lt _ _).1 h) ((less_lt _ _).1 k))
theorem strLt_tri {a b : ByteArray} (h : strLt a b = false) (k : strLt b a = false) : a = b := by
  have h1 : ¬ a.toList < b.toList := fun x => by rw [strLt, (less_lt _ _).2 x] at h; cases h
  have h2 : ¬ b.toList < a.toList := fun x => by rw [strLt, (less_lt _ _).2 x] at k; cases k
  have e : a.toList = b.toList := List.le_antisymm (List.not_lt.1 h2) (List.not_lt.1 h1)
  rw [ByteArray.toList_eq, ByteArray.toList_eq] at e
  cases a
  cases b
  simp only at e
  congr
  exact Array.toList_inj.1 e
/-- cmp.Compare at strings. -/
def cmpStr (a b : ByteArray) : Int := if strLt a b then -1 else if strLt b a then 1 else 0
/-- The law's 'below'. -/
def belowF (a b : Mark) : Bool := decide (a.view < b.view) || (decide (a.view = b.view) && (decide (a.height < b.height) || (decide (a.height = b.height) && strLt a.block b.block)))
/-- cmp.Or of the three. -/
def ordF (a b : Mark) : Int := if Lib.compareInt a.view b.view ≠ 0 then Lib.compareInt a.view b.view else if Lib.compareInt a.height b.height ≠ 0 then Lib.compareInt a.height b.height else cmpStr a.block b.block
theorem cmp_lt (x y : Int) : (Lib.compareInt x y < 0 ↔ x < y) ∧ (Lib.compareInt x y = 0 ↔ x = y) := by
  unfold Lib.compareInt
  repeat' split
  all_goals (constructor <;> constructor <;> intro h <;> omega)
theorem ord_below (a b : Mark) : ltOf ordF a b = belowF a b := by
  unfold ltOf ordF belowF
  obtain ⟨v1, v2⟩ := cmp_lt a.view b.view
  obtain ⟨h1, h2⟩ := cmp_lt a.height b.height
  by_cases ev : a.view = b.view
  · rw [if_neg (by simp [v2.2 ev])]
    by_cases eh : a.height = b.height
    · rw [if_neg (by simp [h2.2 eh])]
      have nv : ¬ a.view < b.view := by omega
      have nh : ¬ a.height < b.height := by omega
      simp only [ev, eh, cmpStr, decide_true, Bool.true_and, Int.lt_irrefl, decide_false, Bool.false_or]
      by_cases p1 : strLt a.block b.block = true
      · simp [p1]
      · by_cases p2 : strLt b.block a.block = true
        · simp [p1, p2]
        · simp [p1, p2]
    · rw [if_pos (by simp [h2, eh])]
      simp [ev, eh, h1]
  · rw [if_pos (by simp [v2, ev])]
    simp [ev, v1]
theorem below_iff (a b : Mark) : belowF a b = true ↔ a.view < b.view ∨ (a.view = b.view ∧ (a.height < b.height ∨ (a.height = b.height ∧ strLt a.block b.block = true))) := by
  simp [belowF]
theorem below_irr (a : Mark) : belowF a a = false := by
  simp [belowF, strLt_irr]
theorem below_tr {a b c : Mark} (h : belowF a b = true) (k : belowF b c = true) : belowF a c = true := by
  rw [below_iff] at h k ⊢
  rcases h with h | ⟨h, h' | ⟨h', h''⟩⟩ <;> rcases k with k | ⟨k, k' | ⟨k', k''⟩⟩
  · left; omega
  · left; omega
  · left; omega
  · left; omega
  · right; exact ⟨by omega, .inl (by omega)⟩
  · right; exact ⟨by omega, .inl (by omega)⟩
  · left; omega
  · right; exact ⟨by omega, .inl (by omega)⟩
  · right; exact ⟨by omega, .inr ⟨by omega, strLt_tr h'' k''⟩⟩
theorem below_tri {a b : Mark} (h : belowF a b = false) (k : belowF b a = false) : a = b := by
  have h' : ¬ _ := fun x => by rw [(below_iff a b).2 x] at h; cases h
  have k' : ¬ _ := fun x => by rw [(below_iff b a).2 x] at k; cases k
  have ev : a.view = b.view := by
    rcases Int.lt_trichotomy a.view b.view with x | x | x
    · exact absurd (.inl x) h'
    · exact x
    · exact absurd (.inl x) k'
  have eh : a.height = b.height := by
    rcases Int.lt_trichotomy a.height b.height with x | x | x
    · exact absurd (.inr ⟨ev, .inl x⟩) h'
    · exact x
    · exact absurd (.inr ⟨ev.symm, .inl x⟩) k'
  have eb : a.block = b.block := by
    refine strLt_tri ?_ ?_
    · cases x : strLt a.block b.block with
      | false => rfl
      | true => exact absurd (.inr ⟨ev, .inr ⟨eh, x⟩⟩) h'
    · cases x : strLt b.block a.block with
      | false => rfl
      | true => exact absurd (.inr ⟨ev.symm, .inr ⟨eh.symm, x⟩⟩) k'
  cases a; cases b
  simp only at ev eh eb
  subst ev eh eb
  rfl
theorem below_cotr {a b c : Mark} (h : belowF a b = false) (k : belowF b c = false) : belowF a c = false := by
  cases x : belowF a c with
  | false => rfl
  | true =>
    cases y : belowF b a with
    | true => rw [below_tr y x] at k; cases k
    | false =>
      obtain rfl := below_tri h y
      rw [x] at k; cases k
theorem ord_swo : SWO (ltOf ordF) where
  irrefl x := by rw [ord_below]; exact below_irr x
  trans x y z h k := by rw [ord_below] at *; exact below_tr h k
  ntrans x y z h k := by rw [ord_below] at *; exact below_cotr h k
end Go.Proofs.YtcbfpdenjdgnlaaGreat
