/- Words: octets as strings, strings as octets; package sha: Long, Short. No claim of its own; no condition. -/
import Derived.Test.YtcbfpdenjdgnlaaGreatShaH
import Derived.Laws.IdiomStrings
import Derived.Lib.ConvBytes
import Derived.Lib.BufferRead
namespace Go.Proofs.YtcbfpdenjdgnlaaGreat
open Go.ChangeShapes Go.WideShapes Go.ChangeAt Go.RowKit
set_option linter.unusedVariables false
set_option linter.unusedSimpArgs false
/-- A string's octets; the string of some octets. -/
def bl (s : ByteArray) : List UInt8 := s.data.toList
def sb (l : List UInt8) : ByteArray := ⟨l.toArray⟩
theorem bl_sb (l : List UInt8) : bl (sb l) = l := rfl
theorem sb_bl (s : ByteArray) : sb (bl s) = s := rfl
theorem bl_len (s : ByteArray) : (bl s).length = s.size := rfl
theorem sb_size (l : List UInt8) : (sb l).size = l.length := rfl
theorem bl_inj {s t : ByteArray} (h : bl s = bl t) : s = t := by rw [← sb_bl s, h, sb_bl]
theorem extract_sb (s : ByteArray) (i j : Nat) : s.extract i j = sb (((bl s).take j).drop i) := by
  apply bl_inj
  show (s.extract i j).data.toList = _
  rw [ByteArray.data_extract, Array.toList_extract]
  show List.extract _ _ _ = _
  rw [List.extract_eq_take_drop]
  show _ = ((bl s).take j).drop i
  rw [List.drop_take]
  rfl
section
variable {P : Program}
theorem wpList_convert {w : World} {ops : Array Oper} {rest : List Oper} {o : Oper} {a : Act} {Q : Exit → Act → World → Prop} (hgd : o.guard = none) (src dst : TypeId) (x : Operand) (ho : o.op = .convert src dst x) (v0 : Value) (hx : a.eval x = v0) (v : Value) (w' : World)
    (hrun : (convert src dst v0).run P w = .ok v w') (h : wpList P ops Q rest (a.put o.dst v) w') : wpList P ops Q (o :: rest) a w := by
  refine wpList_plain hgd fun _ hK => ?_
  unfold Oper.wp execOp
  simp only [ho, hx, Sem.run_bind, Sem.run_pure, hrun, Result.andThen_ok]
  exact hK _ _ h
theorem wp_convert {w : World} {o : Oper} {a : Act} {K : Act → World → Prop} {Q : Exit → Act → World → Prop} (src dst : TypeId) (x : Operand) (ho : o.op = .convert src dst x) (v0 : Value) (hx : a.eval x = v0) (v : Value) (w' : World)
    (hrun : (convert src dst v0).run P w = .ok v w') (h : K (a.put o.dst v) w') : Oper.wp P o a w K Q := by
  unfold Oper.wp execOp
  simp only [ho, hx, Sem.run_bind, Sem.run_pure, hrun, Result.andThen_ok]
  exact h
/-- 'string(b)'. -/
theorem run_str {e src dst B : Nat} {w : World} {A : Option Addr} {l : List UInt8} (hs : P.underlying src = some (.slice e)) (he : P.underlying e = some (.int .u8)) (hd : P.underlying dst = some .string) (h : Kd.u8.Row e B w A l) (c : Nat) :
    (convert src dst (.slice A l.length c)).run P w = .ok (.string (sb l)) w := by
  by_cases h0 : l = []
  · subst h0
    show (convert src dst (.slice A 0 c)).run P w = _
    rw [run_convert_bytes_string w src dst e A 0 c hs he hd]
    cases A <;> simp [Conv.bytesToString, loadCells]
    all_goals rfl
  · obtain ⟨ad, rfl, _, hx⟩ := h h0
    refine run_convert_bytes_back w src dst e ad c l hs he hd fun j hj => ?_
    obtain ⟨cs, hK, hc⟩ := hx j _ (List.getElem?_eq_getElem hj)
    obtain rfl : cs = [.int .u8 ((l[j]).toNat : Int)] := hK
    have := hc 0 _ rfl
    have e1 : Kd.u8.sz = 1 := rfl
    rw [e1] at this
    simpa using this
theorem oct_world (w : World) (e : TypeId) (s : ByteArray) : Below w.heap.size w (Lib.bytesWorld w e s) :=
  ⟨rfl, rfl, rfl, by rw [Lib.bytesWorld_size]; omega, fun k hk => Lib.bytesWorld_at_old w e s k hk⟩
theorem oct_row (w : World) (e : TypeId) (s : ByteArray) (B : Nat) : Kd.u8.Row e B (Lib.bytesWorld w e s) (some ⟨w.heap.size, 0, none⟩) (bl s) := by
  intro hne
  have hn := Lib.bytesWorld_at_new w e s
  refine ⟨_, rfl, ⟨blk_lt hn, .inr ⟨_, _, _, hn, List.mem_cons_self⟩⟩, fun i x hi => ⟨[.int .u8 (x.toNat : Int)], rfl, fun j u hu => ?_⟩⟩
  cases j with
  | succ j => cases hu
  | zero =>
    cases hu
    have hi' : i < s.size := by have := (List.getElem?_eq_some_iff.1 hi).1; exact this
    have hc := Lib.bytesWorld_cell w e s i hi'
    have e1 : Kd.u8.sz = 1 := rfl
    have e2 : (⟨w.heap.size, 0, none⟩ : Addr).add (i * Kd.u8.sz + 0) = ⟨w.heap.size, i, none⟩ := by rw [e1]; unfold Addr.add; split <;> simp_all
    rw [e2, hc]
    rw [List.getD_eq_getElem?_getD, show s.data.toList[i]? = some x from hi]
    rfl
/-- '[]byte(s)'. -/
theorem run_oct {e src dst : TypeId} (hs : P.underlying src = some .string) (hd : P.underlying dst = some (.slice e)) (he : P.underlying e = some (.int .u8)) (w : World) (s : ByteArray) (hl : s.size ≤ maxLen) :
    ∃ c, (convert src dst (.string s)).run P w = .ok (.slice (some ⟨w.heap.size, 0, none⟩) s.size c) (Lib.bytesWorld w e s) ∧ s.size ≤ c ∧ c ≤ maxLen :=
  ⟨_, Lib.run_convert_string_bytes w src dst e s hs hd he, grownCap_ge _ _ _ _, grownCap_le_maxLen _ _ _ _ hl⟩
end
theorem o4_len' (l : List UInt32) : (wordsB l).length = 4 * l.length := o4_len l
theorem shaB_len (b : List UInt8) : (shaB b).length = 32 := by
  unfold shaB
  rw [o4_len', shaS_len]
/-- The first eight octets of a text's sum, as a string. -/
def shS (l : List UInt8) : ByteArray := sb ((shaB l).take 8)
theorem shS_size (l : List UInt8) : (shS l).size = 8 := by
  unfold shS
  rw [sb_size, List.length_take, shaB_len]
  rfl
theorem shS_ext (l : List UInt8) : (sb (shaB l)).extract 0 8 = shS l := by rw [extract_sb, bl_sb]; rfl
set_option maxHeartbeats 1600000 in
set_option maxRecDepth 100000 in
theorem long_calls (xs : List (List UInt8)) (A : Option Addr) (n c : Nat) (w : World) (B : Nat) (hn : n = xs.length) (hl : xs.length ≤ 1048576) (ht : xs.flatten.length ≤ 1048576) (hr : kBB.Row 60 B w A xs) :
    Calls Tryz.prog 125 #[.slice A n c] w fun e w' => e = .returned (.string (sb (shaB xs.flatten))) ∧ Below w.heap.size w w' := by
  subst hn
  obtain ⟨F, hF⟩ : ∃ F, xs.flatten = F := ⟨_, rfl⟩
  have hj := fun W => join_calls xs A xs.length c W B rfl hl (by omega)
  rw [hF] at ht
  simp only [hF] at hj ⊢
  have HJ := Lib.hid hj
  clear hj hF
  go_enter Tryz.func125, Tryz.ntmps125
  go_wp2_with (first
    | (go_at_call 191; refine (HJ.out _ hr).mono ?_; rintro e w1 ⟨⟨v1, rfl, own1⟩, b1⟩; obtain ⟨A1, c1, rfl, l1, m1, r1, _⟩ := Kd.own_row own1)
    | (go_at_call 190; refine (shasum_calls F A1 _ c1 _ _ rfl ht l1 m1 r1).mono ?_; rintro e w2 ⟨⟨v2, rfl, own2⟩, b2⟩; obtain ⟨A2, c2, rfl, l2, m2, r2, _⟩ := Kd.own_row own2)
    | (refine wpList_convert rfl 60 9 (.tmp 5) rfl _ rfl _ _ (run_str Tryz.underlying60 Tryz.underlying5 Tryz.underlying9 r2 c2) ?_))
  go_ret
  exact ⟨rfl, bl_trans b1 b2⟩
set_option maxHeartbeats 1600000 in
set_option maxRecDepth 100000 in
theorem short_calls (xs : List (List UInt8)) (A : Option Addr) (n c : Nat) (w : World) (B : Nat) (hn : n = xs.length) (hl : xs.length ≤ 1048576) (ht : xs.flatten.length ≤ 1048576) (hr : kBB.Row 60 B w A xs) :
    Calls Tryz.prog 262 #[.slice A n c] w fun e w' => e = .returned (.string (shS xs.flatten)) ∧ Below w.heap.size w w' := by
  subst hn
  have hL := long_calls xs A xs.length c w B rfl hl ht hr
  obtain ⟨S, hS⟩ : ∃ S, sb (shaB xs.flatten) = S := ⟨_, rfl⟩
  have hz : (8 : Int) ≤ (S.size : Int) := by rw [← hS, sb_size, shaB_len]; omega
  have hz2 : 8 ≤ S.size := by omega
  have hx : S.extract 0 8 = shS xs.flatten := by rw [← hS]; exact shS_ext _
  rw [hS] at hL
  have HL := Lib.hid hL
  have HX := Lib.hid hx
  clear hL hx hS
  go_enter Tryz.func262, Tryz.ntmps262
  go_wp2_with ((go_at_call 125; refine (HL.out).mono ?_; rintro e w1 ⟨rfl, b1⟩))
  go_ret
  exact ⟨by rw [HX.out]; rfl, b1⟩
end Go.Proofs.YtcbfpdenjdgnlaaGreat
