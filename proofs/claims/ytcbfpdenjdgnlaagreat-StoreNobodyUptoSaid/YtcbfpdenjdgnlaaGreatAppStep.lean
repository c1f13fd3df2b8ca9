/- Words: 'append' of a row in a region that draws its order. No claim of its own; no condition. -/
import Derived.Test.YtcbfpdenjdgnlaaGreatFlat
import Derived.Deep.RegionHeld3
import Derived.OwnWalk
namespace Go.Proofs.YtcbfpdenjdgnlaaGreat
open Go.ChangeShapes Go.WideShapes Go.ChangeAt Go.RowKit
set_option linter.unusedVariables false
section
variable {P : Program} (w : World)
theorem step_append_row {ops : Array Oper} {o : Oper} {a : Act} {K : Act → World → Prop} {Q : Exit → Act → World → Prop} {E : Prop} (hgd : o.guard = none) (s x : Operand) (t : TypeId)
    (ho : o.op = .call { callee := .builtin .append, args := #[s, x], argTypes := #[t, t] })
    {α : Type} (d : Kd α) (B base : Nat) (e : TypeId) (i : TypeInfo) (z : Value) (bytes : Nat) (ht : P.underlying t = some (.slice e)) (hi : P.info? e = some i) (hz : i.zero = some z)
    (hsize : i.size = d.sz) (hby : i.bytes = bytes) (hzs : z.cells.size = d.sz) (hsz : 0 < d.sz)
    (v : Value) (xs : List α) (hs : a.eval s = v) (hown : d.Own e B w base v xs) (A : Option Addr) (c n : Nat) (ys : List α) (hx : a.eval x = .slice A n c) (hn : n = ys.length) (hr : d.Row e B w A ys)
    (hlen : xs.length + ys.length ≤ 4194304) (hb : bytes ≤ 1024) (hbase : base ≤ w.heap.size) (hB : B ≤ base) (he : e ∉ d.E)
    (h : ∀ v' w', d.Own e B w' base v' (xs ++ ys) → w.grownBy w' v.ownBlock → (v'.ownBlock = v.ownBlock ∨ v'.ownBlock = some w.heap.size) → K (a.put o.dst v') w') :
    if Region.wanted o (yielded ops a.tmps) = true then Oper.wp P o a w K Q else E := by
  subst hn
  have hw : Region.wanted o (yielded ops a.tmps) = true := by simp [Region.wanted, hgd]
  rw [if_pos hw]
  obtain ⟨v', w', hrun, h2, h3, h4⟩ := run_append_row (P := P) w d B base t o.type e i z bytes ht hi hz hsize hby hzs hsz v xs hown A c ys hr hlen hb hbase hB he
  unfold Oper.wp execOp
  simp only [ho, resolve, invoke, builtin, Sem.run_bind, Sem.run_pure, Result.andThen_ok, List.map_toArray, List.map_cons, List.map_nil, hs, hx, hrun]
  exact h v' w' h2 h3 h4
end
/-! ### What is kept while a row of the call's own grows -/
theorem kp_drew {B : Nat} {E : List TypeId} {a w : World} (h : Keeps B E a w) : Keeps B E a w.drew := h
theorem kp_alloc {B : Nat} {E : List TypeId} {a w : World} (h : Keeps B E a w) (o : Obj) : Keeps B E a (w.alloc o) := h.trans (Keeps.alloc w o)
theorem held_keep {B : Nat} {E : List TypeId} {a : World} {p : Addr} {v : Value} (hc : a.cell? p = some v) (hb : Held B E a p.block) : ∀ w', Keeps B E a w' → w'.cell? p = some v :=
  fun w' h => (World.cell?_of_block (h.2 _ hb)).trans hc
theorem held_old {B : Nat} {E : List TypeId} {a : World} {b : Nat} (h : b < B) (hb : b < a.heap.size) : Held B E a b := ⟨hb, .inl h⟩
theorem held_type {B : Nat} {E : List TypeId} {a : World} {b : Nat} {cs : Array Value} {t : TypeId} {f : Nat × Nat} (h : a.heap[b]? = some (.cells cs t f)) (ht : t ∈ E) : Held B E a b := ⟨blk_lt h, .inr ⟨_, _, _, h, ht⟩⟩
end Go.Proofs.YtcbfpdenjdgnlaaGreat
