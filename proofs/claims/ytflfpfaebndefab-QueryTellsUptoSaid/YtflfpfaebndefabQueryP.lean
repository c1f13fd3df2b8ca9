/- Package query: the plain part: entries, what is found, what was done. No claim of its own; no condition. -/
import Derived.Test.YtflfpfaebndefabFold
import Derived.Test.YtflfpfaebndefabFlat
namespace Go.Proofs.Ytflfpfaebndefab
open Go.ChangeShapes Go.WideShapes Go.ChangeAt Go.RowKit
set_option linter.unusedVariables false
set_option linter.unusedSimpArgs false
/-- The entries as the program makes them: the errors are read off a list. -/
def entStep (E : List Int) (i : Nat) (out : List Entry) (t : Tx) : List Entry := out ++ [⟨t, (i : Int) + 1, E.getD out.length 0⟩]
def entT (E : List Int) (i : Nat) (l : List Tx) (out : List Entry) : List Entry := l.foldl (entStep E i) out
def entG (E : List Int) : List Block → Nat → List Entry → List Entry
  | [], _, out => out
  | b :: l, i, out => entG E l (i + 1) (entT E i b.txs out)
def entsF (l : List Block) : List Entry := entG (foldF l).2 l 0 []
theorem entT_len (E : List Int) (i : Nat) : ∀ (l : List Tx) (out : List Entry), (entT E i l out).length = out.length + l.length
  | [], out => by simp [entT]
  | t :: l, out => by
    have := entT_len E i l (entStep E i out t)
    simp only [entT, List.foldl_cons, List.length_cons] at *
    rw [this]
    simp [entStep]; omega
theorem entG_len (E : List Int) : ∀ (l : List Block) (i : Nat) (out : List Entry), (entG E l i out).length = out.length + txN l
  | [], i, out => by simp [entG, txN]
  | b :: l, i, out => by
    have := entG_len E l (i + 1) (entT E i b.txs out)
    rw [show entG E (b :: l) i out = entG E l (i + 1) (entT E i b.txs out) from rfl, this, entT_len]
    simp [txN]; omega
theorem entT_step {l : List Tx} {k : Nat} {t : Tx} (E : List Int) (i : Nat) (h : l[k]? = some t) (out : List Entry) : entT E i (l.take (k + 1)) out = entT E i (l.take k) out ++ [⟨t, (i : Int) + 1, E.getD (entT E i (l.take k) out).length 0⟩] := by
  rw [List.take_add_one, h]
  simp [entT, entStep]
theorem entG_step (E : List Int) : ∀ {l : List Block} {k : Nat} {b : Block} (h : l[k]? = some b) (i : Nat) (out : List Entry), entG E (l.take (k + 1)) i out = entT E (i + k) b.txs (entG E (l.take k) i out)
  | [], k, b, h, _, _ => by cases h
  | x :: l, 0, b, h, i, out => by
    obtain rfl : x = b := by simpa using h
    simp [entG]
  | x :: l, k + 1, b, h, i, out => by
    have := entG_step E (l := l) (k := k) (b := b) (by simpa using h) (i + 1) (entT E i x.txs out)
    rw [List.take_succ_cons, List.take_succ_cons]
    show entG E (l.take (k + 1)) (i + 1) (entT E i x.txs out) = entT E (i + (k + 1)) b.txs (entG E (l.take k) (i + 1) (entT E i x.txs out))
    rw [this, show i + 1 + k = i + (k + 1) by omega]
/-- Both at once: the accounts, the errors, the entries. -/
def dStep (i : Nat) (s : BankS × List Entry) (t : Tx) : BankS × List Entry := (txStep s.1 t, s.2 ++ [⟨t, (i : Int) + 1, (applyF s.1.1 t).2⟩])
def dT (i : Nat) (l : List Tx) (s : BankS × List Entry) : BankS × List Entry := l.foldl (dStep i) s
def dG : List Block → Nat → BankS × List Entry → BankS × List Entry
  | [], _, s => s
  | b :: l, i, s => dG l (i + 1) (dT i b.txs s)
theorem dT_fst (i : Nat) : ∀ (l : List Tx) (s : BankS × List Entry), (dT i l s).1 = txsF l s.1
  | [], s => rfl
  | t :: l, s => dT_fst i l (dStep i s t)
theorem dG_fst : ∀ (l : List Block) (i : Nat) (s : BankS × List Entry), (dG l i s).1 = foldG l s.1
  | [], i, s => rfl
  | b :: l, i, s => by
    have := dG_fst l (i + 1) (dT i b.txs s)
    rw [show dG (b :: l) i s = dG l (i + 1) (dT i b.txs s) from rfl, this, dT_fst]
    rfl
def Ext (a b : List Int) : Prop := ∃ x, b = a ++ x
theorem Ext.refl (a : List Int) : Ext a a := ⟨[], by simp⟩
theorem Ext.trans {a b c : List Int} (h : Ext a b) (k : Ext b c) : Ext a c := by
  obtain ⟨x, rfl⟩ := h
  obtain ⟨y, rfl⟩ := k
  exact ⟨x ++ y, by simp⟩
theorem ext_txs : ∀ (l : List Tx) (s : BankS), Ext s.2 (txsF l s).2
  | [], s => Ext.refl _
  | t :: l, s => Ext.trans ⟨[(applyF s.1 t).2], rfl⟩ (ext_txs l (txStep s t))
theorem ext_fold : ∀ (l : List Block) (s : BankS), Ext s.2 (foldG l s).2
  | [], s => Ext.refl _
  | b :: l, s => Ext.trans (ext_txs b.txs s) (ext_fold l (txsF b.txs s))
theorem entT_eq (E : List Int) (i : Nat) : ∀ (l : List Tx) (s : BankS × List Entry), s.2.length = s.1.2.length → Ext (txsF l s.1).2 E → entT E i l s.2 = (dT i l s).2
  | [], s, h, he => rfl
  | t :: l, s, h, he => by
    have h2 : Ext (txStep s.1 t).2 E := Ext.trans (ext_txs l (txStep s.1 t)) he
    have e1 : E.getD s.2.length 0 = (applyF s.1.1 t).2 := by
      obtain ⟨x, rfl⟩ := h2
      simp [txStep, h]
    have e2 : entStep E i s.2 t = (dStep i s t).2 := by simp only [entStep, dStep, e1]
    show entT E i l (entStep E i s.2 t) = (dT i l (dStep i s t)).2
    rw [e2]
    exact entT_eq E i l (dStep i s t) (by simp [dStep, txStep, h]) he
theorem dT_len (i : Nat) : ∀ (l : List Tx) (s : BankS × List Entry), s.2.length = s.1.2.length → (dT i l s).2.length = (dT i l s).1.2.length
  | [], s, h => h
  | t :: l, s, h => dT_len i l (dStep i s t) (by simp [dStep, txStep, h])
theorem entG_eq (E : List Int) : ∀ (l : List Block) (i : Nat) (s : BankS × List Entry), s.2.length = s.1.2.length → Ext (foldG l s.1).2 E → entG E l i s.2 = (dG l i s).2
  | [], i, s, h, he => rfl
  | b :: l, i, s, h, he => by
    have h1 : entT E i b.txs s.2 = (dT i b.txs s).2 := entT_eq E i b.txs s h (Ext.trans (ext_fold l (txsF b.txs s.1)) he)
    show entG E l (i + 1) (entT E i b.txs s.2) = (dG l (i + 1) (dT i b.txs s)).2
    rw [h1]
    exact entG_eq E l (i + 1) _ (dT_len i b.txs s h) (by rw [dT_fst]; exact he)
def d0 : BankS × List Entry := ((genesisF, []), [])
theorem ents_eq (l : List Block) : entsF l = (dG l 0 d0).2 := entG_eq _ l 0 d0 rfl (Ext.refl _)
/-- What all of a client did, and failed. -/
def isDone (c : Int) (x : Entry) : Bool := x.tx.frm == c && x.e == 0
def isFail (c : Int) (x : Entry) : Bool := x.tx.frm == c && x.e == 73
def doneF (c : Int) (l : List Entry) : Nat := l.countP (isDone c)
def failF (c : Int) (l : List Entry) : Nat := l.countP (isFail c)
def bareT (t : Tx) : Tx := ⟨t.frm, t.to, t.amount, t.nonce, ⟨#[]⟩⟩
def isT (t : Tx) (x : Entry) : Bool := decide (bareT x.tx = bareT t)
def findF (l : List Entry) (t : Tx) : Option Entry := l.find? (isT t)
theorem doneF_le (c : Int) (l : List Entry) : doneF c l ≤ l.length := List.countP_le_length
theorem failF_le (c : Int) (l : List Entry) : failF c l ≤ l.length := List.countP_le_length
theorem take_snoc {α : Type} {l : List α} {k : Nat} {x : α} (h : l[k]? = some x) : l.take (k + 1) = l.take k ++ [x] := by
  rw [List.take_add_one, h]; rfl
theorem doneF_step {c : Int} {l : List Entry} {k : Nat} {x : Entry} (h : l[k]? = some x) : doneF c (l.take (k + 1)) = doneF c (l.take k) + (if isDone c x then 1 else 0) := by
  rw [take_snoc h, doneF, List.countP_append]
  simp [doneF, List.countP_cons]
theorem failF_step {c : Int} {l : List Entry} {k : Nat} {x : Entry} (h : l[k]? = some x) : failF c (l.take (k + 1)) = failF c (l.take k) + (if isFail c x then 1 else 0) := by
  rw [take_snoc h, failF, List.countP_append]
  simp [failF, List.countP_cons]
theorem find_step {l : List Entry} {k : Nat} {x : Entry} {t : Tx} (h : l[k]? = some x) (hn : findF (l.take k) t = none) (hx : isT t x = false) : findF (l.take (k + 1)) t = none := by
  rw [take_snoc h, findF, List.find?_append]
  rw [findF] at hn
  simp [hn, hx]
theorem find_here {l : List Entry} {k : Nat} {x : Entry} {t : Tx} (h : l[k]? = some x) (hn : findF (l.take k) t = none) (hx : isT t x = true) : findF l t = some x := by
  have e : l = l.take k ++ x :: l.drop (k + 1) := by
    have h1 := (List.getElem?_eq_some_iff.1 h)
    obtain ⟨h2, h3⟩ := h1
    conv => lhs; rw [← List.take_append_drop k l]
    rw [List.drop_eq_getElem_cons h2, h3]
  rw [findF] at hn ⊢
  rw [e, List.find?_append, hn]
  simp [hx]
end Go.Proofs.Ytflfpfaebndefab
