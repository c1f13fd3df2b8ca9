/- Package mootlaw16: the walk of BankParts. No claim of its own; no condition. -/
import Derived.Test.YtflfpfaebndefaaBankT
namespace Go.Proofs.Ytflfpfaebndefaa
open Go.ChangeShapes Go.WideShapes Go.ChangeAt Go.RowKit
set_option linter.unusedVariables false
set_option linter.unusedSimpArgs false

theorem info64 : (Try.prog.info? 64).map (fun i => (i.zero, i.size, i.bytes)) = some (some (.agg #[.int .i64 0, .int .i64 0, .string ⟨#[]⟩, .int .i64 0, .int .i64 0, .string ⟨#[]⟩, .slice none 0 0, .slice none 0 0, .string ⟨#[]⟩]), 9, 128) := by kernel_rfl
def lone (txs : List Tx) : Block := ⟨0, 0, ⟨#[]⟩, ⟨0, 0, ⟨#[]⟩, []⟩, txs, ⟨#[]⟩⟩
theorem int0 : IntOk 0 := by unfold IntOk; omega
theorem lone_K {B : Nat} {w : World} {txs : List Tx} {A' : Option Addr} {c' : Nat} (hc : txs.length ≤ c') (hm : c' ≤ maxLen) (hr : kTx.Row 73 B w A' txs) :
    kBlock.K B w (lone txs) [.int .i64 0, .int .i64 0, .string ⟨#[]⟩, .int .i64 0, .int .i64 0, .string ⟨#[]⟩, .slice none 0 0, .slice A' txs.length c', .string ⟨#[]⟩] :=
  kBlock_mk (lone txs) int0 int0 (Nat.zero_le _) int0 int0 (Nat.zero_le _) (Nat.le_refl 0) (Nat.zero_le _) (Kd.row_nil _ _ _ _ _) hc hm hr (Nat.zero_le _)
theorem fold_parts (l : List Block) (txs : List Tx) : foldF (l ++ [lone txs]) = txsF txs (foldF l) := by
  simp [foldF, foldG, lone]
theorem txs_acc : ∀ (l : List Tx) (s : BankS), (txsF l s).1 = l.foldl (fun a t => (applyF a t).1) s.1
  | [], s => rfl
  | t :: l, s => txs_acc l (txStep s t)
theorem accs_step {l : List Tx} {k : Nat} {t : Tx} (h : l[k]? = some t) (a : List Account) : (l.take (k + 1)).foldl (fun a t => (applyF a t).1) a = (applyF ((l.take k).foldl (fun a t => (applyF a t).1) a) t).1 := by
  rw [List.take_add_one, h]
  simp
theorem good_accs : ∀ (l : List Tx) {a : List Account}, Good a → Good (l.foldl (fun a t => (applyF a t).1) a)
  | [], a, h => h
  | t :: l, a, h => good_accs l (good_apply h t)
set_option maxHeartbeats 3200000 in
set_option maxRecDepth 100000 in
theorem bankparts_walk (l : List Block) (txs : List Tx) (A A' : Option Addr) (c c' : Nat) (w : World) (hl : l.length ≤ 1048576) (hlt : txs.length ≤ 1048576) (hT : txN l ≤ 1048576) (hr : kBlock.Row 64 w.heap.size w A l) (hrt : kTx.Row 73 w.heap.size w A' txs) (hc : txs.length ≤ c') (hm : c' ≤ maxLen) :
    Calls Try.prog 13 #[.slice A l.length c, .slice A' txs.length c'] w fun e w' => e = .returned (.bool true) ∧ Below w.heap.size w w' := by
  obtain ⟨i0, hi, hz0, hz1, hz2⟩ := info_parts info64
  have hgF := good_fold l
  have hacc : (foldF (l ++ [lone txs])).1 = txs.foldl (fun a t => (applyF a t).1) (foldF l).1 := by rw [fold_parts, txs_acc]
  have hN2 : txN (l ++ [lone txs]) ≤ 2097152 := by
    have e : txN (l ++ [lone txs]) = txN l + txs.length := by simp [txN, lone]
    omega
  obtain ⟨F, hF⟩ : ∃ F, F = (foldF l).1 := ⟨_, rfl⟩
  rw [← hF] at hgF hacc
  have HF := Lib.hid hF
  have HA := Lib.hid hacc
  clear hF hacc
  go_enter Try.func13, Try.ntmps13
  go_wp2_with (first
    | (go_at_call 35; refine (alive16_calls _).mono ?_; rintro e w1 ⟨rfl, b1⟩)
    | (at_builtin; refine wpList_append_row _ rfl (.tmp 13) (.tmp 14) 55 rfl kBlock w.heap.size w.heap.size 64 i0 _ 128 Try.underlying55 hi hz0 hz1 hz2 rfl (by decide) (.slice none 0 0) [] rfl (Kd.own_nil kBlock 64 w.heap.size _ w.heap.size) _ _ _ l rfl rfl (Kd.row_below b1 hr) (by simp only [List.length_nil]; omega) (by decide) b1.size (Nat.le_refl _) (by decide) ?_; intro v2 w2 own2 g2 at2; have b2 := Kd.own_step b1 (Kd.own_nil kBlock 64 w.heap.size _ w.heap.size) g2; have bx := bl_alloc (Below.refl w2.heap.size w2) (.cells #[.int .i64 0, .int .i64 0, .string ⟨#[]⟩, .int .i64 0, .int .i64 0, .string ⟨#[]⟩, .slice none 0 0, .slice A' txs.length c', .string ⟨#[]⟩] 64); have own3 := Kd.own_below own2 bx; have b3 := bl_trans b2 bx)
    | (at_builtin; refine wpList_append_row _ rfl (.tmp 15) (.tmp 18) 55 rfl kBlock w.heap.size w.heap.size 64 i0 _ 128 Try.underlying55 hi hz0 hz1 hz2 rfl (by decide) _ _ rfl own3 _ _ _ [lone txs] rfl rfl (Kd.row_fresh1 (lone_K hc hm (Kd.row_below b3 hrt))) (by simp only [List.length_singleton, List.length_append, List.length_nil]; omega) (by decide) b3.size (Nat.le_refl _) (by decide) ?_; intro v4 w4 own4 g4 at4; have b4 := Kd.own_step b3 own3 g4; rw [List.nil_append] at own4; obtain ⟨A4, c4, rfl, _, _, row4, _⟩ := Kd.own_row own4)
    | (go_at_call 33; refine (fold_calls l A l.length c _ w.heap.size rfl (by omega) (by omega) (Kd.row_below b4 hr)).mono ?_; rw [← HF.out]; rintro e w5 ⟨⟨v5, ev, rfl, own5, _⟩, b5⟩; have own6 := own_acc (B' := w.heap.size) own5 b4.size; have b6 := bl_trans b4 b5; have row6 := Kd.row_below b5 row4))
  clear own2 own3 own4 own5 b1 b2 b3 b4 b5 g2 g4 at2 at4 bx row4
  go_loopw [6, 8] (fun av kv w' => ∃ k : Nat, k ≤ txs.length ∧ kv = .int .i64 k ∧ kAccount.Own 66 w.heap.size w' w.heap.size av ((txs.take k).foldl (fun a t => (applyF a t).1) F) ∧ Below w5.heap.size w5 w') (fun _ kv _ => txs.length - (intOf kv).toNat)
  case atStart => exact ⟨0, by omega, rfl, by simpa using own6, Below.refl _ _⟩
  case round =>
    clear own6
    obtain ⟨k, g1, rfl, own, bel⟩ := hrel
    by_cases h : k < txs.length
    · obtain ⟨t, ht⟩ : ∃ t, txs[k]? = some t := ⟨_, List.getElem?_eq_getElem h⟩
      obtain ⟨ad, rfl, f0, f1, f2, f3, f4, _⟩ := kTx_at (Kd.row_below (bl_trans b6 bel) hrt) ht
      have hst := accs_step ht F
      have hgd := (good_accs (txs.take k) hgF).len
      generalize (txs.take k).foldl (fun a t => (applyF a t).1) F = T at *
      have HS := Lib.hid hst
      clear hst ht
      obtain ⟨Aa, ca, rfl, _, _, rowa, _⟩ := Kd.own_row own
      have hT4 : T.length ≤ 1048576 := by omega
      clear hgd
      go_wp2_with (go_at_call 36; refine (apply_calls T t Aa _ ca _ w.heap.size rfl hT4 rowa).mono ?_; rintro e w7 ⟨⟨v7, rfl, own7⟩, b7⟩; have own8 := own_acc (B' := w.heap.size) own7 (Nat.le_trans b6.size bel.size))
      go_roundw
      case rel => exact ⟨k + 1, by omega, by go_num, by rw [HS.out]; exact own8, bl_trans bel b7⟩
      case measure => simp [intOf]; omega
    · have hk : k = txs.length := by omega
      subst hk
      have hgd := (good_accs txs hgF).len
      rw [List.take_of_length_le (Nat.le_refl _)] at own
      rw [← HA.out] at own hgd
      obtain ⟨Aa, ca, rfl, _, _, rowa, _⟩ := Kd.own_row own
      have hlen4 : (foldF (l ++ [lone txs])).1.length ≤ 1048576 := by omega
      clear hgd
      go_wp2_with (first
        | (go_at_call 33; refine (fold_calls (l ++ [lone txs]) A4 _ c4 _ w.heap.size (by first | rfl | simp) (by simp; omega) hN2 (Kd.row_below bel row6)).mono ?_; rintro e w8 ⟨⟨v8, ev8, rfl, own8, _⟩, b8⟩; obtain ⟨Ab, cb, rfl, _, _, rowb, _⟩ := Kd.own_row own8)
        | (go_at_call 37; refine (same_calls (foldF (l ++ [lone txs])).1 (foldF (l ++ [lone txs])).1 Aa Ab _ ca _ cb _ _ _ (by first | rfl | simp) (by first | rfl | simp) hlen4 (Kd.row_below b8 rowa) rowb).mono ?_; rintro e w9 ⟨rfl, b9⟩))
      go_ret
      exact ⟨by simp, bl_trans b6 (bl_trans bel (bl_trans b8 b9))⟩
end Go.Proofs.Ytflfpfaebndefaa
