/- The law RuleMore's walk. No claim of its own; no condition. -/
import Derived.Test.YtflfpfaebndefaaRulePure
namespace Go.Proofs.Ytflfpfaebndefaa
open Go.ChangeShapes Go.WideShapes Go.ChangeAt Go.RowKit Go.Maps Go.WideMaps
set_option linter.unusedVariables false
set_option linter.unusedSimpArgs false

theorem info90 : (Try.prog.info? 90).map (fun i => (i.zero, i.size, i.bytes)) = some (some (.agg #[.int .i64 0, .int .i64 0, .int .i64 0, .string ⟨#[]⟩, .int .i64 0, .int .i64 0, .string ⟨#[]⟩]), 7, 72) := by kernel_rfl

theorem enough_any (r : Rule) (q : Int) (m : Mark) (l : List Vote) (A : Option Addr) (c n : Nat) (w : World) (B : Nat) (hln : n = l.length)
    (hl : l.length ≤ 2097152) (hr : kVote.Row 90 B w A l) (hn : IntOk r.n) :
    Calls Try.prog 20 #[.agg #[.int .i64 r.kind, .int .i64 r.n], .int .i64 q, .agg #[.int .i64 m.view, .int .i64 m.height, .string m.block], .slice A n c] w
      fun e w' => e = .returned (.bool (enoughF r q m l)) ∧ Below w.heap.size w w' := by
  subst hln
  exact enough_calls r q m l A c w B hl hr hn

theorem more_at (r : Rule) (q : Int) (m : Mark) (a b : List Vote) (A A' : Option Addr) (c c' : Nat) (w : World)
    (ha : a.length ≤ 1048576) (hb : b.length ≤ 1048576) (hra : kVote.Row 90 w.heap.size w A a) (hrb : kVote.Row 90 w.heap.size w A' b) (hn : IntOk r.n) (X : Bool) (hX : Hid (enoughF r q m ([] ++ a ++ b) = X)) (hY : Hid (enoughF r q m ([] ++ b ++ a) = X)) (hA : X = false → enoughF r q m a = false) :
    Calls Try.prog 6 #[.agg #[.int .i64 r.kind, .int .i64 r.n], .int .i64 q, .agg #[.int .i64 m.view, .int .i64 m.height, .string m.block], .slice A a.length c, .slice A' b.length c'] w
      fun e w' => e = .returned (.bool true) ∧ Below w.heap.size w w' := by
  have hA3 : X = false → Hid (enoughF r q m a = false) := hA
  clear hA
  obtain ⟨i0, hi, hz0, hz1, hz2⟩ := info_parts info90
  obtain ⟨q1, q2⟩ := alloc2_new w (.cells #[.int .i64 r.kind, .int .i64 r.n] 30) (.cells #[.int .i64 m.view, .int .i64 m.height, .string m.block] 32)
  have q3 := bl_alloc (bl_alloc (Below.refl w.heap.size w) (.cells #[.int .i64 r.kind, .int .i64 r.n] 30)) (.cells #[.int .i64 m.view, .int .i64 m.height, .string m.block] 32)
  generalize hW : (w.alloc (.cells #[.int .i64 r.kind, .int .i64 r.n] 30)).alloc (.cells #[.int .i64 m.view, .int .i64 m.height, .string m.block] 32) = W at *
  have HW := Lib.hid hW
  clear hW
  have hsz := q3.size
  have hraW := Kd.row_below q3 hra
  have hrbW := Kd.row_below q3 hrb
  cases X with
  | true =>
    clear hA3
    go_enter Try.func6, Try.ntmps6
    go_wp2_with (first
        | (go_at_call 19; rw [HW.out]; refine (alive21_calls _).mono ?_; rintro e w1 ⟨rfl, b1⟩)
        | (at_builtin; refine wpList_append_row _ rfl (.tmp 16) (.tmp 17) 33 rfl kVote w.heap.size W.heap.size 90 i0 _ 72 Try.underlying33 hi hz0 hz1 hz2 rfl (by decide) (.slice none 0 0) [] rfl (Kd.own_nil kVote 90 w.heap.size _ W.heap.size) A c _ a rfl rfl (Kd.row_below b1 hraW) (by simp only [List.length_nil, List.length_append]; omega) (by decide) b1.size hsz (by decide) ?_; intro v2 w2 own2 grw2 at2; have b2 := Kd.own_step b1 (Kd.own_nil kVote 90 w.heap.size _ W.heap.size) grw2)
        | (at_builtin; refine wpList_append_row _ rfl (.tmp 18) (.tmp 19) 33 rfl kVote w.heap.size W.heap.size 90 i0 _ 72 Try.underlying33 hi hz0 hz1 hz2 rfl (by decide) v2 ([] ++ a) rfl own2 A' c' _ b rfl rfl (Kd.row_below b2 hrbW) (by simp only [List.length_nil, List.length_append]; omega) (by decide) b2.size hsz (by decide) ?_; intro v3 w3 own3 grw3 at3; have b3 := Kd.own_step b2 own2 grw3; obtain ⟨A3, c3, rfl, hl3, hm3, row3, hz3⟩ := Kd.own_row own3; clear own2 at2 at3)
        | (at_builtin; refine wpList_append_row _ rfl (.tmp 21) (.tmp 22) 33 rfl kVote w.heap.size W.heap.size 90 i0 _ 72 Try.underlying33 hi hz0 hz1 hz2 rfl (by decide) (.slice none 0 0) [] rfl (Kd.own_nil kVote 90 w.heap.size _ W.heap.size) A' c' _ b rfl rfl (Kd.row_below b3 hrbW) (by simp only [List.length_nil, List.length_append]; omega) (by decide) b3.size hsz (by decide) ?_; intro v4 w4 own4 grw4 at4; have b4 := Kd.own_step b3 (Kd.own_nil kVote 90 w.heap.size _ W.heap.size) grw4; have n4 := bl_grown (Below.refl w3.heap.size w3) grw4 (by simp [Value.ownBlock]))
        | (at_builtin; refine wpList_append_row _ rfl (.tmp 23) (.tmp 24) 33 rfl kVote w.heap.size W.heap.size 90 i0 _ 72 Try.underlying33 hi hz0 hz1 hz2 rfl (by decide) v4 ([] ++ b) rfl own4 A c _ a rfl rfl (Kd.row_below b4 hraW) (by simp only [List.length_nil, List.length_append]; omega) (by decide) b4.size hsz (by decide) ?_; intro v5 w5 own5 grw5 at5; have b5 := Kd.own_step b4 own4 grw5; have n5 := bl_grown n4 grw5 (fun k hk => by rcases at4 with e | e <;> rw [e] at hk <;> simp [Value.ownBlock] at hk; omega); have row3' := Kd.row_below n5 row3; obtain ⟨A5, c5, rfl, hl5, hm5, row5, hz5⟩ := Kd.own_row own5; have rowa := Kd.row_below b5 hraW; have x0 := block_cell (block_below b5 q1) (i := 0) rfl; have x1 := block_cell (block_below b5 q1) (i := 1) rfl; have y0 := block_cell (block_below b5 q2) (i := 0) rfl; have y1 := block_cell (block_below b5 q2) (i := 1) rfl; have y2 := block_cell (block_below b5 q2) (i := 2) rfl; clear own3 own4 at4 at5)
        | (go_at_call 20; first
            | ((with_reducible refine (enough_any r q m ([] ++ a ++ b) A3 c3 _ _ w.heap.size (by simp) (by simp only [List.length_nil, List.length_append]; omega) (by first | exact row3' | exact Kd.row_below (by assumption) row3') hn).mono ?_); rw [hX.out]; rintro e w6 ⟨rfl, hb6⟩; have b6 := bl_trans b5 hb6; have u0 := cell_below hb6 x0; have u1 := cell_below hb6 x1; have u2 := cell_below hb6 y0; have u3 := cell_below hb6 y1; have u4 := cell_below hb6 y2)
            | ((with_reducible refine (enough_any r q m ([] ++ b ++ a) A5 c5 _ _ w.heap.size (by simp) (by simp only [List.length_nil, List.length_append]; omega) (by exact Kd.row_below (by assumption) row5) hn).mono ?_); rw [hY.out]; rintro e w7 ⟨rfl, hb7⟩; have b7 := bl_trans b6 hb7; have t0 := cell_below hb7 u0; have t1 := cell_below hb7 u1; have t2 := cell_below hb7 u2; have t3 := cell_below hb7 u3; have t4 := cell_below hb7 u4)
            | (((refine (enough_any r q m a A c _ _ w.heap.size rfl (by omega) (Kd.row_below b7 hraW) hn).mono ?_)); rw [hA3.out]; rintro e w8 ⟨rfl, hb8⟩; have b8 := bl_trans b7 hb8)))
    go_ret
    exact ⟨rfl, bl_trans q3 b7⟩
  | false =>
    replace hA3 := hA3 rfl
    go_enter Try.func6, Try.ntmps6
    go_wp2_with (first
        | (go_at_call 19; rw [HW.out]; refine (alive21_calls _).mono ?_; rintro e w1 ⟨rfl, b1⟩)
        | (at_builtin; refine wpList_append_row _ rfl (.tmp 16) (.tmp 17) 33 rfl kVote w.heap.size W.heap.size 90 i0 _ 72 Try.underlying33 hi hz0 hz1 hz2 rfl (by decide) (.slice none 0 0) [] rfl (Kd.own_nil kVote 90 w.heap.size _ W.heap.size) A c _ a rfl rfl (Kd.row_below b1 hraW) (by simp only [List.length_nil, List.length_append]; omega) (by decide) b1.size hsz (by decide) ?_; intro v2 w2 own2 grw2 at2; have b2 := Kd.own_step b1 (Kd.own_nil kVote 90 w.heap.size _ W.heap.size) grw2)
        | (at_builtin; refine wpList_append_row _ rfl (.tmp 18) (.tmp 19) 33 rfl kVote w.heap.size W.heap.size 90 i0 _ 72 Try.underlying33 hi hz0 hz1 hz2 rfl (by decide) v2 ([] ++ a) rfl own2 A' c' _ b rfl rfl (Kd.row_below b2 hrbW) (by simp only [List.length_nil, List.length_append]; omega) (by decide) b2.size hsz (by decide) ?_; intro v3 w3 own3 grw3 at3; have b3 := Kd.own_step b2 own2 grw3; obtain ⟨A3, c3, rfl, hl3, hm3, row3, hz3⟩ := Kd.own_row own3; clear own2 at2 at3)
        | (at_builtin; refine wpList_append_row _ rfl (.tmp 21) (.tmp 22) 33 rfl kVote w.heap.size W.heap.size 90 i0 _ 72 Try.underlying33 hi hz0 hz1 hz2 rfl (by decide) (.slice none 0 0) [] rfl (Kd.own_nil kVote 90 w.heap.size _ W.heap.size) A' c' _ b rfl rfl (Kd.row_below b3 hrbW) (by simp only [List.length_nil, List.length_append]; omega) (by decide) b3.size hsz (by decide) ?_; intro v4 w4 own4 grw4 at4; have b4 := Kd.own_step b3 (Kd.own_nil kVote 90 w.heap.size _ W.heap.size) grw4; have n4 := bl_grown (Below.refl w3.heap.size w3) grw4 (by simp [Value.ownBlock]))
        | (at_builtin; refine wpList_append_row _ rfl (.tmp 23) (.tmp 24) 33 rfl kVote w.heap.size W.heap.size 90 i0 _ 72 Try.underlying33 hi hz0 hz1 hz2 rfl (by decide) v4 ([] ++ b) rfl own4 A c _ a rfl rfl (Kd.row_below b4 hraW) (by simp only [List.length_nil, List.length_append]; omega) (by decide) b4.size hsz (by decide) ?_; intro v5 w5 own5 grw5 at5; have b5 := Kd.own_step b4 own4 grw5; have n5 := bl_grown n4 grw5 (fun k hk => by rcases at4 with e | e <;> rw [e] at hk <;> simp [Value.ownBlock] at hk; omega); have row3' := Kd.row_below n5 row3; obtain ⟨A5, c5, rfl, hl5, hm5, row5, hz5⟩ := Kd.own_row own5; have rowa := Kd.row_below b5 hraW; have x0 := block_cell (block_below b5 q1) (i := 0) rfl; have x1 := block_cell (block_below b5 q1) (i := 1) rfl; have y0 := block_cell (block_below b5 q2) (i := 0) rfl; have y1 := block_cell (block_below b5 q2) (i := 1) rfl; have y2 := block_cell (block_below b5 q2) (i := 2) rfl; clear own3 own4 at4 at5)
        | (go_at_call 20; first
            | ((with_reducible refine (enough_any r q m ([] ++ a ++ b) A3 c3 _ _ w.heap.size (by simp) (by simp only [List.length_nil, List.length_append]; omega) (by first | exact row3' | exact Kd.row_below (by assumption) row3') hn).mono ?_); rw [hX.out]; rintro e w6 ⟨rfl, hb6⟩; have b6 := bl_trans b5 hb6; have u0 := cell_below hb6 x0; have u1 := cell_below hb6 x1; have u2 := cell_below hb6 y0; have u3 := cell_below hb6 y1; have u4 := cell_below hb6 y2)
            | ((with_reducible refine (enough_any r q m ([] ++ b ++ a) A5 c5 _ _ w.heap.size (by simp) (by simp only [List.length_nil, List.length_append]; omega) (by exact Kd.row_below (by assumption) row5) hn).mono ?_); rw [hY.out]; rintro e w7 ⟨rfl, hb7⟩; have b7 := bl_trans b6 hb7; have t0 := cell_below hb7 u0; have t1 := cell_below hb7 u1; have t2 := cell_below hb7 u2; have t3 := cell_below hb7 u3; have t4 := cell_below hb7 u4)
            | (((refine (enough_any r q m a A c _ _ w.heap.size rfl (by omega) (Kd.row_below b7 hraW) hn).mono ?_)); rw [hA3.out]; rintro e w8 ⟨rfl, hb8⟩; have b8 := bl_trans b7 hb8)))
    go_ret
    exact ⟨rfl, bl_trans q3 b8⟩
theorem more_walk (r : Rule) (q : Int) (m : Mark) (a b : List Vote) (A A' : Option Addr) (c c' : Nat) (w : World)
    (ha : a.length ≤ 1048576) (hb : b.length ≤ 1048576) (hra : kVote.Row 90 w.heap.size w A a) (hrb : kVote.Row 90 w.heap.size w A' b) (hn : IntOk r.n) :
    Calls Try.prog 6 #[.agg #[.int .i64 r.kind, .int .i64 r.n], .int .i64 q, .agg #[.int .i64 m.view, .int .i64 m.height, .string m.block], .slice A a.length c, .slice A' b.length c'] w
      fun e w' => e = .returned (.bool true) ∧ Below w.heap.size w w' :=
  more_at r q m a b A A' c c' w ha hb hra hrb hn (enoughF r q m (a ++ b)) rfl (by show enoughF r q m ([] ++ b ++ a) = _; rw [List.nil_append, enoughF_swap]) (fun h => enoughF_more r q m a b h)
end Go.Proofs.Ytflfpfaebndefaa
