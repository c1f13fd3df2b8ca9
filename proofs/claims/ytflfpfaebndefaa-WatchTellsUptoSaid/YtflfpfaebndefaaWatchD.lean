/- Package mootlaw27: the walk of WatchTells. No claim of its own; no condition. -/
import Derived.Deep.CutBlock
import Derived.Test.YtflfpfaebndefaaWatchC
namespace Go.Proofs.Ytflfpfaebndefaa
open Go.ChangeShapes Go.WideShapes Go.ChangeAt Go.RowKit
set_option linter.unusedVariables false
set_option linter.unusedSimpArgs false
attribute [local go_sem high] run_max2 run_min2
theorem take_full {α : Type} {a b : List α} {k : Nat} (h : a.take (k + 1) = b.take (k + 1)) : a.take k = b.take k := by
  have := congrArg (List.take k) h
  simpa [List.take_take, Nat.min_eq_left (Nat.le_succ k)] using this
theorem take_next {a b : List ByteArray} {k : Nat} {x y : ByteArray} (ha : a[k]? = some x) (hb : b[k]? = some y) (h : a.take k = b.take k) : decide (a.take (k + 1) = b.take (k + 1)) = (x.toList == y.toList) := by
  rw [bytes_beq]
  by_cases e : x = y
  · subst e
    simp [take_step ha hb h]
  · have : ¬ a.take (k + 1) = b.take (k + 1) := by
      intro h2
      have h3 := congrArg (fun l => l[k]?) h2
      simp only [List.getElem?_take, Nat.lt_succ_self, if_pos, ha, hb] at h3
      exact e (Option.some.inj h3)
    simp [e, this]
set_option maxHeartbeats 1600000 in
set_option maxRecDepth 100000 in
theorem watch_at (r : Rule) (n q s : Int) (a b : List ByteArray) (A A' : Option Addr) (c c' : Nat) (w : World) (B : Nat) (hn : IntOk n) (hs : IntOk s) (hl : a.length ≤ 1048576) (hl' : b.length ≤ 1048576) (hc : a.length ≤ c) (hc' : b.length ≤ c') (hra : Kd.str.Row 9 B w A a) (hrb : Kd.str.Row 9 B w A' b) :
    Calls Try.prog 9 #[.agg #[.int .i64 r.kind, .int .i64 r.n], .int .i64 n, .int .i64 q, .int .i64 s, .slice A a.length c, .slice A' b.length c'] w fun e w' => e = .returned (.bool true) ∧ Below w.heap.size w w' := by
  have q0 := bl_alloc (Below.refl w.heap.size w) (.cells #[.int .i64 r.kind, .int .i64 r.n] 30)
  have b0 := alloc_new w (.cells #[.int .i64 r.kind, .int .i64 r.n] 30)
  generalize hW : w.alloc (.cells #[.int .i64 r.kind, .int .i64 r.n] 30) = W at *
  have HW := Lib.hid hW
  clear hW
  go_enter Try.func9, Try.ntmps9
  go_upto_block 0 with fail
  rw [HW.out]
  have hk7 := capN_le n
  go_cut [13] (fun v w' => v = .int .i64 (cntF s (capN n)) ∧ w' = W)
  case first =>
    go_wp2_with fail
    go_loop [13, 14] (fun nv kv => ∃ k : Nat, k ≤ capN n ∧ kv = .int .i64 k ∧ nv = .int .i64 (cntF s k)) (fun _ kv => capN n - (intOf kv).toNat)
    case atStart => exact ⟨0, by omega, rfl, rfl⟩
    case round =>
      obtain ⟨k, h1, rfl, rfl⟩ := hrel
      by_cases h : k < capN n
      · have h7 := capN_le n
        have u1 : decide ((k : Int) < 7) = true := by simp; omega
        have u2 : decide ((k : Int) < n) = true := by unfold capN at h; simp; omega
        have he : bits BinOp.and IntKind.i64 (s / 2 ^ k) 1 = bitI s k := and_one _
        have hb := cntF_bd s k
        have hs1 : (bitI s k == 1) = true → cntF s (k + 1) = cntF s k + 1 := fun h => by simp at h; simp [cntF, h]
        have hs0 : (bitI s k == 1) = false → cntF s (k + 1) = cntF s k := fun h => by
          have := bitI_or s k
          simp at h
          simp only [cntF]
          omega
        have HE := Lib.hid he
        have HS1 := Lib.hid hs1
        have HS0 := Lib.hid hs0
        clear he hs1 hs0
        go_wp2
        · rename_i hb2
          rw [HE.out] at hb2
          have e := (show (bitI s k == 1) = true → cntF s (k + 1) = cntF s k + 1 from HS1.out) hb2
          go_round
          case rel => exact ⟨k + 1, by omega, by go_num, by rw [e]⟩
          case measure => simp [intOf]; go_num
        · rename_i hb2
          rw [HE.out] at hb2
          have e := (show (bitI s k == 1) = false → cntF s (k + 1) = cntF s k from HS0.out) hb2
          go_round
          case rel => exact ⟨k + 1, by omega, by go_num, by rw [e]⟩
          case measure => simp [intOf]; go_num
      · have hk : k = capN n := by omega
        subst hk
        have us : decide ((capN n : Int) < 7) = false ∨ (decide ((capN n : Int) < 7) = true ∧ decide ((capN n : Int) < n) = false) := by
          simp only [decide_eq_true_eq, decide_eq_false_iff_not]
          unfold capN
          omega
        rcases us with u1 | ⟨u1, u2⟩
        all_goals
          go_wp2_with fail
          go_meet
          exact ⟨rfl, rfl⟩
  case rest =>
    obtain ⟨rfl, rfl⟩ := hcut
    have c0 := block_cell b0 (i := 0) rfl
    have c1 := block_cell b0 (i := 1) rfl
    have hbd := cntF_bd s (capN n)
    go_upto_region 7 with fail
    go_cut [15] (fun v w' => (∃ x : Bool, v = .bool x ∧ (x = true ↔ 0 ≤ r.n ∧ r.n ≤ 7 ∧ 0 ≤ n ∧ n ≤ 7 ∧ 0 ≤ q ∧ q ≤ 7)) ∧ w' = wc)
    case first =>
      go_wp2_with fail
      all_goals go_meet
      all_goals
        refine ⟨⟨_, rfl, ?_⟩, rfl⟩
        simp
        try omega
    case rest =>
      obtain ⟨⟨x, rfl, hx⟩, rfl⟩ := hcut
      clear b0 hbd
      go_upto_block 2 with fail
      go_cut [16] (fun v w' => v = .bool (prefixF a b) ∧ Below wc.heap.size wc w')
      case first =>
        go_wp2_with fail
        go_loopw [16, 17] (fun gv kv w' => ∃ (k : Nat) (g : Bool), k ≤ min a.length b.length ∧ kv = .int .i64 k ∧ gv = .bool g ∧ Hid (g = decide (a.take k = b.take k)) ∧ Below wc.heap.size wc w') (fun _ kv _ => a.length - (intOf kv).toNat)
        case atStart => exact ⟨0, true, by omega, rfl, rfl, Lib.hid (by simp), Below.refl _ _⟩
        case round =>
          obtain ⟨k, g, g1, rfl, rfl, g2, bel⟩ := hrel
          by_cases hk : k < min a.length b.length
          · obtain ⟨y, hy⟩ : ∃ y, a[k]? = some y := ⟨_, List.getElem?_eq_getElem (by omega)⟩
            obtain ⟨z, hz⟩ : ∃ z, b[k]? = some z := ⟨_, List.getElem?_eq_getElem (by omega)⟩
            obtain ⟨ad, rfl, e1, _⟩ := str_at (Kd.row_below (bl_trans q0 bel) hra) hy
            obtain ⟨ad', rfl, e2, _⟩ := str_at (Kd.row_below (bl_trans q0 bel) hrb) hz
            have hi1 : (k : Int) < (a.length : Int) := by omega
            have hi2 : (k : Int) < (b.length : Int) := by omega
            cases g with
            | true =>
              have hn := take_next hy hz (by simpa using g2.out.symm)
              have HN := Lib.hid hn
              clear hn hy hz g2
              go_wp2_with fail
              go_quiet (fail)
              go_wp2_with fail
              go_roundw
              case rel => exact ⟨k + 1, _, by omega, by go_num, rfl, Lib.hid HN.out.symm, bl_drewN bel _⟩
              case measure => simp [intOf]; omega
            | false =>
              have hn : decide (a.take (k + 1) = b.take (k + 1)) = false := by
                have := g2.out
                simp only [decide_eq_false_iff_not]
                intro h2
                rw [take_full h2] at this
                simp at this
              have HN := Lib.hid hn
              clear hn hy hz g2
              go_wp2_with fail
              go_quiet (fail)
              go_wp2_with fail
              go_roundw
              case rel => exact ⟨k + 1, _, by omega, by go_num, rfl, Lib.hid HN.out.symm, bl_drewN bel _⟩
              case measure => simp [intOf]; omega
          · have hkM : k = min a.length b.length := by omega
            have hp : g = prefixF a b := by rw [g2.out, hkM]; rfl
            have ue : decide (k < a.length) = false ∨ (decide (k < a.length) = true ∧ decide (k < b.length) = false) := by
              simp only [decide_eq_true_eq, decide_eq_false_iff_not]
              omega
            clear g2 hkM hk
            rcases ue with ue1 | ⟨ue1, ue2⟩
            all_goals
              go_wp2_with fail
              go_meet
              exact ⟨by rw [hp], bel⟩
      case rest =>
        obtain ⟨rfl, bel⟩ := hcut
        rename_i wz
        have hf : faultsF s n = cntF s (capN n) := cnt_eq s (capN n) hk7
        have f0 := cell_below bel c0
        have f1 := cell_below bel c1
        have d0 := held_cell f0
        have d1 := held_cell f1
        have q1 := bl_trans q0 bel
        have ra1 := Kd.row_below q1 hra
        have rb1 := Kd.row_below q1 hrb
        have qc : ((r.kind == 1) = true ∧ x = true ∧ quorumF r n q s = decide (cntF s (capN n) ≤ r.n + q - n - 1) ∧ IntKind.i64.wrap (r.n + q) = r.n + q ∧ IntKind.i64.wrap (r.n + q - n) = r.n + q - n ∧ IntKind.i64.wrap (r.n + q - n - 1) = r.n + q - n - 1)
            ∨ ((r.kind == 1) = true ∧ x = false ∧ quorumF r n q s = false) ∨ ((r.kind == 1) = false ∧ quorumF r n q s = false) := by
          by_cases hk1 : r.kind = 1
          · cases x with
            | true =>
              have hx2 := hx.1 rfl
              refine .inl ⟨by simp [hk1], rfl, ?_, IntWalk.i64_in _ (by omega), IntWalk.i64_in _ (by omega), IntWalk.i64_in _ (by omega)⟩
              have e1 : decide (max r.n (max n q) ≤ 7) = true := by simp; omega
              have e2 : decide (0 ≤ min r.n (min n q)) = true := by simp; omega
              simp only [quorumF, hk1, e1, e2, hf]
              rfl
            | false =>
              refine .inr (.inl ⟨by simp [hk1], rfl, ?_⟩)
              have hx2 : ¬ (0 ≤ r.n ∧ r.n ≤ 7 ∧ 0 ≤ n ∧ n ≤ 7 ∧ 0 ≤ q ∧ q ≤ 7) := fun h => by simpa using hx.2 h
              have e1 : decide (max r.n (max n q) ≤ 7) = false ∨ decide (0 ≤ min r.n (min n q)) = false := by
                simp only [decide_eq_false_iff_not]
                omega
              rcases e1 with e1 | e1 <;> simp [quorumF, e1]
          · exact .inr (.inr ⟨by simp [hk1], by simp [quorumF, hk1]⟩)
        have HF := Lib.hid hf
        clear hf hx c0 c1 f0 f1
        generalize hwx : wc = wx at *
        clear hwx
        go_wp2_with fail
        rcases qc with ⟨k1, rfl, hq, s1, s2, s3⟩ | ⟨k1, rfl, hq⟩ | ⟨k1, hq⟩
        · have HQ := Lib.hid hq
          clear hq
          go_region_held3 (fun w' => Below wx.heap.size wx w') (first | exact Below.refl _ _ | (apply bl_drew; exact Below.refl _ _) | (refine bl_trans ?_ (by assumption); assumption)) ((first
            | (go_at_call 26; refine (faults_calls s n _).mono ?_; rw [HF.out]; rintro e w' ⟨rfl, rfl⟩)
            | (go_at_call 27; refine (quorum_calls r n q s _).mono ?_; rw [HQ.out]; rintro e w' ⟨rfl, hb⟩)
            | (go_at_call 28; refine (prefix_calls a b A A' _ c _ c' _ B B rfl rfl hl hl' hc hc' (Kd.row_below (by assumption) ra1) (Kd.row_below (by assumption) rb1)).mono ?_; rintro e w' ⟨rfl, hb⟩)
            | (go_at_call 29; refine (alive27_calls _).mono ?_; rintro e w' ⟨rfl, hb⟩)))
          all_goals
            go_wp2_with fail
            go_ret
            exact ⟨by simp, bl_trans q1 (by assumption)⟩
        · have HQ := Lib.hid hq
          clear hq
          refine wp_region_held_drew (S := (fun w' => Below wx.heap.size wx w')) (by kernel_rfl) ?_ (fun hHeld => ?_)
          · (try dsimp only); first | exact Below.refl _ _ | (apply bl_drew; exact Below.refl _ _) | (refine bl_trans ?_ (by assumption); assumption)
          refine wpAnyH_take (i := 0) (oi := { dst := some 83, op := Op.move (Operand.tmp 3), type := 3, pos := "law.go:43", after := #[], guard := none }) (v := ?_) rfl (by kernel_rfl) (by kernel_rfl) (by kernel_rfl) (fun _ _ _ h => h) (Or.inl ⟨by rfl, ?_⟩) hHeld ?_
          rotate_left
          · intro w0 hSw; (try dsimp only at hSw); go_simp; try with_reducible rfl
          try simp only [Act.put, List.setIfInBounds_toArray, List.set_cons_zero, List.set_cons_succ]
          refine wpAnyH_take (i := 1) (oi := { dst := some 84, op := Op.move (Operand.tmp 1), type := 3, pos := "law.go:43", after := #[], guard := none }) (v := ?_) rfl (by kernel_rfl) (by kernel_rfl) (by kernel_rfl) (fun _ _ _ h => h) (Or.inl ⟨by rfl, ?_⟩) hHeld ?_
          rotate_left
          · intro w0 hSw; (try dsimp only at hSw); go_simp; try with_reducible rfl
          try simp only [Act.put, List.setIfInBounds_toArray, List.set_cons_zero, List.set_cons_succ]
          refine wpAnyH_take (i := 3) (oi := { dst := some 86, op := Op.move (Operand.tmp 13), type := 3, pos := "law.go:43", after := #[], guard := none }) (v := ?_) rfl (by kernel_rfl) (by kernel_rfl) (by kernel_rfl) (fun _ _ _ h => h) (Or.inl ⟨by rfl, ?_⟩) hHeld ?_
          rotate_left
          · intro w0 hSw; (try dsimp only at hSw); go_simp; try with_reducible rfl
          try simp only [Act.put, List.setIfInBounds_toArray, List.set_cons_zero, List.set_cons_succ]
          refine wpAnyH_ready (rs := [2]) (by kernel_rfl) (by simp) ?_
          refine AllReadyH.cons (o := { dst := some 85, op := Op.call { callee := Callee.value (Operand.func 26), args := #[Operand.tmp 83, Operand.tmp 84], argTypes := #[3, 3] }, type := 3, pos := "law.go:43", after := #[{ on := 0, ground := Ground.data }, { on := 1, ground := Ground.data }], guard := none }) rfl (fun K hK => ?_) AllReadyH.nil
          go_simp
          first
            | (go_at_call 26; refine (faults_calls s n _).mono ?_; rw [HF.out]; rintro e w' ⟨rfl, rfl⟩)
            | (go_at_call 27; refine (quorum_calls r n q s _).mono ?_; rw [HQ.out]; rintro e w' ⟨rfl, hb⟩)
            | (go_at_call 28; refine (prefix_calls a b A A' _ c _ c' _ B B rfl rfl hl hl' hc hc' (Kd.row_below (by assumption) ra1) (Kd.row_below (by assumption) rb1)).mono ?_; rintro e w' ⟨rfl, hb⟩)
            | (go_at_call 29; refine (alive27_calls _).mono ?_; rintro e w' ⟨rfl, hb⟩)
          refine hK.out _ _ ?_ (fun hHeld => ?_)
          · (try dsimp only); first | exact Below.refl _ _ | (apply bl_drew; exact Below.refl _ _) | (refine bl_trans ?_ (by assumption); assumption)
          clear hK K
          try simp only [Act.put, List.setIfInBounds_toArray, List.set_cons_zero, List.set_cons_succ]
          refine wpAnyH_take (i := 4) (oi := { dst := some 87, op := Op.binOp BinOp.eql 3 (Operand.tmp 85) (Operand.tmp 86) 3, type := 4, pos := "law.go:43", after := #[{ on := 2, ground := Ground.data }, { on := 3, ground := Ground.data }], guard := none }) (v := ?_) rfl (by kernel_rfl) (by kernel_rfl) (by kernel_rfl) (fun _ _ _ h => h) (Or.inl ⟨by rfl, ?_⟩) hHeld ?_
          rotate_left
          · intro w0 hSw; (try dsimp only at hSw); go_simp; try with_reducible rfl
          try simp only [Act.put, List.setIfInBounds_toArray, List.set_cons_zero, List.set_cons_succ]
          refine wpAnyH_take (i := 5) (oi := { dst := some 88, op := Op.move (Operand.tmp 87), type := 4, pos := "law.go:43", after := #[{ on := 4, ground := Ground.data }, { on := 2, ground := Ground.chain }], guard := none }) (v := ?_) rfl (by kernel_rfl) (by kernel_rfl) (by kernel_rfl) (fun _ _ _ h => h) (Or.inl ⟨by rfl, ?_⟩) hHeld ?_
          rotate_left
          · intro w0 hSw; (try dsimp only at hSw); go_simp; try with_reducible rfl
          try simp only [Act.put, List.setIfInBounds_toArray, List.set_cons_zero, List.set_cons_succ]
          refine wpAnyH_take (i := 6) (oi := { dst := some 89, op := Op.load 30 (Operand.tmp 6), type := 30, pos := "law.go:43", after := #[{ on := 5, ground := Ground.guard }], guard := some (5, true) }) (v := ?_) rfl (by kernel_rfl) (by kernel_rfl) (by kernel_rfl) (fun _ _ _ h => h) (Or.inl ⟨by rfl, ?_⟩) hHeld ?_
          rotate_left
          · intro w0 hSw; (try dsimp only at hSw); go_simp; try with_reducible rfl
          try simp only [Act.put, List.setIfInBounds_toArray, List.set_cons_zero, List.set_cons_succ]
          refine wpAnyH_take (i := 7) (oi := { dst := some 90, op := Op.move (Operand.tmp 1), type := 3, pos := "law.go:43", after := #[{ on := 5, ground := Ground.guard }], guard := some (5, true) }) (v := ?_) rfl (by kernel_rfl) (by kernel_rfl) (by kernel_rfl) (fun _ _ _ h => h) (Or.inl ⟨by rfl, ?_⟩) hHeld ?_
          rotate_left
          · intro w0 hSw; (try dsimp only at hSw); go_simp; try with_reducible rfl
          try simp only [Act.put, List.setIfInBounds_toArray, List.set_cons_zero, List.set_cons_succ]
          refine wpAnyH_take (i := 8) (oi := { dst := some 91, op := Op.move (Operand.tmp 2), type := 3, pos := "law.go:43", after := #[{ on := 5, ground := Ground.guard }], guard := some (5, true) }) (v := ?_) rfl (by kernel_rfl) (by kernel_rfl) (by kernel_rfl) (fun _ _ _ h => h) (Or.inl ⟨by rfl, ?_⟩) hHeld ?_
          rotate_left
          · intro w0 hSw; (try dsimp only at hSw); go_simp; try with_reducible rfl
          try simp only [Act.put, List.setIfInBounds_toArray, List.set_cons_zero, List.set_cons_succ]
          refine wpAnyH_take (i := 9) (oi := { dst := some 92, op := Op.move (Operand.tmp 3), type := 3, pos := "law.go:43", after := #[{ on := 5, ground := Ground.guard }], guard := some (5, true) }) (v := ?_) rfl (by kernel_rfl) (by kernel_rfl) (by kernel_rfl) (fun _ _ _ h => h) (Or.inl ⟨by rfl, ?_⟩) hHeld ?_
          rotate_left
          · intro w0 hSw; (try dsimp only at hSw); go_simp; try with_reducible rfl
          try simp only [Act.put, List.setIfInBounds_toArray, List.set_cons_zero, List.set_cons_succ]
          refine wpAnyH_take (i := 11) (oi := { dst := some 94, op := Op.fieldAddr 30 (Operand.tmp 6) 0, type := 0, pos := "law.go:43", after := #[{ on := 5, ground := Ground.guard }], guard := some (5, true) }) (v := ?_) rfl (by kernel_rfl) (by kernel_rfl) (by kernel_rfl) (fun _ _ _ h => h) (Or.inl ⟨by rfl, ?_⟩) hHeld ?_
          rotate_left
          · intro w0 hSw; (try dsimp only at hSw); go_simp; try with_reducible rfl
          try simp only [Act.put, List.setIfInBounds_toArray, List.set_cons_zero, List.set_cons_succ]
          refine wpAnyH_take (i := 12) (oi := { dst := some 95, op := Op.load 3 (Operand.tmp 94), type := 3, pos := "law.go:43", after := #[{ on := 11, ground := Ground.data }, { on := 5, ground := Ground.guard }], guard := some (5, true) }) (v := ?_) rfl (by kernel_rfl) (by kernel_rfl) (by kernel_rfl) (fun _ _ _ h => h) (Or.inl ⟨by rfl, ?_⟩) hHeld ?_
          rotate_left
          · intro w0 hSw; (try dsimp only at hSw); go_simp; try with_reducible rfl
          try simp only [Act.put, List.setIfInBounds_toArray, List.set_cons_zero, List.set_cons_succ]
          refine wpAnyH_take (i := 13) (oi := { dst := some 96, op := Op.binOp BinOp.eql 3 (Operand.tmp 95) (Operand.const (Value.int IntKind.i64 1)) 3, type := 4, pos := "law.go:43", after := #[{ on := 12, ground := Ground.data }, { on := 5, ground := Ground.guard }], guard := some (5, true) }) (v := ?_) rfl (by kernel_rfl) (by kernel_rfl) (by kernel_rfl) (fun _ _ _ h => h) (Or.inl ⟨by rfl, ?_⟩) hHeld ?_
          rotate_left
          · intro w0 hSw; (try dsimp only at hSw); go_simp; try with_reducible rfl
          try simp only [Act.put, List.setIfInBounds_toArray, List.set_cons_zero, List.set_cons_succ]
          refine wpAnyH_ready (rs := [10]) (by kernel_rfl) (by simp) ?_
          refine AllReadyH.cons (o := { dst := some 93, op := Op.call { callee := Callee.value (Operand.func 27), args := #[Operand.tmp 89, Operand.tmp 90, Operand.tmp 91, Operand.tmp 92], argTypes := #[30, 3, 3, 3] }, type := 4, pos := "law.go:43", after := #[{ on := 6, ground := Ground.data }, { on := 7, ground := Ground.data }, { on := 8, ground := Ground.data }, { on := 9, ground := Ground.data }, { on := 5, ground := Ground.chain }, { on := 5, ground := Ground.guard }], guard := some (5, true) }) rfl (fun K hK => ?_) AllReadyH.nil
          go_simp
          first
            | (go_at_call 26; refine (faults_calls s n _).mono ?_; rw [HF.out]; rintro e w' ⟨rfl, rfl⟩)
            | (go_at_call 27; refine (quorum_calls r n q s _).mono ?_; rw [HQ.out]; rintro e w' ⟨rfl, hb⟩)
            | (go_at_call 28; refine (prefix_calls a b A A' _ c _ c' _ B B rfl rfl hl hl' hc hc' (Kd.row_below (by assumption) ra1) (Kd.row_below (by assumption) rb1)).mono ?_; rintro e w' ⟨rfl, hb⟩)
            | (go_at_call 29; refine (alive27_calls _).mono ?_; rintro e w' ⟨rfl, hb⟩)
          refine hK.out _ _ ?_ (fun hHeld => ?_)
          · (try dsimp only); first | exact Below.refl _ _ | (apply bl_drew; exact Below.refl _ _) | (refine bl_trans ?_ (by assumption); assumption)
          clear hK K
          try simp only [Act.put, List.setIfInBounds_toArray, List.set_cons_zero, List.set_cons_succ]
          refine wpAnyH_take (i := 14) (oi := { dst := some 97, op := Op.move (Operand.tmp 96), type := 4, pos := "law.go:43", after := #[{ on := 13, ground := Ground.data }, { on := 10, ground := Ground.chain }, { on := 5, ground := Ground.guard }], guard := some (5, true) }) (v := ?_) rfl (by kernel_rfl) (by kernel_rfl) (by kernel_rfl) (fun _ _ _ h => h) (Or.inl ⟨by rfl, ?_⟩) hHeld ?_
          rotate_left
          · intro w0 hSw; (try dsimp only at hSw); go_simp; try with_reducible rfl
          try simp only [Act.put, List.setIfInBounds_toArray, List.set_cons_zero, List.set_cons_succ]
          refine wpAnyH_take (i := 15) (oi := { dst := some 98, op := Op.move (Operand.tmp 15), type := 4, pos := "law.go:43", after := #[{ on := 14, ground := Ground.guard }], guard := some (14, true) }) (v := ?_) rfl (by kernel_rfl) (by kernel_rfl) (by kernel_rfl) (fun _ _ _ h => h) (Or.inl ⟨by rfl, ?_⟩) hHeld ?_
          rotate_left
          · intro w0 hSw; (try dsimp only at hSw); go_simp; try with_reducible rfl
          try simp only [Act.put, List.setIfInBounds_toArray, List.set_cons_zero, List.set_cons_succ]
          refine wpAnyH_take (i := 16) (oi := { dst := some 99, op := Op.pick (Operand.tmp 97) (Operand.tmp 98) (Operand.const (Value.bool false)), type := 4, pos := "law.go:43", after := #[{ on := 14, ground := Ground.data }, { on := 15, ground := Ground.data }, { on := 5, ground := Ground.guard }], guard := some (5, true) }) (v := ?_) rfl (by kernel_rfl) (by kernel_rfl) (by kernel_rfl) (fun _ _ _ h => h) (Or.inl ⟨by rfl, ?_⟩) hHeld ?_
          rotate_left
          · intro w0 hSw; (try dsimp only at hSw); go_simp; try with_reducible rfl
          try simp only [Act.put, List.setIfInBounds_toArray, List.set_cons_zero, List.set_cons_succ]
          refine wpAnyH_take (i := 17) (oi := { dst := some 100, op := Op.move (Operand.tmp 99), type := 4, pos := "law.go:43", after := #[{ on := 16, ground := Ground.data }, { on := 14, ground := Ground.chain }, { on := 5, ground := Ground.guard }], guard := some (5, true) }) (v := ?_) rfl (by kernel_rfl) (by kernel_rfl) (by kernel_rfl) (fun _ _ _ h => h) (Or.inl ⟨by rfl, ?_⟩) hHeld ?_
          rotate_left
          · intro w0 hSw; (try dsimp only at hSw); go_simp; try with_reducible rfl
          try simp only [Act.put, List.setIfInBounds_toArray, List.set_cons_zero, List.set_cons_succ]
          refine wpAnyH_take (i := 18) (oi := { dst := some 101, op := Op.move (Operand.tmp 13), type := 3, pos := "law.go:43", after := #[{ on := 17, ground := Ground.guard }], guard := some (17, true) }) (v := undef) rfl (by kernel_rfl) (by kernel_rfl) (by kernel_rfl) (fun _ _ _ h => h) (Or.inr ⟨by rfl, rfl⟩) hHeld ?_
          try simp only [Act.put, List.setIfInBounds_toArray, List.set_cons_zero, List.set_cons_succ]
          refine wpAnyH_take (i := 19) (oi := { dst := some 102, op := Op.fieldAddr 30 (Operand.tmp 6) 1, type := 0, pos := "law.go:43", after := #[{ on := 17, ground := Ground.guard }], guard := some (17, true) }) (v := undef) rfl (by kernel_rfl) (by kernel_rfl) (by kernel_rfl) (fun _ _ _ h => h) (Or.inr ⟨by rfl, rfl⟩) hHeld ?_
          try simp only [Act.put, List.setIfInBounds_toArray, List.set_cons_zero, List.set_cons_succ]
          refine wpAnyH_take (i := 20) (oi := { dst := some 103, op := Op.load 3 (Operand.tmp 102), type := 3, pos := "law.go:43", after := #[{ on := 19, ground := Ground.data }, { on := 17, ground := Ground.guard }], guard := some (17, true) }) (v := undef) rfl (by kernel_rfl) (by kernel_rfl) (by kernel_rfl) (fun _ _ _ h => h) (Or.inr ⟨by rfl, rfl⟩) hHeld ?_
          try simp only [Act.put, List.setIfInBounds_toArray, List.set_cons_zero, List.set_cons_succ]
          refine wpAnyH_take (i := 21) (oi := { dst := some 104, op := Op.move (Operand.tmp 2), type := 3, pos := "law.go:43", after := #[{ on := 17, ground := Ground.guard }], guard := some (17, true) }) (v := undef) rfl (by kernel_rfl) (by kernel_rfl) (by kernel_rfl) (fun _ _ _ h => h) (Or.inr ⟨by rfl, rfl⟩) hHeld ?_
          try simp only [Act.put, List.setIfInBounds_toArray, List.set_cons_zero, List.set_cons_succ]
          refine wpAnyH_take (i := 22) (oi := { dst := some 105, op := Op.binOp BinOp.add 3 (Operand.tmp 103) (Operand.tmp 104) 3, type := 3, pos := "law.go:43", after := #[{ on := 20, ground := Ground.data }, { on := 21, ground := Ground.data }, { on := 17, ground := Ground.guard }], guard := some (17, true) }) (v := undef) rfl (by kernel_rfl) (by kernel_rfl) (by kernel_rfl) (fun _ _ _ h => h) (Or.inr ⟨by rfl, rfl⟩) hHeld ?_
          try simp only [Act.put, List.setIfInBounds_toArray, List.set_cons_zero, List.set_cons_succ]
          refine wpAnyH_take (i := 23) (oi := { dst := some 106, op := Op.move (Operand.tmp 1), type := 3, pos := "law.go:43", after := #[{ on := 17, ground := Ground.guard }], guard := some (17, true) }) (v := undef) rfl (by kernel_rfl) (by kernel_rfl) (by kernel_rfl) (fun _ _ _ h => h) (Or.inr ⟨by rfl, rfl⟩) hHeld ?_
          try simp only [Act.put, List.setIfInBounds_toArray, List.set_cons_zero, List.set_cons_succ]
          refine wpAnyH_take (i := 24) (oi := { dst := some 107, op := Op.binOp BinOp.sub 3 (Operand.tmp 105) (Operand.tmp 106) 3, type := 3, pos := "law.go:43", after := #[{ on := 22, ground := Ground.data }, { on := 23, ground := Ground.data }, { on := 17, ground := Ground.guard }], guard := some (17, true) }) (v := undef) rfl (by kernel_rfl) (by kernel_rfl) (by kernel_rfl) (fun _ _ _ h => h) (Or.inr ⟨by rfl, rfl⟩) hHeld ?_
          try simp only [Act.put, List.setIfInBounds_toArray, List.set_cons_zero, List.set_cons_succ]
          refine wpAnyH_take (i := 25) (oi := { dst := some 108, op := Op.binOp BinOp.sub 3 (Operand.tmp 107) (Operand.const (Value.int IntKind.i64 1)) 3, type := 3, pos := "law.go:43", after := #[{ on := 24, ground := Ground.data }, { on := 17, ground := Ground.guard }], guard := some (17, true) }) (v := undef) rfl (by kernel_rfl) (by kernel_rfl) (by kernel_rfl) (fun _ _ _ h => h) (Or.inr ⟨by rfl, rfl⟩) hHeld ?_
          try simp only [Act.put, List.setIfInBounds_toArray, List.set_cons_zero, List.set_cons_succ]
          refine wpAnyH_take (i := 26) (oi := { dst := some 109, op := Op.binOp BinOp.leq 3 (Operand.tmp 101) (Operand.tmp 108) 3, type := 4, pos := "law.go:43", after := #[{ on := 18, ground := Ground.data }, { on := 25, ground := Ground.data }, { on := 17, ground := Ground.guard }], guard := some (17, true) }) (v := undef) rfl (by kernel_rfl) (by kernel_rfl) (by kernel_rfl) (fun _ _ _ h => h) (Or.inr ⟨by rfl, rfl⟩) hHeld ?_
          try simp only [Act.put, List.setIfInBounds_toArray, List.set_cons_zero, List.set_cons_succ]
          refine wpAnyH_take (i := 27) (oi := { dst := some 110, op := Op.pick (Operand.tmp 100) (Operand.tmp 109) (Operand.const (Value.bool false)), type := 4, pos := "law.go:43", after := #[{ on := 17, ground := Ground.data }, { on := 26, ground := Ground.data }, { on := 5, ground := Ground.guard }], guard := some (5, true) }) (v := ?_) rfl (by kernel_rfl) (by kernel_rfl) (by kernel_rfl) (fun _ _ _ h => h) (Or.inl ⟨by rfl, ?_⟩) hHeld ?_
          rotate_left
          · intro w0 hSw; (try dsimp only at hSw); go_simp; try with_reducible rfl
          try simp only [Act.put, List.setIfInBounds_toArray, List.set_cons_zero, List.set_cons_succ]
          refine wpAnyH_take (i := 28) (oi := { dst := some 111, op := Op.binOp BinOp.eql 4 (Operand.tmp 93) (Operand.tmp 110) 4, type := 4, pos := "law.go:43", after := #[{ on := 10, ground := Ground.data }, { on := 27, ground := Ground.data }, { on := 5, ground := Ground.guard }], guard := some (5, true) }) (v := ?_) rfl (by kernel_rfl) (by kernel_rfl) (by kernel_rfl) (fun _ _ _ h => h) (Or.inl ⟨by rfl, ?_⟩) hHeld ?_
          rotate_left
          · intro w0 hSw; (try dsimp only at hSw); go_simp; try with_reducible rfl
          try simp only [Act.put, List.setIfInBounds_toArray, List.set_cons_zero, List.set_cons_succ]
          refine wpAnyH_take (i := 29) (oi := { dst := some 112, op := Op.pick (Operand.tmp 88) (Operand.tmp 111) (Operand.const (Value.bool false)), type := 4, pos := "law.go:43", after := #[{ on := 5, ground := Ground.data }, { on := 28, ground := Ground.data }], guard := none }) (v := ?_) rfl (by kernel_rfl) (by kernel_rfl) (by kernel_rfl) (fun _ _ _ h => h) (Or.inl ⟨by rfl, ?_⟩) hHeld ?_
          rotate_left
          · intro w0 hSw; (try dsimp only at hSw); go_simp; try with_reducible rfl
          try simp only [Act.put, List.setIfInBounds_toArray, List.set_cons_zero, List.set_cons_succ]
          refine wpAnyH_take (i := 30) (oi := { dst := some 113, op := Op.move (Operand.tmp 112), type := 4, pos := "law.go:43", after := #[{ on := 29, ground := Ground.data }, { on := 17, ground := Ground.chain }], guard := none }) (v := ?_) rfl (by kernel_rfl) (by kernel_rfl) (by kernel_rfl) (fun _ _ _ h => h) (Or.inl ⟨by rfl, ?_⟩) hHeld ?_
          rotate_left
          · intro w0 hSw; (try dsimp only at hSw); go_simp; try with_reducible rfl
          try simp only [Act.put, List.setIfInBounds_toArray, List.set_cons_zero, List.set_cons_succ]
          refine wpAnyH_take (i := 31) (oi := { dst := some 114, op := Op.move (Operand.tmp 4), type := 40, pos := "law.go:43", after := #[{ on := 30, ground := Ground.guard }], guard := some (30, true) }) (v := ?_) rfl (by kernel_rfl) (by kernel_rfl) (by kernel_rfl) (fun _ _ _ h => h) (Or.inl ⟨by rfl, ?_⟩) hHeld ?_
          rotate_left
          · intro w0 hSw; (try dsimp only at hSw); go_simp; try with_reducible rfl
          try simp only [Act.put, List.setIfInBounds_toArray, List.set_cons_zero, List.set_cons_succ]
          refine wpAnyH_take (i := 32) (oi := { dst := some 115, op := Op.move (Operand.tmp 5), type := 40, pos := "law.go:43", after := #[{ on := 30, ground := Ground.guard }], guard := some (30, true) }) (v := ?_) rfl (by kernel_rfl) (by kernel_rfl) (by kernel_rfl) (fun _ _ _ h => h) (Or.inl ⟨by rfl, ?_⟩) hHeld ?_
          rotate_left
          · intro w0 hSw; (try dsimp only at hSw); go_simp; try with_reducible rfl
          try simp only [Act.put, List.setIfInBounds_toArray, List.set_cons_zero, List.set_cons_succ]
          refine wpAnyH_take (i := 34) (oi := { dst := some 117, op := Op.move (Operand.tmp 16), type := 4, pos := "law.go:43", after := #[{ on := 30, ground := Ground.guard }], guard := some (30, true) }) (v := ?_) rfl (by kernel_rfl) (by kernel_rfl) (by kernel_rfl) (fun _ _ _ h => h) (Or.inl ⟨by rfl, ?_⟩) hHeld ?_
          rotate_left
          · intro w0 hSw; (try dsimp only at hSw); go_simp; try with_reducible rfl
          try simp only [Act.put, List.setIfInBounds_toArray, List.set_cons_zero, List.set_cons_succ]
          refine wpAnyH_ready (rs := [33]) (by kernel_rfl) (by simp) ?_
          refine AllReadyH.cons (o := { dst := some 116, op := Op.call { callee := Callee.value (Operand.func 28), args := #[Operand.tmp 114, Operand.tmp 115], argTypes := #[40, 40] }, type := 4, pos := "law.go:43", after := #[{ on := 31, ground := Ground.data }, { on := 32, ground := Ground.data }, { on := 30, ground := Ground.chain }, { on := 30, ground := Ground.guard }], guard := some (30, true) }) rfl (fun K hK => ?_) AllReadyH.nil
          go_simp
          first
            | (go_at_call 26; refine (faults_calls s n _).mono ?_; rw [HF.out]; rintro e w' ⟨rfl, rfl⟩)
            | (go_at_call 27; refine (quorum_calls r n q s _).mono ?_; rw [HQ.out]; rintro e w' ⟨rfl, hb⟩)
            | (go_at_call 28; refine (prefix_calls a b A A' _ c _ c' _ B B rfl rfl hl hl' hc hc' (Kd.row_below (by assumption) ra1) (Kd.row_below (by assumption) rb1)).mono ?_; rintro e w' ⟨rfl, hb⟩)
            | (go_at_call 29; refine (alive27_calls _).mono ?_; rintro e w' ⟨rfl, hb⟩)
          refine hK.out _ _ ?_ (fun hHeld => ?_)
          · (try dsimp only); first | exact Below.refl _ _ | (apply bl_drew; exact Below.refl _ _) | (refine bl_trans ?_ (by assumption); assumption)
          clear hK K
          try simp only [Act.put, List.setIfInBounds_toArray, List.set_cons_zero, List.set_cons_succ]
          refine wpAnyH_take (i := 35) (oi := { dst := some 118, op := Op.binOp BinOp.eql 4 (Operand.tmp 116) (Operand.tmp 117) 4, type := 4, pos := "law.go:43", after := #[{ on := 33, ground := Ground.data }, { on := 34, ground := Ground.data }, { on := 30, ground := Ground.guard }], guard := some (30, true) }) (v := ?_) rfl (by kernel_rfl) (by kernel_rfl) (by kernel_rfl) (fun _ _ _ h => h) (Or.inl ⟨by rfl, ?_⟩) hHeld ?_
          rotate_left
          · intro w0 hSw; (try dsimp only at hSw); go_simp; try with_reducible rfl
          try simp only [Act.put, List.setIfInBounds_toArray, List.set_cons_zero, List.set_cons_succ]
          refine wpAnyH_take (i := 36) (oi := { dst := some 119, op := Op.pick (Operand.tmp 113) (Operand.tmp 118) (Operand.const (Value.bool false)), type := 4, pos := "law.go:43", after := #[{ on := 30, ground := Ground.data }, { on := 35, ground := Ground.data }], guard := none }) (v := ?_) rfl (by kernel_rfl) (by kernel_rfl) (by kernel_rfl) (fun _ _ _ h => h) (Or.inl ⟨by rfl, ?_⟩) hHeld ?_
          rotate_left
          · intro w0 hSw; (try dsimp only at hSw); go_simp; try with_reducible rfl
          try simp only [Act.put, List.setIfInBounds_toArray, List.set_cons_zero, List.set_cons_succ]
          refine wpAnyH_take (i := 37) (oi := { dst := some 120, op := Op.move (Operand.tmp 119), type := 4, pos := "law.go:43", after := #[{ on := 36, ground := Ground.data }, { on := 33, ground := Ground.chain }], guard := none }) (v := ?_) rfl (by kernel_rfl) (by kernel_rfl) (by kernel_rfl) (fun _ _ _ h => h) (Or.inl ⟨by rfl, ?_⟩) hHeld ?_
          rotate_left
          · intro w0 hSw; (try dsimp only at hSw); go_simp; try with_reducible rfl
          try simp only [Act.put, List.setIfInBounds_toArray, List.set_cons_zero, List.set_cons_succ]
          refine wpAnyH_ready (rs := [38]) (by kernel_rfl) (by simp) ?_
          refine AllReadyH.cons (o := { dst := some 121, op := Op.call { callee := Callee.value (Operand.func 29), args := #[], argTypes := #[] }, type := 4, pos := "law.go:43", after := #[{ on := 37, ground := Ground.chain }, { on := 37, ground := Ground.guard }], guard := some (37, true) }) rfl (fun K hK => ?_) AllReadyH.nil
          go_simp
          first
            | (go_at_call 26; refine (faults_calls s n _).mono ?_; rw [HF.out]; rintro e w' ⟨rfl, rfl⟩)
            | (go_at_call 27; refine (quorum_calls r n q s _).mono ?_; rw [HQ.out]; rintro e w' ⟨rfl, hb⟩)
            | (go_at_call 28; refine (prefix_calls a b A A' _ c _ c' _ B B rfl rfl hl hl' hc hc' (Kd.row_below (by assumption) ra1) (Kd.row_below (by assumption) rb1)).mono ?_; rintro e w' ⟨rfl, hb⟩)
            | (go_at_call 29; refine (alive27_calls _).mono ?_; rintro e w' ⟨rfl, hb⟩)
          refine hK.out _ _ ?_ (fun hHeld => ?_)
          · (try dsimp only); first | exact Below.refl _ _ | (apply bl_drew; exact Below.refl _ _) | (refine bl_trans ?_ (by assumption); assumption)
          clear hK K
          try simp only [Act.put, List.setIfInBounds_toArray, List.set_cons_zero, List.set_cons_succ]
          refine wpAnyH_take (i := 39) (oi := { dst := some 122, op := Op.pick (Operand.tmp 120) (Operand.tmp 121) (Operand.const (Value.bool false)), type := 4, pos := "law.go:43", after := #[{ on := 37, ground := Ground.data }, { on := 38, ground := Ground.data }], guard := none }) (v := ?_) rfl (by kernel_rfl) (by kernel_rfl) (by kernel_rfl) (fun _ _ _ h => h) (Or.inl ⟨by rfl, ?_⟩) hHeld ?_
          rotate_left
          · intro w0 hSw; (try dsimp only at hSw); go_simp; try with_reducible rfl
          try simp only [Act.put, List.setIfInBounds_toArray, List.set_cons_zero, List.set_cons_succ]
          refine wpAnyH_take (i := 40) (oi := { dst := some 12, op := Op.assign (Operand.tmp 122), type := 4, pos := "law.go:43", after := #[{ on := 39, ground := Ground.data }, { on := 38, ground := Ground.chain }, { on := 0, ground := Ground.phase }, { on := 1, ground := Ground.phase }, { on := 2, ground := Ground.phase }, { on := 3, ground := Ground.phase }, { on := 4, ground := Ground.phase }, { on := 5, ground := Ground.phase }, { on := 6, ground := Ground.phase }, { on := 7, ground := Ground.phase }, { on := 8, ground := Ground.phase }, { on := 9, ground := Ground.phase }, { on := 10, ground := Ground.phase }, { on := 11, ground := Ground.phase }, { on := 12, ground := Ground.phase }, { on := 13, ground := Ground.phase }, { on := 14, ground := Ground.phase }, { on := 15, ground := Ground.phase }, { on := 16, ground := Ground.phase }, { on := 17, ground := Ground.phase }, { on := 18, ground := Ground.phase }, { on := 19, ground := Ground.phase }, { on := 20, ground := Ground.phase }, { on := 21, ground := Ground.phase }, { on := 22, ground := Ground.phase }, { on := 23, ground := Ground.phase }, { on := 24, ground := Ground.phase }, { on := 25, ground := Ground.phase }, { on := 26, ground := Ground.phase }, { on := 27, ground := Ground.phase }, { on := 28, ground := Ground.phase }, { on := 29, ground := Ground.phase }, { on := 30, ground := Ground.phase }, { on := 31, ground := Ground.phase }, { on := 32, ground := Ground.phase }, { on := 33, ground := Ground.phase }, { on := 34, ground := Ground.phase }, { on := 35, ground := Ground.phase }, { on := 36, ground := Ground.phase }, { on := 37, ground := Ground.phase }, { on := 38, ground := Ground.phase }, { on := 39, ground := Ground.phase }], guard := none }) (v := ?_) rfl (by kernel_rfl) (by kernel_rfl) (by kernel_rfl) (fun _ _ _ h => h) (Or.inl ⟨by rfl, ?_⟩) hHeld ?_
          rotate_left
          · intro w0 hSw; (try dsimp only at hSw); go_simp; try with_reducible rfl
          try simp only [Act.put, List.setIfInBounds_toArray, List.set_cons_zero, List.set_cons_succ]
          refine wpAnyH_done (by kernel_rfl) ?_ _
          go_wp2_with fail
          go_ret
          exact ⟨by simp, bl_trans q1 (by assumption)⟩
        · have HQ := Lib.hid hq
          clear hq
          refine wp_region_held_drew (S := (fun w' => Below wx.heap.size wx w')) (by kernel_rfl) ?_ (fun hHeld => ?_)
          · (try dsimp only); first | exact Below.refl _ _ | (apply bl_drew; exact Below.refl _ _) | (refine bl_trans ?_ (by assumption); assumption)
          refine wpAnyH_take (i := 0) (oi := { dst := some 83, op := Op.move (Operand.tmp 3), type := 3, pos := "law.go:43", after := #[], guard := none }) (v := ?_) rfl (by kernel_rfl) (by kernel_rfl) (by kernel_rfl) (fun _ _ _ h => h) (Or.inl ⟨by rfl, ?_⟩) hHeld ?_
          rotate_left
          · intro w0 hSw; (try dsimp only at hSw); go_simp; try with_reducible rfl
          try simp only [Act.put, List.setIfInBounds_toArray, List.set_cons_zero, List.set_cons_succ]
          refine wpAnyH_take (i := 1) (oi := { dst := some 84, op := Op.move (Operand.tmp 1), type := 3, pos := "law.go:43", after := #[], guard := none }) (v := ?_) rfl (by kernel_rfl) (by kernel_rfl) (by kernel_rfl) (fun _ _ _ h => h) (Or.inl ⟨by rfl, ?_⟩) hHeld ?_
          rotate_left
          · intro w0 hSw; (try dsimp only at hSw); go_simp; try with_reducible rfl
          try simp only [Act.put, List.setIfInBounds_toArray, List.set_cons_zero, List.set_cons_succ]
          refine wpAnyH_take (i := 3) (oi := { dst := some 86, op := Op.move (Operand.tmp 13), type := 3, pos := "law.go:43", after := #[], guard := none }) (v := ?_) rfl (by kernel_rfl) (by kernel_rfl) (by kernel_rfl) (fun _ _ _ h => h) (Or.inl ⟨by rfl, ?_⟩) hHeld ?_
          rotate_left
          · intro w0 hSw; (try dsimp only at hSw); go_simp; try with_reducible rfl
          try simp only [Act.put, List.setIfInBounds_toArray, List.set_cons_zero, List.set_cons_succ]
          refine wpAnyH_ready (rs := [2]) (by kernel_rfl) (by simp) ?_
          refine AllReadyH.cons (o := { dst := some 85, op := Op.call { callee := Callee.value (Operand.func 26), args := #[Operand.tmp 83, Operand.tmp 84], argTypes := #[3, 3] }, type := 3, pos := "law.go:43", after := #[{ on := 0, ground := Ground.data }, { on := 1, ground := Ground.data }], guard := none }) rfl (fun K hK => ?_) AllReadyH.nil
          go_simp
          first
            | (go_at_call 26; refine (faults_calls s n _).mono ?_; rw [HF.out]; rintro e w' ⟨rfl, rfl⟩)
            | (go_at_call 27; refine (quorum_calls r n q s _).mono ?_; rw [HQ.out]; rintro e w' ⟨rfl, hb⟩)
            | (go_at_call 28; refine (prefix_calls a b A A' _ c _ c' _ B B rfl rfl hl hl' hc hc' (Kd.row_below (by assumption) ra1) (Kd.row_below (by assumption) rb1)).mono ?_; rintro e w' ⟨rfl, hb⟩)
            | (go_at_call 29; refine (alive27_calls _).mono ?_; rintro e w' ⟨rfl, hb⟩)
          refine hK.out _ _ ?_ (fun hHeld => ?_)
          · (try dsimp only); first | exact Below.refl _ _ | (apply bl_drew; exact Below.refl _ _) | (refine bl_trans ?_ (by assumption); assumption)
          clear hK K
          try simp only [Act.put, List.setIfInBounds_toArray, List.set_cons_zero, List.set_cons_succ]
          refine wpAnyH_take (i := 4) (oi := { dst := some 87, op := Op.binOp BinOp.eql 3 (Operand.tmp 85) (Operand.tmp 86) 3, type := 4, pos := "law.go:43", after := #[{ on := 2, ground := Ground.data }, { on := 3, ground := Ground.data }], guard := none }) (v := ?_) rfl (by kernel_rfl) (by kernel_rfl) (by kernel_rfl) (fun _ _ _ h => h) (Or.inl ⟨by rfl, ?_⟩) hHeld ?_
          rotate_left
          · intro w0 hSw; (try dsimp only at hSw); go_simp; try with_reducible rfl
          try simp only [Act.put, List.setIfInBounds_toArray, List.set_cons_zero, List.set_cons_succ]
          refine wpAnyH_take (i := 5) (oi := { dst := some 88, op := Op.move (Operand.tmp 87), type := 4, pos := "law.go:43", after := #[{ on := 4, ground := Ground.data }, { on := 2, ground := Ground.chain }], guard := none }) (v := ?_) rfl (by kernel_rfl) (by kernel_rfl) (by kernel_rfl) (fun _ _ _ h => h) (Or.inl ⟨by rfl, ?_⟩) hHeld ?_
          rotate_left
          · intro w0 hSw; (try dsimp only at hSw); go_simp; try with_reducible rfl
          try simp only [Act.put, List.setIfInBounds_toArray, List.set_cons_zero, List.set_cons_succ]
          refine wpAnyH_take (i := 6) (oi := { dst := some 89, op := Op.load 30 (Operand.tmp 6), type := 30, pos := "law.go:43", after := #[{ on := 5, ground := Ground.guard }], guard := some (5, true) }) (v := ?_) rfl (by kernel_rfl) (by kernel_rfl) (by kernel_rfl) (fun _ _ _ h => h) (Or.inl ⟨by rfl, ?_⟩) hHeld ?_
          rotate_left
          · intro w0 hSw; (try dsimp only at hSw); go_simp; try with_reducible rfl
          try simp only [Act.put, List.setIfInBounds_toArray, List.set_cons_zero, List.set_cons_succ]
          refine wpAnyH_take (i := 7) (oi := { dst := some 90, op := Op.move (Operand.tmp 1), type := 3, pos := "law.go:43", after := #[{ on := 5, ground := Ground.guard }], guard := some (5, true) }) (v := ?_) rfl (by kernel_rfl) (by kernel_rfl) (by kernel_rfl) (fun _ _ _ h => h) (Or.inl ⟨by rfl, ?_⟩) hHeld ?_
          rotate_left
          · intro w0 hSw; (try dsimp only at hSw); go_simp; try with_reducible rfl
          try simp only [Act.put, List.setIfInBounds_toArray, List.set_cons_zero, List.set_cons_succ]
          refine wpAnyH_take (i := 8) (oi := { dst := some 91, op := Op.move (Operand.tmp 2), type := 3, pos := "law.go:43", after := #[{ on := 5, ground := Ground.guard }], guard := some (5, true) }) (v := ?_) rfl (by kernel_rfl) (by kernel_rfl) (by kernel_rfl) (fun _ _ _ h => h) (Or.inl ⟨by rfl, ?_⟩) hHeld ?_
          rotate_left
          · intro w0 hSw; (try dsimp only at hSw); go_simp; try with_reducible rfl
          try simp only [Act.put, List.setIfInBounds_toArray, List.set_cons_zero, List.set_cons_succ]
          refine wpAnyH_take (i := 9) (oi := { dst := some 92, op := Op.move (Operand.tmp 3), type := 3, pos := "law.go:43", after := #[{ on := 5, ground := Ground.guard }], guard := some (5, true) }) (v := ?_) rfl (by kernel_rfl) (by kernel_rfl) (by kernel_rfl) (fun _ _ _ h => h) (Or.inl ⟨by rfl, ?_⟩) hHeld ?_
          rotate_left
          · intro w0 hSw; (try dsimp only at hSw); go_simp; try with_reducible rfl
          try simp only [Act.put, List.setIfInBounds_toArray, List.set_cons_zero, List.set_cons_succ]
          refine wpAnyH_take (i := 11) (oi := { dst := some 94, op := Op.fieldAddr 30 (Operand.tmp 6) 0, type := 0, pos := "law.go:43", after := #[{ on := 5, ground := Ground.guard }], guard := some (5, true) }) (v := ?_) rfl (by kernel_rfl) (by kernel_rfl) (by kernel_rfl) (fun _ _ _ h => h) (Or.inl ⟨by rfl, ?_⟩) hHeld ?_
          rotate_left
          · intro w0 hSw; (try dsimp only at hSw); go_simp; try with_reducible rfl
          try simp only [Act.put, List.setIfInBounds_toArray, List.set_cons_zero, List.set_cons_succ]
          refine wpAnyH_take (i := 12) (oi := { dst := some 95, op := Op.load 3 (Operand.tmp 94), type := 3, pos := "law.go:43", after := #[{ on := 11, ground := Ground.data }, { on := 5, ground := Ground.guard }], guard := some (5, true) }) (v := ?_) rfl (by kernel_rfl) (by kernel_rfl) (by kernel_rfl) (fun _ _ _ h => h) (Or.inl ⟨by rfl, ?_⟩) hHeld ?_
          rotate_left
          · intro w0 hSw; (try dsimp only at hSw); go_simp; try with_reducible rfl
          try simp only [Act.put, List.setIfInBounds_toArray, List.set_cons_zero, List.set_cons_succ]
          refine wpAnyH_take (i := 13) (oi := { dst := some 96, op := Op.binOp BinOp.eql 3 (Operand.tmp 95) (Operand.const (Value.int IntKind.i64 1)) 3, type := 4, pos := "law.go:43", after := #[{ on := 12, ground := Ground.data }, { on := 5, ground := Ground.guard }], guard := some (5, true) }) (v := ?_) rfl (by kernel_rfl) (by kernel_rfl) (by kernel_rfl) (fun _ _ _ h => h) (Or.inl ⟨by rfl, ?_⟩) hHeld ?_
          rotate_left
          · intro w0 hSw; (try dsimp only at hSw); go_simp; try with_reducible rfl
          try simp only [Act.put, List.setIfInBounds_toArray, List.set_cons_zero, List.set_cons_succ]
          refine wpAnyH_ready (rs := [10]) (by kernel_rfl) (by simp) ?_
          refine AllReadyH.cons (o := { dst := some 93, op := Op.call { callee := Callee.value (Operand.func 27), args := #[Operand.tmp 89, Operand.tmp 90, Operand.tmp 91, Operand.tmp 92], argTypes := #[30, 3, 3, 3] }, type := 4, pos := "law.go:43", after := #[{ on := 6, ground := Ground.data }, { on := 7, ground := Ground.data }, { on := 8, ground := Ground.data }, { on := 9, ground := Ground.data }, { on := 5, ground := Ground.chain }, { on := 5, ground := Ground.guard }], guard := some (5, true) }) rfl (fun K hK => ?_) AllReadyH.nil
          go_simp
          first
            | (go_at_call 26; refine (faults_calls s n _).mono ?_; rw [HF.out]; rintro e w' ⟨rfl, rfl⟩)
            | (go_at_call 27; refine (quorum_calls r n q s _).mono ?_; rw [HQ.out]; rintro e w' ⟨rfl, hb⟩)
            | (go_at_call 28; refine (prefix_calls a b A A' _ c _ c' _ B B rfl rfl hl hl' hc hc' (Kd.row_below (by assumption) ra1) (Kd.row_below (by assumption) rb1)).mono ?_; rintro e w' ⟨rfl, hb⟩)
            | (go_at_call 29; refine (alive27_calls _).mono ?_; rintro e w' ⟨rfl, hb⟩)
          refine hK.out _ _ ?_ (fun hHeld => ?_)
          · (try dsimp only); first | exact Below.refl _ _ | (apply bl_drew; exact Below.refl _ _) | (refine bl_trans ?_ (by assumption); assumption)
          clear hK K
          try simp only [Act.put, List.setIfInBounds_toArray, List.set_cons_zero, List.set_cons_succ]
          refine wpAnyH_take (i := 14) (oi := { dst := some 97, op := Op.move (Operand.tmp 96), type := 4, pos := "law.go:43", after := #[{ on := 13, ground := Ground.data }, { on := 10, ground := Ground.chain }, { on := 5, ground := Ground.guard }], guard := some (5, true) }) (v := ?_) rfl (by kernel_rfl) (by kernel_rfl) (by kernel_rfl) (fun _ _ _ h => h) (Or.inl ⟨by rfl, ?_⟩) hHeld ?_
          rotate_left
          · intro w0 hSw; (try dsimp only at hSw); go_simp; try with_reducible rfl
          try simp only [Act.put, List.setIfInBounds_toArray, List.set_cons_zero, List.set_cons_succ]
          refine wpAnyH_take (i := 15) (oi := { dst := some 98, op := Op.move (Operand.tmp 15), type := 4, pos := "law.go:43", after := #[{ on := 14, ground := Ground.guard }], guard := some (14, true) }) (v := undef) rfl (by kernel_rfl) (by kernel_rfl) (by kernel_rfl) (fun _ _ _ h => h) (Or.inr ⟨by rfl, rfl⟩) hHeld ?_
          try simp only [Act.put, List.setIfInBounds_toArray, List.set_cons_zero, List.set_cons_succ]
          refine wpAnyH_take (i := 16) (oi := { dst := some 99, op := Op.pick (Operand.tmp 97) (Operand.tmp 98) (Operand.const (Value.bool false)), type := 4, pos := "law.go:43", after := #[{ on := 14, ground := Ground.data }, { on := 15, ground := Ground.data }, { on := 5, ground := Ground.guard }], guard := some (5, true) }) (v := ?_) rfl (by kernel_rfl) (by kernel_rfl) (by kernel_rfl) (fun _ _ _ h => h) (Or.inl ⟨by rfl, ?_⟩) hHeld ?_
          rotate_left
          · intro w0 hSw; (try dsimp only at hSw); go_simp; try with_reducible rfl
          try simp only [Act.put, List.setIfInBounds_toArray, List.set_cons_zero, List.set_cons_succ]
          refine wpAnyH_take (i := 17) (oi := { dst := some 100, op := Op.move (Operand.tmp 99), type := 4, pos := "law.go:43", after := #[{ on := 16, ground := Ground.data }, { on := 14, ground := Ground.chain }, { on := 5, ground := Ground.guard }], guard := some (5, true) }) (v := ?_) rfl (by kernel_rfl) (by kernel_rfl) (by kernel_rfl) (fun _ _ _ h => h) (Or.inl ⟨by rfl, ?_⟩) hHeld ?_
          rotate_left
          · intro w0 hSw; (try dsimp only at hSw); go_simp; try with_reducible rfl
          try simp only [Act.put, List.setIfInBounds_toArray, List.set_cons_zero, List.set_cons_succ]
          refine wpAnyH_take (i := 18) (oi := { dst := some 101, op := Op.move (Operand.tmp 13), type := 3, pos := "law.go:43", after := #[{ on := 17, ground := Ground.guard }], guard := some (17, true) }) (v := undef) rfl (by kernel_rfl) (by kernel_rfl) (by kernel_rfl) (fun _ _ _ h => h) (Or.inr ⟨by rfl, rfl⟩) hHeld ?_
          try simp only [Act.put, List.setIfInBounds_toArray, List.set_cons_zero, List.set_cons_succ]
          refine wpAnyH_take (i := 19) (oi := { dst := some 102, op := Op.fieldAddr 30 (Operand.tmp 6) 1, type := 0, pos := "law.go:43", after := #[{ on := 17, ground := Ground.guard }], guard := some (17, true) }) (v := undef) rfl (by kernel_rfl) (by kernel_rfl) (by kernel_rfl) (fun _ _ _ h => h) (Or.inr ⟨by rfl, rfl⟩) hHeld ?_
          try simp only [Act.put, List.setIfInBounds_toArray, List.set_cons_zero, List.set_cons_succ]
          refine wpAnyH_take (i := 20) (oi := { dst := some 103, op := Op.load 3 (Operand.tmp 102), type := 3, pos := "law.go:43", after := #[{ on := 19, ground := Ground.data }, { on := 17, ground := Ground.guard }], guard := some (17, true) }) (v := undef) rfl (by kernel_rfl) (by kernel_rfl) (by kernel_rfl) (fun _ _ _ h => h) (Or.inr ⟨by rfl, rfl⟩) hHeld ?_
          try simp only [Act.put, List.setIfInBounds_toArray, List.set_cons_zero, List.set_cons_succ]
          refine wpAnyH_take (i := 21) (oi := { dst := some 104, op := Op.move (Operand.tmp 2), type := 3, pos := "law.go:43", after := #[{ on := 17, ground := Ground.guard }], guard := some (17, true) }) (v := undef) rfl (by kernel_rfl) (by kernel_rfl) (by kernel_rfl) (fun _ _ _ h => h) (Or.inr ⟨by rfl, rfl⟩) hHeld ?_
          try simp only [Act.put, List.setIfInBounds_toArray, List.set_cons_zero, List.set_cons_succ]
          refine wpAnyH_take (i := 22) (oi := { dst := some 105, op := Op.binOp BinOp.add 3 (Operand.tmp 103) (Operand.tmp 104) 3, type := 3, pos := "law.go:43", after := #[{ on := 20, ground := Ground.data }, { on := 21, ground := Ground.data }, { on := 17, ground := Ground.guard }], guard := some (17, true) }) (v := undef) rfl (by kernel_rfl) (by kernel_rfl) (by kernel_rfl) (fun _ _ _ h => h) (Or.inr ⟨by rfl, rfl⟩) hHeld ?_
          try simp only [Act.put, List.setIfInBounds_toArray, List.set_cons_zero, List.set_cons_succ]
          refine wpAnyH_take (i := 23) (oi := { dst := some 106, op := Op.move (Operand.tmp 1), type := 3, pos := "law.go:43", after := #[{ on := 17, ground := Ground.guard }], guard := some (17, true) }) (v := undef) rfl (by kernel_rfl) (by kernel_rfl) (by kernel_rfl) (fun _ _ _ h => h) (Or.inr ⟨by rfl, rfl⟩) hHeld ?_
          try simp only [Act.put, List.setIfInBounds_toArray, List.set_cons_zero, List.set_cons_succ]
          refine wpAnyH_take (i := 24) (oi := { dst := some 107, op := Op.binOp BinOp.sub 3 (Operand.tmp 105) (Operand.tmp 106) 3, type := 3, pos := "law.go:43", after := #[{ on := 22, ground := Ground.data }, { on := 23, ground := Ground.data }, { on := 17, ground := Ground.guard }], guard := some (17, true) }) (v := undef) rfl (by kernel_rfl) (by kernel_rfl) (by kernel_rfl) (fun _ _ _ h => h) (Or.inr ⟨by rfl, rfl⟩) hHeld ?_
          try simp only [Act.put, List.setIfInBounds_toArray, List.set_cons_zero, List.set_cons_succ]
          refine wpAnyH_take (i := 25) (oi := { dst := some 108, op := Op.binOp BinOp.sub 3 (Operand.tmp 107) (Operand.const (Value.int IntKind.i64 1)) 3, type := 3, pos := "law.go:43", after := #[{ on := 24, ground := Ground.data }, { on := 17, ground := Ground.guard }], guard := some (17, true) }) (v := undef) rfl (by kernel_rfl) (by kernel_rfl) (by kernel_rfl) (fun _ _ _ h => h) (Or.inr ⟨by rfl, rfl⟩) hHeld ?_
          try simp only [Act.put, List.setIfInBounds_toArray, List.set_cons_zero, List.set_cons_succ]
          refine wpAnyH_take (i := 26) (oi := { dst := some 109, op := Op.binOp BinOp.leq 3 (Operand.tmp 101) (Operand.tmp 108) 3, type := 4, pos := "law.go:43", after := #[{ on := 18, ground := Ground.data }, { on := 25, ground := Ground.data }, { on := 17, ground := Ground.guard }], guard := some (17, true) }) (v := undef) rfl (by kernel_rfl) (by kernel_rfl) (by kernel_rfl) (fun _ _ _ h => h) (Or.inr ⟨by rfl, rfl⟩) hHeld ?_
          try simp only [Act.put, List.setIfInBounds_toArray, List.set_cons_zero, List.set_cons_succ]
          refine wpAnyH_take (i := 27) (oi := { dst := some 110, op := Op.pick (Operand.tmp 100) (Operand.tmp 109) (Operand.const (Value.bool false)), type := 4, pos := "law.go:43", after := #[{ on := 17, ground := Ground.data }, { on := 26, ground := Ground.data }, { on := 5, ground := Ground.guard }], guard := some (5, true) }) (v := ?_) rfl (by kernel_rfl) (by kernel_rfl) (by kernel_rfl) (fun _ _ _ h => h) (Or.inl ⟨by rfl, ?_⟩) hHeld ?_
          rotate_left
          · intro w0 hSw; (try dsimp only at hSw); go_simp; try with_reducible rfl
          try simp only [Act.put, List.setIfInBounds_toArray, List.set_cons_zero, List.set_cons_succ]
          refine wpAnyH_take (i := 28) (oi := { dst := some 111, op := Op.binOp BinOp.eql 4 (Operand.tmp 93) (Operand.tmp 110) 4, type := 4, pos := "law.go:43", after := #[{ on := 10, ground := Ground.data }, { on := 27, ground := Ground.data }, { on := 5, ground := Ground.guard }], guard := some (5, true) }) (v := ?_) rfl (by kernel_rfl) (by kernel_rfl) (by kernel_rfl) (fun _ _ _ h => h) (Or.inl ⟨by rfl, ?_⟩) hHeld ?_
          rotate_left
          · intro w0 hSw; (try dsimp only at hSw); go_simp; try with_reducible rfl
          try simp only [Act.put, List.setIfInBounds_toArray, List.set_cons_zero, List.set_cons_succ]
          refine wpAnyH_take (i := 29) (oi := { dst := some 112, op := Op.pick (Operand.tmp 88) (Operand.tmp 111) (Operand.const (Value.bool false)), type := 4, pos := "law.go:43", after := #[{ on := 5, ground := Ground.data }, { on := 28, ground := Ground.data }], guard := none }) (v := ?_) rfl (by kernel_rfl) (by kernel_rfl) (by kernel_rfl) (fun _ _ _ h => h) (Or.inl ⟨by rfl, ?_⟩) hHeld ?_
          rotate_left
          · intro w0 hSw; (try dsimp only at hSw); go_simp; try with_reducible rfl
          try simp only [Act.put, List.setIfInBounds_toArray, List.set_cons_zero, List.set_cons_succ]
          refine wpAnyH_take (i := 30) (oi := { dst := some 113, op := Op.move (Operand.tmp 112), type := 4, pos := "law.go:43", after := #[{ on := 29, ground := Ground.data }, { on := 17, ground := Ground.chain }], guard := none }) (v := ?_) rfl (by kernel_rfl) (by kernel_rfl) (by kernel_rfl) (fun _ _ _ h => h) (Or.inl ⟨by rfl, ?_⟩) hHeld ?_
          rotate_left
          · intro w0 hSw; (try dsimp only at hSw); go_simp; try with_reducible rfl
          try simp only [Act.put, List.setIfInBounds_toArray, List.set_cons_zero, List.set_cons_succ]
          refine wpAnyH_take (i := 31) (oi := { dst := some 114, op := Op.move (Operand.tmp 4), type := 40, pos := "law.go:43", after := #[{ on := 30, ground := Ground.guard }], guard := some (30, true) }) (v := ?_) rfl (by kernel_rfl) (by kernel_rfl) (by kernel_rfl) (fun _ _ _ h => h) (Or.inl ⟨by rfl, ?_⟩) hHeld ?_
          rotate_left
          · intro w0 hSw; (try dsimp only at hSw); go_simp; try with_reducible rfl
          try simp only [Act.put, List.setIfInBounds_toArray, List.set_cons_zero, List.set_cons_succ]
          refine wpAnyH_take (i := 32) (oi := { dst := some 115, op := Op.move (Operand.tmp 5), type := 40, pos := "law.go:43", after := #[{ on := 30, ground := Ground.guard }], guard := some (30, true) }) (v := ?_) rfl (by kernel_rfl) (by kernel_rfl) (by kernel_rfl) (fun _ _ _ h => h) (Or.inl ⟨by rfl, ?_⟩) hHeld ?_
          rotate_left
          · intro w0 hSw; (try dsimp only at hSw); go_simp; try with_reducible rfl
          try simp only [Act.put, List.setIfInBounds_toArray, List.set_cons_zero, List.set_cons_succ]
          refine wpAnyH_take (i := 34) (oi := { dst := some 117, op := Op.move (Operand.tmp 16), type := 4, pos := "law.go:43", after := #[{ on := 30, ground := Ground.guard }], guard := some (30, true) }) (v := ?_) rfl (by kernel_rfl) (by kernel_rfl) (by kernel_rfl) (fun _ _ _ h => h) (Or.inl ⟨by rfl, ?_⟩) hHeld ?_
          rotate_left
          · intro w0 hSw; (try dsimp only at hSw); go_simp; try with_reducible rfl
          try simp only [Act.put, List.setIfInBounds_toArray, List.set_cons_zero, List.set_cons_succ]
          refine wpAnyH_ready (rs := [33]) (by kernel_rfl) (by simp) ?_
          refine AllReadyH.cons (o := { dst := some 116, op := Op.call { callee := Callee.value (Operand.func 28), args := #[Operand.tmp 114, Operand.tmp 115], argTypes := #[40, 40] }, type := 4, pos := "law.go:43", after := #[{ on := 31, ground := Ground.data }, { on := 32, ground := Ground.data }, { on := 30, ground := Ground.chain }, { on := 30, ground := Ground.guard }], guard := some (30, true) }) rfl (fun K hK => ?_) AllReadyH.nil
          go_simp
          first
            | (go_at_call 26; refine (faults_calls s n _).mono ?_; rw [HF.out]; rintro e w' ⟨rfl, rfl⟩)
            | (go_at_call 27; refine (quorum_calls r n q s _).mono ?_; rw [HQ.out]; rintro e w' ⟨rfl, hb⟩)
            | (go_at_call 28; refine (prefix_calls a b A A' _ c _ c' _ B B rfl rfl hl hl' hc hc' (Kd.row_below (by assumption) ra1) (Kd.row_below (by assumption) rb1)).mono ?_; rintro e w' ⟨rfl, hb⟩)
            | (go_at_call 29; refine (alive27_calls _).mono ?_; rintro e w' ⟨rfl, hb⟩)
          refine hK.out _ _ ?_ (fun hHeld => ?_)
          · (try dsimp only); first | exact Below.refl _ _ | (apply bl_drew; exact Below.refl _ _) | (refine bl_trans ?_ (by assumption); assumption)
          clear hK K
          try simp only [Act.put, List.setIfInBounds_toArray, List.set_cons_zero, List.set_cons_succ]
          refine wpAnyH_take (i := 35) (oi := { dst := some 118, op := Op.binOp BinOp.eql 4 (Operand.tmp 116) (Operand.tmp 117) 4, type := 4, pos := "law.go:43", after := #[{ on := 33, ground := Ground.data }, { on := 34, ground := Ground.data }, { on := 30, ground := Ground.guard }], guard := some (30, true) }) (v := ?_) rfl (by kernel_rfl) (by kernel_rfl) (by kernel_rfl) (fun _ _ _ h => h) (Or.inl ⟨by rfl, ?_⟩) hHeld ?_
          rotate_left
          · intro w0 hSw; (try dsimp only at hSw); go_simp; try with_reducible rfl
          try simp only [Act.put, List.setIfInBounds_toArray, List.set_cons_zero, List.set_cons_succ]
          refine wpAnyH_take (i := 36) (oi := { dst := some 119, op := Op.pick (Operand.tmp 113) (Operand.tmp 118) (Operand.const (Value.bool false)), type := 4, pos := "law.go:43", after := #[{ on := 30, ground := Ground.data }, { on := 35, ground := Ground.data }], guard := none }) (v := ?_) rfl (by kernel_rfl) (by kernel_rfl) (by kernel_rfl) (fun _ _ _ h => h) (Or.inl ⟨by rfl, ?_⟩) hHeld ?_
          rotate_left
          · intro w0 hSw; (try dsimp only at hSw); go_simp; try with_reducible rfl
          try simp only [Act.put, List.setIfInBounds_toArray, List.set_cons_zero, List.set_cons_succ]
          refine wpAnyH_take (i := 37) (oi := { dst := some 120, op := Op.move (Operand.tmp 119), type := 4, pos := "law.go:43", after := #[{ on := 36, ground := Ground.data }, { on := 33, ground := Ground.chain }], guard := none }) (v := ?_) rfl (by kernel_rfl) (by kernel_rfl) (by kernel_rfl) (fun _ _ _ h => h) (Or.inl ⟨by rfl, ?_⟩) hHeld ?_
          rotate_left
          · intro w0 hSw; (try dsimp only at hSw); go_simp; try with_reducible rfl
          try simp only [Act.put, List.setIfInBounds_toArray, List.set_cons_zero, List.set_cons_succ]
          refine wpAnyH_ready (rs := [38]) (by kernel_rfl) (by simp) ?_
          refine AllReadyH.cons (o := { dst := some 121, op := Op.call { callee := Callee.value (Operand.func 29), args := #[], argTypes := #[] }, type := 4, pos := "law.go:43", after := #[{ on := 37, ground := Ground.chain }, { on := 37, ground := Ground.guard }], guard := some (37, true) }) rfl (fun K hK => ?_) AllReadyH.nil
          go_simp
          first
            | (go_at_call 26; refine (faults_calls s n _).mono ?_; rw [HF.out]; rintro e w' ⟨rfl, rfl⟩)
            | (go_at_call 27; refine (quorum_calls r n q s _).mono ?_; rw [HQ.out]; rintro e w' ⟨rfl, hb⟩)
            | (go_at_call 28; refine (prefix_calls a b A A' _ c _ c' _ B B rfl rfl hl hl' hc hc' (Kd.row_below (by assumption) ra1) (Kd.row_below (by assumption) rb1)).mono ?_; rintro e w' ⟨rfl, hb⟩)
            | (go_at_call 29; refine (alive27_calls _).mono ?_; rintro e w' ⟨rfl, hb⟩)
          refine hK.out _ _ ?_ (fun hHeld => ?_)
          · (try dsimp only); first | exact Below.refl _ _ | (apply bl_drew; exact Below.refl _ _) | (refine bl_trans ?_ (by assumption); assumption)
          clear hK K
          try simp only [Act.put, List.setIfInBounds_toArray, List.set_cons_zero, List.set_cons_succ]
          refine wpAnyH_take (i := 39) (oi := { dst := some 122, op := Op.pick (Operand.tmp 120) (Operand.tmp 121) (Operand.const (Value.bool false)), type := 4, pos := "law.go:43", after := #[{ on := 37, ground := Ground.data }, { on := 38, ground := Ground.data }], guard := none }) (v := ?_) rfl (by kernel_rfl) (by kernel_rfl) (by kernel_rfl) (fun _ _ _ h => h) (Or.inl ⟨by rfl, ?_⟩) hHeld ?_
          rotate_left
          · intro w0 hSw; (try dsimp only at hSw); go_simp; try with_reducible rfl
          try simp only [Act.put, List.setIfInBounds_toArray, List.set_cons_zero, List.set_cons_succ]
          refine wpAnyH_take (i := 40) (oi := { dst := some 12, op := Op.assign (Operand.tmp 122), type := 4, pos := "law.go:43", after := #[{ on := 39, ground := Ground.data }, { on := 38, ground := Ground.chain }, { on := 0, ground := Ground.phase }, { on := 1, ground := Ground.phase }, { on := 2, ground := Ground.phase }, { on := 3, ground := Ground.phase }, { on := 4, ground := Ground.phase }, { on := 5, ground := Ground.phase }, { on := 6, ground := Ground.phase }, { on := 7, ground := Ground.phase }, { on := 8, ground := Ground.phase }, { on := 9, ground := Ground.phase }, { on := 10, ground := Ground.phase }, { on := 11, ground := Ground.phase }, { on := 12, ground := Ground.phase }, { on := 13, ground := Ground.phase }, { on := 14, ground := Ground.phase }, { on := 15, ground := Ground.phase }, { on := 16, ground := Ground.phase }, { on := 17, ground := Ground.phase }, { on := 18, ground := Ground.phase }, { on := 19, ground := Ground.phase }, { on := 20, ground := Ground.phase }, { on := 21, ground := Ground.phase }, { on := 22, ground := Ground.phase }, { on := 23, ground := Ground.phase }, { on := 24, ground := Ground.phase }, { on := 25, ground := Ground.phase }, { on := 26, ground := Ground.phase }, { on := 27, ground := Ground.phase }, { on := 28, ground := Ground.phase }, { on := 29, ground := Ground.phase }, { on := 30, ground := Ground.phase }, { on := 31, ground := Ground.phase }, { on := 32, ground := Ground.phase }, { on := 33, ground := Ground.phase }, { on := 34, ground := Ground.phase }, { on := 35, ground := Ground.phase }, { on := 36, ground := Ground.phase }, { on := 37, ground := Ground.phase }, { on := 38, ground := Ground.phase }, { on := 39, ground := Ground.phase }], guard := none }) (v := ?_) rfl (by kernel_rfl) (by kernel_rfl) (by kernel_rfl) (fun _ _ _ h => h) (Or.inl ⟨by rfl, ?_⟩) hHeld ?_
          rotate_left
          · intro w0 hSw; (try dsimp only at hSw); go_simp; try with_reducible rfl
          try simp only [Act.put, List.setIfInBounds_toArray, List.set_cons_zero, List.set_cons_succ]
          refine wpAnyH_done (by kernel_rfl) ?_ _
          go_wp2_with fail
          go_ret
          exact ⟨by simp, bl_trans q1 (by assumption)⟩
end Go.Proofs.Ytflfpfaebndefaa
