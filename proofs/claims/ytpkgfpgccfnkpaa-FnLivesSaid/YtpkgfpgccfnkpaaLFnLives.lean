/- The law FnLives returns true, whatever its argument, and leaves it as it was. No condition. -/
import Derived.Test.YtpkgfpgccfnkpaaCurQ
import Derived.Test.YtpkgfpgccfnkpaaEndM
import Derived.Test.YtpkgfpgccfnkpaaRunC
import Derived.Test.YtpkgfpgccfnkpaaLifeI
namespace Go.Proofs.Ytpkgfpgccfnkpaa.lawFnLives
open Go.ChangeShapes Go.WideShapes Go.ChangeAt Go.RowKit Go.Deep Go.Joins
open Go.ChangeMaps (open_string shut_string)
set_option linter.unusedVariables false
set_option linter.unusedSimpArgs false
open Go.Sort
set_option maxRecDepth 100000 in
set_option maxHeartbeats 8000000 in
theorem walk (v : Value) (n : Nat) (w : World) (h : SU w v n) :
    Calls Try.prog 10 #[v] w fun e w' => e = .returned (.bool true) ∧ Below w.heap.size w w' := by
  obtain ⟨A, cap, rfl⟩ := h.form
  have HS := Lib.hid h
  clear h
  by_cases hbig : 65536 < n
  · have hbig2 : decide (65536 < (n : Int)) = true := by simp; omega
    go_enter Try.func10, Try.ntmps10
    go_wp2_with fail
    refine (C_vBig _ n _ HS.out).mono ?_; rintro e w1 ⟨rfl, rfl⟩
    rw [hbig2]
    go_wp2_with fail
    go_ret
    exact ⟨rfl, Below.refl _ _⟩
  have hbig2 : decide (65536 < (n : Int)) = false := by simp; omega
  go_enter Try.func10, Try.ntmps10
  go_wp2_with fail
  refine (C_vBig _ n _ HS.out).mono ?_; rintro e w1 ⟨rfl, rfl⟩
  rw [hbig2]
  clear hbig hbig2
  go_wp2_with fail
  refine (C_DrawStepLife _ n _ HS.out).mono ?_; rintro e w2 ⟨L, k, x, rfl, hLI, hx, B⟩
  obtain ⟨ok, hok⟩ : ∃ ok, canL L k x = ok := ⟨_, rfl⟩
  obtain ⟨N, hN⟩ : ∃ N, stepL L k x = N := ⟨_, rfl⟩
  have C1 := Lib.hid (fun W => C_StepLifeI (L).day (L).state (L).act (L).period (L).closed (L).holds k x W)
  have C2 := Lib.hid (fun W => C_StepLifeS (L).day (L).state (L).act (L).period (L).closed (L).holds k x W hx)
  have e1 : canL ⟨L.day, L.state, L.act, L.period, L.closed, L.holds⟩ k x = ok := hok
  have e2 : stepL ⟨L.day, L.state, L.act, L.period, L.closed, L.holds⟩ k x = N := hN
  rw [e1, e2] at C1 C2
  clear e1 e2
  have HOK := Lib.hid hok
  have HN := Lib.hid hN
  clear hok hN
  obtain ⟨w3, hw3⟩ : ∃ w3, w3 = (w2).alloc (.cells #[.int .i64 (L).day, .int .i64 (L).state, .int .i64 (L).act, .int .i64 (L).period, .int .i64 (L).closed, .int .i64 (L).holds] 25) := ⟨_, rfl⟩; obtain ⟨g3, hg⟩ : ∃ g, g = (w2).heap.size := ⟨_, rfl⟩; have RL : (w3).rowIs g3 25 6 (c6 L) := (by rw [hw3, hg]; exact row6_alloc w2 _ L); (replace B : Below w.heap.size w w3 := by (rw [hw3]; exact bel_alloc0 B _)); have HW3 := Lib.hid hw3.symm; have HG := Lib.hid hg.symm; clear hw3 hg
  obtain ⟨w4, hw4⟩ : ∃ w4, w4 = w3.alloc (.cells #[.int .i64 k, .int .i64 x] 41) := ⟨_, rfl⟩
  obtain ⟨g4, hg4⟩ : ∃ g4, g4 = w3.heap.size := ⟨_, rfl⟩
  have RS4 : w4.rowIs g4 41 2 (c2 k x) := by rw [hw4, hg4]; exact row2_alloc w3 _ k x
  replace RL : w4.rowIs g3 25 6 (c6 L) := by rw [hw4]; exact row_alloc RL _
  replace B : Below w.heap.size w w4 := by rw [hw4]; exact bel_alloc0 B _
  have HW4 := Lib.hid hw4.symm
  have HG4 := Lib.hid (show w2.heap.size + 1 = g4 by rw [hg4, ← HW3.out]; simp)
  clear hw4 hg4
  go_wp2_with fail
  rw [HW3.out, HW4.out, HG4.out, HG.out]
  clear HW3 HW4 HG4 HG
  refine (C1.out _).mono ?_; rintro e w5 ⟨rfl, hb⟩
  replace B := bel_step0 hb B; replace RL := RL.of_block (hb.block _ RL.lt); replace RS4 := RS4.of_block (hb.block _ RS4.lt); clear hb
  obtain ⟨w6, hw6⟩ : ∃ w6, w6 = w5.alloc (.cells #[.int .i64 (N).day, .int .i64 (N).state, .int .i64 (N).act, .int .i64 (N).period, .int .i64 (N).closed, .int .i64 (N).holds] 25) := ⟨_, rfl⟩
  obtain ⟨g5, hg5⟩ : ∃ g5, g5 = w5.heap.size := ⟨_, rfl⟩
  have RN : w6.rowIs g5 25 6 (c6 N) := by rw [hw6, hg5]; exact row6_alloc w5 _ N
  replace RL : w6.rowIs g3 25 6 (c6 L) := by rw [hw6]; exact row_alloc RL _
  replace RS4 : w6.rowIs g4 41 2 (c2 k x) := by rw [hw6]; exact row_alloc RS4 _
  replace B : Below w.heap.size w w6 := by rw [hw6]; exact bel_alloc0 B _
  have HW6 := Lib.hid hw6.symm
  have HG5 := Lib.hid hg5.symm
  clear hw6 hg5
  have x0 := (RL).cell (i := 0) (by omega); have x1 := (RL).cell (i := 1) (by omega); have x2 := (RL).cell (i := 2) (by omega); have x3 := (RL).cell (i := 3) (by omega); have x4 := (RL).cell (i := 4) (by omega); have x5 := (RL).cell (i := 5) (by omega); simp only [c6, if_true, if_false, Nat.reduceEqDiff, reduceCtorEq] at x0 x1 x2 x3 x4 x5
  have y0 := RS4.cell (i := 0) (by omega)
  have y1 := RS4.cell (i := 1) (by omega)
  rw [c2_0] at y0
  rw [c2_1] at y1
  have X := Lib.hid (And.intro x0 (And.intro x1 (And.intro x2 (And.intro x3 (And.intro x4 (And.intro x5 (And.intro y0 y1)))))))
  clear x0 x1 x2 x3 x4 x5 y0 y1
  go_upto_region 5 with fail
  rw [HW6.out, HG5.out]
  clear HW6 HG5
  obtain ⟨x0, x1, x2, x3, x4, x5, y0, y1⟩ := X.out
  go_wp2_with fail
  clear x0 x1 x2 x3 x4 x5 y0 y1 X
  refine (C2.out _).mono ?_; rintro e w7 ⟨rfl, hb⟩
  replace B := bel_step0 hb B; replace RL := RL.of_block (hb.block _ RL.lt); replace RS4 := RS4.of_block (hb.block _ RS4.lt); replace RN := RN.of_block (hb.block _ RN.lt); clear hb
  obtain ⟨w8, hw8⟩ : ∃ w8, w8 = w7.alloc (.cells #[.int .i64 (N).day, .int .i64 (N).state, .int .i64 (N).act, .int .i64 (N).period, .int .i64 (N).closed, .int .i64 (N).holds] 25) := ⟨_, rfl⟩
  obtain ⟨g7, hg7⟩ : ∃ g7, g7 = w7.heap.size := ⟨_, rfl⟩
  have RM : w8.rowIs g7 25 6 (c6 N) := by rw [hw8, hg7]; exact row6_alloc w7 _ N
  replace RL : w8.rowIs g3 25 6 (c6 L) := by rw [hw8]; exact row_alloc RL _
  replace RN : w8.rowIs g5 25 6 (c6 N) := by rw [hw8]; exact row_alloc RN _
  replace RS4 : w8.rowIs g4 41 2 (c2 k x) := by rw [hw8]; exact row_alloc RS4 _
  replace B : Below w.heap.size w w8 := by rw [hw8]; exact bel_alloc0 B _
  have HW8 := Lib.hid hw8.symm
  have HG7 := Lib.hid hg7.symm
  clear hw8 hg7 C1 C2
  go_upto_region 6 with fail
  rw [HW8.out, HG7.out]
  clear HW8 HG7
  go_cut [73] (fun s73 wx => s73 = .bool false ∧ Below w8.heap.size w8 wx)
  case first =>
    as_aux_lemma =>
      have x0 := (RL).cell (i := 0) (by omega); have x1 := (RL).cell (i := 1) (by omega); have x2 := (RL).cell (i := 2) (by omega); have x3 := (RL).cell (i := 3) (by omega); have x4 := (RL).cell (i := 4) (by omega); have x5 := (RL).cell (i := 5) (by omega); simp only [c6, if_true, if_false, Nat.reduceEqDiff, reduceCtorEq] at x0 x1 x2 x3 x4 x5
      have z0 := (RN).cell (i := 0) (by omega); have z1 := (RN).cell (i := 1) (by omega); have z2 := (RN).cell (i := 2) (by omega); have z3 := (RN).cell (i := 3) (by omega); have z4 := (RN).cell (i := 4) (by omega); have z5 := (RN).cell (i := 5) (by omega); simp only [c6, if_true, if_false, Nat.reduceEqDiff, reduceCtorEq] at z0 z1 z2 z3 z4 z5
      have q0 := (RM).cell (i := 0) (by omega); have q1 := (RM).cell (i := 1) (by omega); have q2 := (RM).cell (i := 2) (by omega); have q3 := (RM).cell (i := 3) (by omega); have q4 := (RM).cell (i := 4) (by omega); have q5 := (RM).cell (i := 5) (by omega); simp only [c6, if_true, if_false, Nat.reduceEqDiff, reduceCtorEq] at q0 q1 q2 q3 q4 q5
      have a0 := cell_regrown x0; have a1 := cell_regrown x1; have a2 := cell_regrown x2; have a3 := cell_regrown x3; have a4 := cell_regrown x4; have a5 := cell_regrown x5
      have b0 := cell_regrown z0; have b1 := cell_regrown z1; have b2 := cell_regrown z2; have b3 := cell_regrown z3; have b4 := cell_regrown z4; have b5 := cell_regrown z5
      have d0 := cell_regrown q0; have d1 := cell_regrown q1; have d2 := cell_regrown q2; have d3 := cell_regrown q3; have d4 := cell_regrown q4; have d5 := cell_regrown q5
      obtain ⟨lk, hlk⟩ : ∃ b, Lf.ok ⟨L.day, L.state, L.act, L.period, L.closed, L.holds⟩ = b := ⟨_, rfl⟩
      have HE1 : ∀ d os, Calls Try.prog 13 #[.agg #[.int .i64 (L).day, .int .i64 (L).state, .int .i64 (L).act, .int .i64 (L).period, .int .i64 (L).closed, .int .i64 (L).holds]] (grow (redrawn w8 d) os) fun e w'' => e = .returned (.bool lk) ∧ ∃ p : Regrown, w'' = grow (redrawn w8 p.d) p.os :=
        fun d os => Calls.regrown_of ((C_IsLife (L).day (L).state (L).act (L).period (L).closed (L).holds _).mono fun e w' hh => ⟨hh.1.trans (by rw [hlk]), hh.2⟩)
      have HE2 : ∀ d os, Calls Try.prog 11 #[.agg #[.int .i64 (L).day, .int .i64 (L).state, .int .i64 (L).act, .int .i64 (L).period, .int .i64 (L).closed, .int .i64 (L).holds]] (grow (redrawn w8 d) os) fun e w'' => e = .returned (.bool lk) ∧ ∃ p : Regrown, w'' = grow (redrawn w8 p.d) p.os :=
        fun d os => Calls.regrown_of ((C_IsLifeS (L).day (L).state (L).act (L).period (L).closed (L).holds _).mono fun e w' hh => ⟨hh.1.trans (by rw [hlk]), hh.2⟩)
      clear x0 x1 x2 x3 x4 x5 z0 z1 z2 z3 z4 z5 q0 q1 q2 q3 q4 q5 hlk
      cases ok
      · (refine wp_region_quiet_below (by kernel_rfl) (by kernel_rfl) ?_; (repeat (go_big_quiet_step (first | with_reducible exact HE1 _ _ | with_reducible exact HE2 _ _))); refine wpQuiet_nil ?_; intro _ hw'; obtain ⟨⟨dq, osq⟩, hw''⟩ := hw'; subst hw'')
        go_wp2_with fail
        go_meet
        exact ⟨rfl, below_regrown _ _ _⟩
      · have hno : Lf.ok ⟨N.day, N.state, N.act, N.period, N.closed, N.holds⟩ = true := by
          have h1 := HOK.out
          have h2 := HN.out
          have h3 : N = rawL L k x := by rw [← h2, stepL, if_pos h1]
          simp only [canL, Bool.and_eq_true] at h1
          rw [← h3] at h1
          exact h1.2
        have HE3 : ∀ d os, Calls Try.prog 13 #[.agg #[.int .i64 (N).day, .int .i64 (N).state, .int .i64 (N).act, .int .i64 (N).period, .int .i64 (N).closed, .int .i64 (N).holds]] (grow (redrawn w8 d) os) fun e w'' => e = .returned (.bool true) ∧ ∃ p : Regrown, w'' = grow (redrawn w8 p.d) p.os :=
          fun d os => Calls.regrown_of ((C_IsLife (N).day (N).state (N).act (N).period (N).closed (N).holds _).mono fun e w' hh => ⟨hh.1.trans (by rw [hno]), hh.2⟩)
        clear hno
        (refine wp_region_quiet_below (by kernel_rfl) (by kernel_rfl) ?_; (repeat (go_big_quiet_step (first | with_reducible exact HE1 _ _ | with_reducible exact HE2 _ _ | with_reducible exact HE3 _ _))); refine wpQuiet_nil ?_; intro _ hw'; obtain ⟨⟨dq, osq⟩, hw''⟩ := hw'; subst hw'')
        go_wp2_with fail
        go_meet
        exact ⟨rfl, below_regrown _ _ _⟩
  case rest =>
    as_aux_lemma =>
      rename World => wx
      obtain ⟨rfl, hbx⟩ := hcut
      have HBX := Lib.hid hbx
      replace B := bel_step0 hbx B
      replace RL := RL.of_block (hbx.block _ RL.lt)
      replace RN := RN.of_block (hbx.block _ RN.lt)
      replace RS4 := RS4.of_block (hbx.block _ RS4.lt)
      clear hbx RM HBX
      obtain ⟨d, hd⟩ : ∃ d, (ok && (decide (N.state = 4) && !decide (L.state = 4))) = d := ⟨_, rfl⟩
      have HD := Lib.hid hd
      clear hd
      go_upto_region 8 with fail
      go_cut [84] (fun s84 wy => s84 = .bool d ∧ Below wx.heap.size wx wy)
      case first =>
        as_aux_lemma =>
          have x0 := (RL).cell (i := 0) (by omega); have x1 := (RL).cell (i := 1) (by omega); have x2 := (RL).cell (i := 2) (by omega); have x3 := (RL).cell (i := 3) (by omega); have x4 := (RL).cell (i := 4) (by omega); have x5 := (RL).cell (i := 5) (by omega); simp only [c6, if_true, if_false, Nat.reduceEqDiff, reduceCtorEq] at x0 x1 x2 x3 x4 x5
          have z0 := (RN).cell (i := 0) (by omega); have z1 := (RN).cell (i := 1) (by omega); have z2 := (RN).cell (i := 2) (by omega); have z3 := (RN).cell (i := 3) (by omega); have z4 := (RN).cell (i := 4) (by omega); have z5 := (RN).cell (i := 5) (by omega); simp only [c6, if_true, if_false, Nat.reduceEqDiff, reduceCtorEq] at z0 z1 z2 z3 z4 z5
          have hD := HD.out
          clear x0 x2 x3 x4 x5 z0 z2 z3 z4 z5 HD
          cases ok
          · subst hD
            go_wp2_with fail
            go_meet
            exact ⟨by simp, Below.refl _ _⟩
          · by_cases e1 : N.state = 4
            all_goals by_cases e2 : L.state = 4
            all_goals subst hD
            all_goals go_wp2_with fail
            all_goals go_meet
            all_goals exact ⟨by simp [e1, e2], Below.refl _ _⟩
      case rest =>
        as_aux_lemma =>
          rename World => wy
          obtain ⟨rfl, hby⟩ := hcut
          replace B := bel_step0 hby B
          replace RL := RL.of_block (hby.block _ RL.lt)
          replace RN := RN.of_block (hby.block _ RN.lt)
          replace RS4 := RS4.of_block (hby.block _ RS4.lt)
          clear hby
          go_upto_if 84 with fail
          go_cut [9, 10, 11, 12] (fun s9 s10 s11 s12 wz => Below wy.heap.size wy wz)
          case first =>
            as_aux_lemma =>
              cases d
              · go_wp2_with fail
                go_meet
                exact Below.refl _ _
              · have hD := HD.out
                simp only [Bool.and_eq_true, Bool.not_eq_true', decide_eq_true_eq, decide_eq_false_iff_not] at hD
                obtain ⟨rfl, hD1, hD2⟩ := hD
                have h2 := HN.out
                rw [← h2] at hD1
                obtain ⟨rfl, f1, f2, f3, f4, f5, f6, ⟨f7, f8⟩, ⟨f9, f10⟩, ⟨f11, f12⟩⟩ := gone_fact HOK.out hD1 hD2
                have C3 := Lib.hid (fun W => C_CanEndI (L).day (L).state (L).act (L).period (L).closed (L).holds W)
                have C4 := Lib.hid (fun W => C_DaysToEndI (L).day (L).state (L).act (L).period (L).closed (L).holds W)
                have e1 : (Lf.ok ⟨L.day, L.state, L.act, L.period, L.closed, L.holds⟩ && ready ⟨L.day, L.state, L.act, L.period, L.closed, L.holds⟩) = true := by
                  show (L.ok && ready L) = true; rw [f1, f2]; rfl
                have e2 : Lf.ok ⟨L.day, L.state, L.act, L.period, L.closed, L.holds⟩ = true := f1
                have e3 : daysToEnd ⟨L.day, L.state, L.act, L.period, L.closed, L.holds⟩ = 0 := f4
                have e4 : (Lf.ok ⟨L.day, L.state, L.act, L.period, L.closed, L.holds⟩ && L.state == 1) = true := by rw [e2, f3]; rfl
                rw [e1, e2] at C3
                rw [e3, e4] at C4
                have F5 := Lib.hid f5
                have hcp : ¬ L.day < L.closed + L.period := by omega
                clear e1 e2 e3 e4 f1 f2 f3 f4 f5 hD1 hD2 h2
                have x0 := (RL).cell (i := 0) (by omega); have x1 := (RL).cell (i := 1) (by omega); have x2 := (RL).cell (i := 2) (by omega); have x3 := (RL).cell (i := 3) (by omega); have x4 := (RL).cell (i := 4) (by omega); have x5 := (RL).cell (i := 5) (by omega); simp only [c6, if_true, if_false, Nat.reduceEqDiff, reduceCtorEq] at x0 x1 x2 x3 x4 x5
                go_wp2_with fail
                clear x0 x1 x2 x3 x4 x5
                refine (C3.out _).mono ?_; rintro e wa ⟨rfl, hb⟩
                have Ba := hb
                replace RL := RL.of_block (hb.block _ RL.lt)
                replace RS4 := RS4.of_block (hb.block _ RS4.lt)
                clear hb
                have x0 := (RL).cell (i := 0) (by omega); have x1 := (RL).cell (i := 1) (by omega); have x2 := (RL).cell (i := 2) (by omega); have x3 := (RL).cell (i := 3) (by omega); have x4 := (RL).cell (i := 4) (by omega); have x5 := (RL).cell (i := 5) (by omega); simp only [c6, if_true, if_false, Nat.reduceEqDiff, reduceCtorEq] at x0 x1 x2 x3 x4 x5
                go_wp2_with fail
                clear x0 x1 x2 x3 x4 x5
                refine (C4.out _).mono ?_; rintro e wb ⟨rfl, hb⟩
                have Bb := bel_step0 hb Ba
                replace RL := RL.of_block (hb.block _ RL.lt)
                replace RS4 := RS4.of_block (hb.block _ RS4.lt)
                clear hb
                have x0 := (RL).cell (i := 0) (by omega); have x1 := (RL).cell (i := 1) (by omega); have x2 := (RL).cell (i := 2) (by omega); have x3 := (RL).cell (i := 3) (by omega); have x4 := (RL).cell (i := 4) (by omega); have x5 := (RL).cell (i := 5) (by omega); simp only [c6, if_true, if_false, Nat.reduceEqDiff, reduceCtorEq] at x0 x1 x2 x3 x4 x5
                have y0 := RS4.cell (i := 0) (by omega)
                rw [c2_0] at y0
                rw [F5.out] at x5
                go_wp2_with fail
                go_meet
                exact Bb
          case rest =>
            as_aux_lemma =>
              rename World => wz
              have hbz := hcut
              replace B := bel_step0 hbz B
              replace RL := RL.of_block (hbz.block _ RL.lt)
              replace RN := RN.of_block (hbz.block _ RN.lt)
              replace RS4 := RS4.of_block (hbz.block _ RS4.lt)
              clear hbz hcut HD
              go_upto_region 13 with fail
              go_cut [146] (fun s146 wq => s146 = .bool false ∧ Below wz.heap.size wz wq)
              case first =>
                as_aux_lemma =>
                  have x0 := (RL).cell (i := 0) (by omega); have x1 := (RL).cell (i := 1) (by omega); have x2 := (RL).cell (i := 2) (by omega); have x3 := (RL).cell (i := 3) (by omega); have x4 := (RL).cell (i := 4) (by omega); have x5 := (RL).cell (i := 5) (by omega); simp only [c6, if_true, if_false, Nat.reduceEqDiff, reduceCtorEq] at x0 x1 x2 x3 x4 x5
                  have z0 := (RN).cell (i := 0) (by omega); have z1 := (RN).cell (i := 1) (by omega); have z2 := (RN).cell (i := 2) (by omega); have z3 := (RN).cell (i := 3) (by omega); have z4 := (RN).cell (i := 4) (by omega); have z5 := (RN).cell (i := 5) (by omega); simp only [c6, if_true, if_false, Nat.reduceEqDiff, reduceCtorEq] at z0 z1 z2 z3 z4 z5
                  have y0 := RS4.cell (i := 0) (by omega)
                  rw [c2_0] at y0
                  clear x0 x2 x3 x4 x5 z0 z2 z3 z4 z5
                  cases ok
                  · go_wp2_with fail
                    go_meet
                    exact ⟨rfl, Below.refl _ _⟩
                  · by_cases hs : 1 < L.state
                    · obtain ⟨rfl, hs2⟩ := ended_fact HOK.out hs
                      rw [HN.out] at hs2
                      rw [hs2] at z1
                      clear hs2
                      go_wp2_with fail
                      go_meet
                      exact ⟨rfl, Below.refl _ _⟩
                    · go_wp2_with fail
                      go_meet
                      exact ⟨rfl, Below.refl _ _⟩
              case rest =>
                as_aux_lemma =>
                  rename World => wq
                  obtain ⟨rfl, hbq⟩ := hcut
                  replace B := bel_step0 hbq B
                  clear hbq RL RN RS4 HOK HN
                  go_wp2_with fail
                  refine (C_DrawRunLife _ n _ (HS.out.below B)).mono ?_; rintro e wr1 ⟨X, u, m, K, V, rfl, hXI, hss, hV, hb⟩
                  replace B := bel_step0 hb B
                  clear hb
                  obtain ⟨UA, uc, rfl⟩ : ∃ A c, u = .slice A m c := by obtain ⟨A, c, e, _⟩ := hss; exact ⟨A, c, e⟩
                  obtain ⟨E, hE⟩ : ∃ E, runL X m K V = E := ⟨_, rfl⟩
                  obtain ⟨c, hc⟩ : ∃ c, runN X m K V = c := ⟨_, rfl⟩
                  obtain ⟨told, htold⟩ : ∃ t, runOk X m = t := ⟨_, rfl⟩
                  have C5 := Lib.hid (fun W hW => C_RunLifeI (X).day (X).state (X).act (X).period (X).closed (X).holds (.slice UA m uc) m K V W hW)
                  have C6 := Lib.hid (fun W hW => C_RunLifeS (X).day (X).state (X).act (X).period (X).closed (X).holds (.slice UA m uc) m K V W hW hV)
                  have e1 : runL ⟨X.day, X.state, X.act, X.period, X.closed, X.holds⟩ m K V = E := hE
                  have e2 : runN ⟨X.day, X.state, X.act, X.period, X.closed, X.holds⟩ m K V = c := hc
                  have e3 : runOk ⟨X.day, X.state, X.act, X.period, X.closed, X.holds⟩ m = told := htold
                  rw [e1, e2, e3] at C5 C6
                  have HEQ := Lib.hid (And.intro hE (And.intro hc htold))
                  clear e1 e2 e3 hE hc htold
                  obtain ⟨ws, hw3⟩ : ∃ w3, w3 = (wr1).alloc (.cells #[.int .i64 (X).day, .int .i64 (X).state, .int .i64 (X).act, .int .i64 (X).period, .int .i64 (X).closed, .int .i64 (X).holds] 25) := ⟨_, rfl⟩; obtain ⟨g13, hg⟩ : ∃ g, g = (wr1).heap.size := ⟨_, rfl⟩; have RX : (ws).rowIs g13 25 6 (c6 X) := (by rw [hw3, hg]; exact row6_alloc wr1 _ X); (replace B : Below w.heap.size w ws := by (rw [hw3]; exact bel_alloc0 B _)); have HW3 := Lib.hid hw3.symm; have HG := Lib.hid hg.symm; clear hw3 hg
                  replace hss := hss.below (w' := ws) (by rw [← HW3.out]; exact bel_alloc0 (Below.refl _ _) _)
                  have HSS := Lib.hid hss
                  clear hss
                  go_wp2_with fail
                  rw [HW3.out, HG.out]
                  clear HW3 HG
                  refine (C5.out _ HSS.out).mono ?_; rintro e wt ⟨rfl, hb⟩
                  replace B := bel_step0 hb B; replace RX := RX.of_block (hb.block _ RX.lt)
                  replace HSS := Lib.hid (HSS.out.below hb)
                  clear hb
                  obtain ⟨wu, hw3⟩ : ∃ w3, w3 = (wt).alloc (.cells #[.int .i64 (E).day, .int .i64 (E).state, .int .i64 (E).act, .int .i64 (E).period, .int .i64 (E).closed, .int .i64 (E).holds] 25) := ⟨_, rfl⟩; obtain ⟨g15, hg⟩ : ∃ g, g = (wt).heap.size := ⟨_, rfl⟩; have RE : (wu).rowIs g15 25 6 (c6 E) := (by rw [hw3, hg]; exact row6_alloc wt _ E); (replace B : Below w.heap.size w wu := by (rw [hw3]; exact bel_alloc0 B _)); have HW3 := Lib.hid hw3.symm; have HG := Lib.hid hg.symm; clear hw3 hg
                  replace RX : wu.rowIs g13 25 6 (c6 X) := by rw [← HW3.out]; exact row_alloc RX _
                  replace HSS := Lib.hid (HSS.out.below (w' := wu) (by rw [← HW3.out]; exact bel_alloc0 (Below.refl _ _) _))
                  go_upto_region 17 with fail
                  rw [HW3.out, HG.out]
                  clear HW3 HG
                  have x0 := (RX).cell (i := 0) (by omega); have x1 := (RX).cell (i := 1) (by omega); have x2 := (RX).cell (i := 2) (by omega); have x3 := (RX).cell (i := 3) (by omega); have x4 := (RX).cell (i := 4) (by omega); have x5 := (RX).cell (i := 5) (by omega); simp only [c6, if_true, if_false, Nat.reduceEqDiff, reduceCtorEq] at x0 x1 x2 x3 x4 x5
                  go_wp2_with fail
                  clear x0 x1 x2 x3 x4 x5
                  refine (C6.out _ HSS.out).mono ?_; rintro e wv ⟨rfl, hb⟩
                  replace B := bel_step0 hb B; replace RX := RX.of_block (hb.block _ RX.lt); replace RE := RE.of_block (hb.block _ RE.lt)
                  replace HSS := Lib.hid (HSS.out.below hb)
                  clear hb
                  obtain ⟨ww, hww⟩ : ∃ ww, ww = wv.alloc (.cells #[.int .i64 (E).day, .int .i64 (E).state, .int .i64 (E).act, .int .i64 (E).period, .int .i64 (E).closed, .int .i64 (E).holds] 25) := ⟨_, rfl⟩
                  obtain ⟨g18, hg18⟩ : ∃ g, g = wv.heap.size := ⟨_, rfl⟩
                  have RE2 : ww.rowIs g18 25 6 (c6 E) := by rw [hww, hg18]; exact row6_alloc wv _ E
                  replace RX : ww.rowIs g13 25 6 (c6 X) := by rw [hww]; exact row_alloc RX _
                  replace RE : ww.rowIs g15 25 6 (c6 E) := by rw [hww]; exact row_alloc RE _
                  replace B : Below w.heap.size w ww := by rw [hww]; exact bel_alloc0 B _
                  replace HSS := Lib.hid (HSS.out.below (w' := ww) (by rw [hww]; exact bel_alloc0 (Below.refl _ _) _))
                  have HWW := Lib.hid hww.symm
                  have HG18 := Lib.hid hg18.symm
                  clear hww hg18 C5 C6
                  go_upto_region 18 with fail
                  rw [HWW.out, HG18.out]
                  clear HWW HG18
                  have x0 := (RE).cell (i := 0) (by omega); have x1 := (RE).cell (i := 1) (by omega); have x2 := (RE).cell (i := 2) (by omega); have x3 := (RE).cell (i := 3) (by omega); have x4 := (RE).cell (i := 4) (by omega); have x5 := (RE).cell (i := 5) (by omega); simp only [c6, if_true, if_false, Nat.reduceEqDiff, reduceCtorEq] at x0 x1 x2 x3 x4 x5
                  have z0 := (RE2).cell (i := 0) (by omega); have z1 := (RE2).cell (i := 1) (by omega); have z2 := (RE2).cell (i := 2) (by omega); have z3 := (RE2).cell (i := 3) (by omega); have z4 := (RE2).cell (i := 4) (by omega); have z5 := (RE2).cell (i := 5) (by omega); simp only [c6, if_true, if_false, Nat.reduceEqDiff, reduceCtorEq] at z0 z1 z2 z3 z4 z5
                  go_upto_if 179 with fail
                  clear x0 x1 x2 x3 x4 x5 z0 z1 z2 z3 z4 z5 RE2
                  go_cut [21, 22, 23, 24, 25] (fun s21 s22 s23 s24 s25 wx2 => Below ww.heap.size ww wx2)
                  case first =>
                    as_aux_lemma =>
                      cases told
                      · go_wp2_with fail
                        go_meet
                        exact Below.refl _ _
                      · obtain ⟨hE, hc, ht⟩ := HEQ.out
                        have hm40 : X.ok = true ∧ m ≤ 40 := by simpa [runOk] using ht
                        have hE2 : (runTo X K V m).1 = E := by rw [← hE]; simp [runL, ht]
                        have hc2 : (runTo X K V m).2 = c := by rw [← hc]; simp [runN, ht]
                        obtain ⟨hxok, hm⟩ := hm40
                        have HXO := Lib.hid hxok
                        have HFIN := Lib.hid (And.intro hE2 hc2)
                        have HR : 0 < m → ∃ b off, UA = some ⟨b, off, none⟩ ∧ b < ww.heap.size ∧ ∀ j, j < m → ww.cell? ⟨b, off + j * 2, none⟩ = some (.int .i64 (K j)) ∧ ww.cell? ⟨b, off + j * 2 + 1, none⟩ = some (.int .i64 (V j)) := by
                          obtain ⟨A', c', e, hr, _, _⟩ := HSS.out
                          injection e with e1 _ _
                          rw [e1]; exact hr
                        have HR := Lib.hid HR
                        have RE' := Lib.hid RE
                        clear hE hc ht hxok hE2 hc2 RE HEQ
                        have x0 := (RX).cell (i := 0) (by omega); have x1 := (RX).cell (i := 1) (by omega); have x2 := (RX).cell (i := 2) (by omega); have x3 := (RX).cell (i := 3) (by omega); have x4 := (RX).cell (i := 4) (by omega); have x5 := (RX).cell (i := 5) (by omega); simp only [c6, if_true, if_false, Nat.reduceEqDiff, reduceCtorEq] at x0 x1 x2 x3 x4 x5
                        go_wp2
                        clear x0 x1 x2 x3 x4 x5
                        go_loopw [22, 23] (fun s i wr => ∃ j : Nat, j ≤ m ∧ i = .int .i64 j ∧ s = .int .i64 ((runTo X K V j).2 : Nat) ∧ wr.rowIs ww.heap.size 25 6 (c6 (runTo X K V j).1) ∧ wr.rowIs g15 25 6 (c6 E) ∧ Below ww.heap.size ww wr) (fun _ i _ => m - (intOf i).toNat)
                        case atStart => exact ⟨0, Nat.zero_le _, rfl, rfl, row6_alloc ww _ X, row_alloc RE'.out _, bel_alloc0 (Below.refl _ _) _⟩
                        case round =>
                          as_aux_lemma =>
                            obtain ⟨j, hj, rfl, rfl, h2, h15, hB⟩ := hrel
                            have hzB := hB.size
                            obtain ⟨hxo, hxm⟩ := runTo_ok (K := K) (V := V) HXO.out j
                            obtain ⟨⟨Y, q⟩, hrun⟩ : ∃ x, runTo X K V j = x := ⟨_, rfl⟩
                            rw [hrun] at h2 hxo hxm ⊢
                            simp only at h2 hxo hxm ⊢
                            have HRUN := Lib.hid hrun
                            have H2 := Lib.hid h2
                            have H15 := Lib.hid h15
                            clear hrun
                            by_cases hlt : j < m
                            · obtain ⟨b, off, rfl, hb, hcell⟩ := SS.at_ hB HR.out (by omega)
                              obtain ⟨hck0, hck1⟩ := hcell j hlt
                              have hkn : (j : Int) < (m : Int) := by omega
                              have hk0 : (0 : Int) ≤ (j : Int) := by omega
                              obtain ⟨b1, hb1⟩ : ∃ b, canL Y (K j) (V j) = b := ⟨_, rfl⟩
                              obtain ⟨N1, hN1⟩ : ∃ N, stepL Y (K j) (V j) = N := ⟨_, rfl⟩
                              have HC := Lib.hid (fun W => C_StepLifeI (Y).day (Y).state (Y).act (Y).period (Y).closed (Y).holds (K j) (V j) W)
                              have e1 : canL ⟨Y.day, Y.state, Y.act, Y.period, Y.closed, Y.holds⟩ (K j) (V j) = b1 := hb1
                              have e2 : stepL ⟨Y.day, Y.state, Y.act, Y.period, Y.closed, Y.holds⟩ (K j) (V j) = N1 := hN1
                              rw [e1, e2] at HC
                              have HB1 := Lib.hid hb1
                              have HN1 := Lib.hid hN1
                              have hgl := h2.lt
                              have x0 := (h2).cell (i := 0) (by omega); have x1 := (h2).cell (i := 1) (by omega); have x2 := (h2).cell (i := 2) (by omega); have x3 := (h2).cell (i := 3) (by omega); have x4 := (h2).cell (i := 4) (by omega); have x5 := (h2).cell (i := 5) (by omega); simp only [c6, if_true, if_false, Nat.reduceEqDiff, reduceCtorEq] at x0 x1 x2 x3 x4 x5
                              have r : ∀ W, Below wr.heap.size wr W → W.cell? ⟨ww.heap.size, 0, none⟩ = some (.int .i64 Y.day) ∧ W.cell? ⟨ww.heap.size, 1, none⟩ = some (.int .i64 Y.state) ∧ W.cell? ⟨ww.heap.size, 2, none⟩ = some (.int .i64 Y.act) ∧ W.cell? ⟨ww.heap.size, 3, none⟩ = some (.int .i64 Y.period) ∧ W.cell? ⟨ww.heap.size, 4, none⟩ = some (.int .i64 Y.closed) ∧ W.cell? ⟨ww.heap.size, 5, none⟩ = some (.int .i64 Y.holds) ∧
                                  W.cell? ⟨b, off + j * 2, none⟩ = some (.int .i64 (K j)) ∧ W.cell? ⟨b, off + j * 2 + 1, none⟩ = some (.int .i64 (V j)) := fun W hW =>
                                ⟨(hW.cell (p := ⟨ww.heap.size, 0, none⟩) hgl).trans x0, (hW.cell (p := ⟨ww.heap.size, 1, none⟩) hgl).trans x1, (hW.cell (p := ⟨ww.heap.size, 2, none⟩) hgl).trans x2, (hW.cell (p := ⟨ww.heap.size, 3, none⟩) hgl).trans x3, (hW.cell (p := ⟨ww.heap.size, 4, none⟩) hgl).trans x4, (hW.cell (p := ⟨ww.heap.size, 5, none⟩) hgl).trans x5,
                                  (hW.cell (p := ⟨b, off + j * 2, none⟩) hb).trans hck0, (hW.cell (p := ⟨b, off + j * 2 + 1, none⟩) hb).trans hck1⟩
                              clear hcell h2 h15 e1 e2 hb1 hN1 x0 x1 x2 x3 x4 x5 hck0 hck1
                              go_upto_region 25 with fail
                              go_cut [24, 25] (fun s24 s25 wx => ∃ G : Nat, s24 = .pointer (some ⟨G, 0, none⟩) ∧ s25 = .bool b1 ∧ wx.rowIs G 25 6 (c6 N1) ∧ Below wr.heap.size wr wx)
                              case first =>
                                as_aux_lemma =>
                                  go_region_held3 (fun W => Below wr.heap.size wr W) (((repeat (first | with_reducible exact Below.refl _ _ | with_reducible exact below_regrown _ _ _ | with_reducible refine bel_step0 (by assumption) ?_ | with_reducible refine bel_alloc0 ?_ _ | with_reducible refine bel_regrown0 ?_ _ _ | with_reducible refine bel_regrown ?_ (by first | omega | (simp; done) | (simp; omega)) _ _ | with_reducible refine below_drewN ?_ _ | with_reducible refine Below.drew ?_ | with_reducible refine Below.alloc ?_ (by first | omega | (simp; done) | (simp; omega)) _ | with_reducible refine Below.setCell ?_ (by first | omega | (simp; done) | (simp; omega)) _ | with_reducible refine bel_step (by assumption) (by first | omega | (simp; done) | (simp; omega)) ?_ | with_reducible refine bel_grown (by assumption) (by first | omega | (simp; done) | (simp; omega)) (by first | omega | (simp; done) | (simp; omega)) ?_)))) ((go_at_call 25; refine (HC.out _).mono ?_; rintro e w2 ⟨rfl, hb2⟩; (try (have hn6 := (row6_alloc wr.drew 25 zeroL).of_block (hb2.block _ (by simp [zeroL])); rw [World.size_drew] at hn6; have n0 := (hn6).cell (i := 0) (by omega); have n1 := (hn6).cell (i := 1) (by omega); have n2 := (hn6).cell (i := 2) (by omega); have n3 := (hn6).cell (i := 3) (by omega); have n4 := (hn6).cell (i := 4) (by omega); have n5 := (hn6).cell (i := 5) (by omega); simp only [c6, if_true, if_false, Nat.reduceEqDiff, reduceCtorEq] at n0 n1 n2 n3 n4 n5; have m0 := hn6.frozen 0; have m1 := hn6.frozen 1; have m2 := hn6.frozen 2; have m3 := hn6.frozen 3; have m4 := hn6.frozen 4; have m5 := hn6.frozen 5; have HN6 := Lib.hid hn6; clear hn6))))
                                  · go_wp2_with fail
                                    go_meet
                                    exact ⟨_, rfl, rfl, row6_alloc w2 _ N1, by (repeat (first | with_reducible exact Below.refl _ _ | with_reducible exact below_regrown _ _ _ | with_reducible refine bel_step0 (by assumption) ?_ | with_reducible refine bel_alloc0 ?_ _ | with_reducible refine bel_regrown0 ?_ _ _ | with_reducible refine bel_regrown ?_ (by first | omega | (simp; done) | (simp; omega)) _ _ | with_reducible refine below_drewN ?_ _ | with_reducible refine Below.drew ?_ | with_reducible refine Below.alloc ?_ (by first | omega | (simp; done) | (simp; omega)) _ | with_reducible refine Below.setCell ?_ (by first | omega | (simp; done) | (simp; omega)) _ | with_reducible refine bel_step (by assumption) (by first | omega | (simp; done) | (simp; omega)) ?_ | with_reducible refine bel_grown (by assumption) (by first | omega | (simp; done) | (simp; omega)) (by first | omega | (simp; done) | (simp; omega)) ?_))⟩
                                  · go_wp2_with fail
                                    go_meet
                                    have hbb : Below wr.heap.size wr w2 := by (repeat (first | with_reducible exact Below.refl _ _ | with_reducible exact below_regrown _ _ _ | with_reducible refine bel_step0 (by assumption) ?_ | with_reducible refine bel_alloc0 ?_ _ | with_reducible refine bel_regrown0 ?_ _ _ | with_reducible refine bel_regrown ?_ (by first | omega | (simp; done) | (simp; omega)) _ _ | with_reducible refine below_drewN ?_ _ | with_reducible refine Below.drew ?_ | with_reducible refine Below.alloc ?_ (by first | omega | (simp; done) | (simp; omega)) _ | with_reducible refine Below.setCell ?_ (by first | omega | (simp; done) | (simp; omega)) _ | with_reducible refine bel_step (by assumption) (by first | omega | (simp; done) | (simp; omega)) ?_ | with_reducible refine bel_grown (by assumption) (by first | omega | (simp; done) | (simp; omega)) (by first | omega | (simp; done) | (simp; omega)) ?_))
                                    exact ⟨_, rfl, rfl, row6_set N1 HN6.out, (((((hbb.setCell (p := ⟨wr.heap.size, 0, none⟩) (Nat.le_refl _) _).setCell (p := ⟨wr.heap.size, 1, none⟩) (Nat.le_refl _) _).setCell (p := ⟨wr.heap.size, 2, none⟩) (Nat.le_refl _) _).setCell (p := ⟨wr.heap.size, 3, none⟩) (Nat.le_refl _) _).setCell (p := ⟨wr.heap.size, 4, none⟩) (Nat.le_refl _) _).setCell (p := ⟨wr.heap.size, 5, none⟩) (Nat.le_refl _) _⟩
                              case rest =>
                                as_aux_lemma =>
                                  rename World => wx3
                                  obtain ⟨G, rfl, rfl, hy, hbx⟩ := hcut
                                  clear r
                                  have j2 := H2.out.of_block (hbx.block _ H2.out.lt)
                                  have j15 := H15.out.of_block (hbx.block _ H15.out.lt)
                                  have jB := bel_step0 hbx hB
                                  have z0 := j2.frozen 0
                                  have z1 := j2.frozen 1
                                  have z2 := j2.frozen 2
                                  have z3 := j2.frozen 3
                                  have z4 := j2.frozen 4
                                  have z5 := j2.frozen 5
                                  have x0 := (j2).cell (i := 0) (by omega); have x1 := (j2).cell (i := 1) (by omega); have x2 := (j2).cell (i := 2) (by omega); have x3 := (j2).cell (i := 3) (by omega); have x4 := (j2).cell (i := 4) (by omega); have x5 := (j2).cell (i := 5) (by omega); simp only [c6, if_true, if_false, Nat.reduceEqDiff, reduceCtorEq] at x0 x1 x2 x3 x4 x5
                                  have y0 := (hy).cell (i := 0) (by omega); have y1 := (hy).cell (i := 1) (by omega); have y2 := (hy).cell (i := 2) (by omega); have y3 := (hy).cell (i := 3) (by omega); have y4 := (hy).cell (i := 4) (by omega); have y5 := (hy).cell (i := 5) (by omega); simp only [c6, if_true, if_false, Nat.reduceEqDiff, reduceCtorEq] at y0 y1 y2 y3 y4 y5
                                  have J2 := Lib.hid j2
                                  have J15 := Lib.hid j15
                                  have hne15 : g15 ≠ ww.heap.size := by have := RE'.out.lt; omega
                                  have HNE := Lib.hid hne15
                                  clear j2 j15 hy hne15
                                  have hq1 : q ≤ 40 := by omega
                                  cases b1
                                  · go_wp2
                                    go_roundw
                                    case rel =>
                                      refine ⟨j + 1, by omega, by go_num, ?_⟩
                                      rw [runTo_no HRUN.out HB1.out]
                                      exact ⟨rfl, J2.out, J15.out, jB⟩
                                    case measure => simp [intOf]; omega
                                  · have hyy : N1 = rawL Y (K j) (V j) := by rw [← HN1.out, stepL, if_pos HB1.out]
                                    have HYY := Lib.hid hyy
                                    clear hyy
                                    go_wp2
                                    go_roundw
                                    case rel =>
                                      refine ⟨j + 1, by omega, by go_num, ?_⟩
                                      rw [runTo_yes HRUN.out HB1.out, ← HYY.out]
                                      have hn := HNE.out
                                      have q4 := (((((J15.out.setOther (a := ⟨ww.heap.size, 0, none⟩) hn (.int .i64 N1.day)).setOther (a := ⟨ww.heap.size, 1, none⟩) hn (.int .i64 N1.state)).setOther (a := ⟨ww.heap.size, 2, none⟩) hn (.int .i64 N1.act)).setOther (a := ⟨ww.heap.size, 3, none⟩) hn (.int .i64 N1.period)).setOther (a := ⟨ww.heap.size, 4, none⟩) hn (.int .i64 N1.closed)).setOther (a := ⟨ww.heap.size, 5, none⟩) hn (.int .i64 N1.holds)
                                      have hge : ww.heap.size ≤ ww.heap.size := Nat.le_refl _
                                      exact ⟨rfl, row6_set N1 J2.out, q4, (((((jB.setCell (p := ⟨ww.heap.size, 0, none⟩) hge _).setCell (p := ⟨ww.heap.size, 1, none⟩) hge _).setCell (p := ⟨ww.heap.size, 2, none⟩) hge _).setCell (p := ⟨ww.heap.size, 3, none⟩) hge _).setCell (p := ⟨ww.heap.size, 4, none⟩) hge _).setCell (p := ⟨ww.heap.size, 5, none⟩) hge _⟩
                                    case measure => simp [intOf]; omega
                            · obtain rfl : j = m := by omega
                              obtain ⟨f1, f2⟩ := HFIN.out
                              rw [HRUN.out] at f1 f2
                              simp only at f1 f2
                              subst f1 f2
                              have x0 := (h2).cell (i := 0) (by omega); have x1 := (h2).cell (i := 1) (by omega); have x2 := (h2).cell (i := 2) (by omega); have x3 := (h2).cell (i := 3) (by omega); have x4 := (h2).cell (i := 4) (by omega); have x5 := (h2).cell (i := 5) (by omega); simp only [c6, if_true, if_false, Nat.reduceEqDiff, reduceCtorEq] at x0 x1 x2 x3 x4 x5
                              have y0 := (h15).cell (i := 0) (by omega); have y1 := (h15).cell (i := 1) (by omega); have y2 := (h15).cell (i := 2) (by omega); have y3 := (h15).cell (i := 3) (by omega); have y4 := (h15).cell (i := 4) (by omega); have y5 := (h15).cell (i := 5) (by omega); simp only [c6, if_true, if_false, Nat.reduceEqDiff, reduceCtorEq] at y0 y1 y2 y3 y4 y5
                              clear h2 h15
                              go_wp2_with fail
                              go_meet
                              exact hB
                  case rest =>
                    as_aux_lemma =>
                      rename World => wx2
                      replace B := bel_step0 hcut B
                      clear hcut RX RE HSS HEQ
                      go_wp2_with fail
                      refine (C_DrawNewLife _ n _ (HS.out.below B)).mono ?_; rintro e wy1 ⟨a, p, rfl, hb⟩
                      replace B := bel_step0 hb B
                      clear hb
                      obtain ⟨E1, hE1⟩ : ∃ E, newR a p = E := ⟨_, rfl⟩
                      obtain ⟨f1, hf1⟩ : ∃ f, (newL a p).ok = f := ⟨_, rfl⟩
                      have C7 := Lib.hid (And.intro (fun W => C_NewLifeI a p W) (fun W => C_NewLifeS a p W))
                      rw [hE1, hf1] at C7
                      clear hE1 hf1
                      go_wp2_with fail
                      refine (C7.out.1 _).mono ?_; rintro e wy2 ⟨rfl, hb⟩
                      replace B := bel_step0 hb B
                      clear hb
                      obtain ⟨wy3, hw3⟩ : ∃ w3, w3 = (wy2).alloc (.cells #[.int .i64 (E1).day, .int .i64 (E1).state, .int .i64 (E1).act, .int .i64 (E1).period, .int .i64 (E1).closed, .int .i64 (E1).holds] 25) := ⟨_, rfl⟩; obtain ⟨g28, hg⟩ : ∃ g, g = (wy2).heap.size := ⟨_, rfl⟩; have RE1 : (wy3).rowIs g28 25 6 (c6 E1) := (by rw [hw3, hg]; exact row6_alloc wy2 _ E1); (replace B : Below w.heap.size w wy3 := by (rw [hw3]; exact bel_alloc0 B _)); have HW3 := Lib.hid hw3.symm; have HG := Lib.hid hg.symm; clear hw3 hg
                      go_wp2_with fail
                      rw [HW3.out, HG.out]
                      clear HW3 HG
                      refine (C7.out.2 _).mono ?_; rintro e wy4 ⟨rfl, hb⟩
                      replace B := bel_step0 hb B
                      replace RE1 := RE1.of_block (hb.block _ RE1.lt)
                      clear hb
                      have RE3 := row_alloc RE1 (.cells #[.int .i64 (E1).day, .int .i64 (E1).state, .int .i64 (E1).act, .int .i64 (E1).period, .int .i64 (E1).closed, .int .i64 (E1).holds] 25)
                      have x0 := (RE3).cell (i := 0) (by omega); have x1 := (RE3).cell (i := 1) (by omega); have x2 := (RE3).cell (i := 2) (by omega); have x3 := (RE3).cell (i := 3) (by omega); have x4 := (RE3).cell (i := 4) (by omega); have x5 := (RE3).cell (i := 5) (by omega); simp only [c6, if_true, if_false, Nat.reduceEqDiff, reduceCtorEq] at x0 x1 x2 x3 x4 x5
                      cases f1
                      · go_wp2_with fail
                        go_ret
                        exact ⟨rfl, bel_alloc0 B _⟩
                      · go_wp2_with fail
                        go_ret
                        exact ⟨rfl, bel_alloc0 B _⟩
set_option maxRecDepth 100000 in
theorem lifted (os : Os) (started : os.Started) (H : Type) (enc : TypeId × Value → H) :
    ReturnsInHanded {} Try.checked os 10 .any (Rows.fnLivesSpec.pre6 enc Try.prog Try.f10 Rows.fnLivesRow.domain false) (Rows.fnLivesSpec.post enc Try.prog Try.f10 false true false false) := by
  refine returnsInHanded_of_change (C := Try.checked) own started (by kernel_rfl) Try.func10
    (ChangeSpec.witness6 (enc := enc) (C := Try.checked) false ⟨#[], #[.slice none 0 0], []⟩ 8 (by kernel_rfl) (by kernel_rfl) (by kernel_rfl) (by kernel_rfl)) ?_
  intro W base args ds gs before hval0 hW hcnd _
  have hval : ∀ (j : Nat) t v, Try.f10.params[j]? = some t → args[j]? = some v → Value.okWide Try.prog W .any base t v := hval0
  have hW' := hW
  obtain ⟨p, q, hA0, hV, rfl, hfz, hnd⟩ := hW
  have hA : DataW.TrodAll enc Try.prog W 0 (fun _ => true) true Try.f10.params.toList args.toList ds p := hA0
  rw [Try.params10] at hA hval
  obtain ⟨v0, vs0, d0, ds0, p0, q0, hargs, rfl, rfl, h0, r0⟩ := trodAll_cons hA
  obtain ⟨rfl, rfl, rfl⟩ := trodAll_nil r0
  obtain rfl : args = #[v0] := by cases args; simp_all
  obtain ⟨rfl, rfl⟩ := trodVars_none hV
  have k0 := h0
  have lt0 : ∀ x ∈ p0, x.block < W.heap.size := by obtain ⟨m, hm⟩ := k0; exact DataW.trod_lt m _ _ _ hm
  obtain ⟨n0, b0⟩ := view_Suint8 (hval 0 52 v0 rfl rfl) h0
  clear hA0 hval0
  refine (walk v0 n0 W b0).mono fun e W' ⟨he, bel⟩ => ?_
  subst he
  exact ⟨_, rfl, _, _, _, [], _, [], hW', trodAll_mk1 (shut_bool Try.underlying4 _), (trodAll_cons_mk (Below.trod laidOut (by kernel_rfl) (of_decide_eq_true (by kernel_rfl)) k0 bel lt0) trodAll_mk0), rfl, bel.frame _, fun h => by cases h⟩

theorem proved : Rows.FnLivesSaid :=
  OpenClaim.holds_of_wide 10 Try.f10 rfl rfl rfl rfl rfl rfl rfl ⟨rfl, rfl, rfl, rfl, rfl⟩ rfl rfl rfl rfl rfl (by kernel_rfl) Try.func10 (by kernel_rfl)
    (of_decide_eq_true (by kernel_rfl)) (by unfold Func.isWrapper; first | (rw [if_pos (by decide +kernel)]; kernel_rfl) | (rw [if_neg (by decide +kernel)]; exact ⟨rfl, rfl⟩))
    (fun os started H enc _ => lifted os started H enc)
#print axioms proved
end Go.Proofs.Ytpkgfpgccfnkpaa.lawFnLives
