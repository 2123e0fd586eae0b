/- The law FnEndings returns true, whatever its argument, and leaves it as it was. No condition beyond the row's own. -/
import Derived.Test.YtpkgfpgccfnkpaaDoorLfU
import Derived.Test.YtpkgfpgccfnkpaaDoorCurO
import Derived.Test.YtpkgfpgccfnkpaaDoorLifeI
import Derived.Test.YtpkgfpgccfnkpaaDoorEndL
import Derived.Test.YtpkgfpgccfnkpaaDoorTab
import Derived.Test.YtpkgfpgccfnkpaaDoorDoorW
import Derived.Test.YtpkgfpgccfnkpaaDoorCards
import Derived.Test.YtpkgfpgccfnkpaaDoorTie
import Derived.Test.YtpkgfpgccfnkpaaDoorOpen
import Derived.Deep.DeepHandedRow
import Derived.LaidMore
import Derived.Deep.DeepLaidRun
import Derived.PinnedBridge
import Derived.OpenShut
import Derived.ChangeMaps5
namespace Go.Proofs.YtpkgfpgccfnkpaaDoor.lawFnEndings
open Go.ChangeShapes Go.WideShapes Go.ChangeAt Go.RowKit Go.Deep Go.Joins
open Go.ChangeMaps (open_string shut_string)
set_option linter.unusedVariables false
set_option linter.unusedSimpArgs false
set_option maxRecDepth 100000 in
set_option maxHeartbeats 8000000 in
theorem walk (v : Value) (n : Nat) (w : World) (h : SU w v n) (ht : Tab w) :
    Calls Tryd.prog 4 #[v] w fun e w' => e = .returned (.bool true) ∧ Below w.heap.size w w' := by
  obtain ⟨A, cap, rfl⟩ := h.form
  have HS := Lib.hid h
  have HT := Lib.hid ht
  clear h ht
  by_cases hbig : 65536 < n
  · have hbig2 : decide (65536 < (n : Int)) = true := by simp; omega
    go_enter Tryd.func4, Tryd.ntmps4
    go_wp2_with fail
    refine (C_vBig _ n _ HS.out).mono ?_; rintro e w1 ⟨rfl, rfl⟩
    rw [hbig2]
    go_wp2_with fail
    go_ret
    exact ⟨rfl, Below.refl _ _⟩
  have hbig2 : decide (65536 < (n : Int)) = false := by simp; omega
  go_enter Tryd.func4, Tryd.ntmps4
  go_wp2_with fail
  refine (C_vBig _ n _ HS.out).mono ?_; rintro e w1 ⟨rfl, rfl⟩
  rw [hbig2]
  clear hbig hbig2
  go_wp2_with fail
  refine (C_DrawWhyNotEnd _ n _ HS.out).mono ?_; rintro e w2 ⟨L, rfl, hLI, B2⟩
  obtain ⟨ok, hok⟩ : ∃ ok, L.ok = ok := ⟨_, rfl⟩
  obtain ⟨T, hT⟩ : ∃ T, whyNotEnd L = T := ⟨_, rfl⟩
  have C1 := Lib.hid (fun W => C_WhyNotEndI L.day L.state L.act L.period L.closed L.holds W)
  have C2 := Lib.hid (fun W => C_WhyNotEndS L.day L.state L.act L.period L.closed L.holds W)
  have C3 := Lib.hid (fun W => C_CanEndI L.day L.state L.act L.period L.closed L.holds W)
  have C4 := Lib.hid (fun W => C_CanEndS L.day L.state L.act L.period L.closed L.holds W)
  have C5 := Lib.hid (fun W => C_StepLifeI L.day L.state L.act L.period L.closed L.holds 7 0 W)
  have e1 : whyNotEnd ⟨L.day, L.state, L.act, L.period, L.closed, L.holds⟩ = T := hT
  have e2 : Lf.ok ⟨L.day, L.state, L.act, L.period, L.closed, L.holds⟩ = ok := hok
  rw [e1, e2] at C1 C2
  rw [e2] at C3 C4
  clear e1 e2
  have c1 : (ok && ready ⟨L.day, L.state, L.act, L.period, L.closed, L.holds⟩) = (ok && ready L) := rfl
  rw [c1] at C3 C4
  clear c1
  have B := B2
  clear B2
  obtain ⟨w3, hw3⟩ : ∃ w3, w3 = (w2).alloc (.cells #[.int .i64 (L).day, .int .i64 (L).state, .int .i64 (L).act, .int .i64 (L).period, .int .i64 (L).closed, .int .i64 (L).holds] 26) := ⟨_, rfl⟩; obtain ⟨g, hg⟩ : ∃ g, g = (w2).heap.size := ⟨_, rfl⟩; have RL : (w3).rowIs g 26 6 (c6 L) := (by rw [hw3, hg]; exact row6_alloc w2 _ L); (replace B : Below w.heap.size w w3 := by (rw [hw3]; exact bel_alloc0 B _)); have HW3 := Lib.hid hw3.symm; have HG := Lib.hid hg.symm; clear hw3 hg
  go_wp2_with fail
  rw [HW3.out, HG.out]
  clear HW3 HG
  cases ok
  · have hT0 : T = ⟨#[]⟩ := by rw [← hT]; simp [whyNotEnd, hok]
    subst hT0
    rw [Bool.false_and] at C3 C4
    clear hT hok C5
    (refine (C1.out _).mono ?_; rintro e w4 ⟨rfl, hb⟩; replace B := bel_step0 hb B; replace RL := (RL).of_block (hb.block _ (RL).lt); (try replace RX := RX.of_block (hb.block _ RX.lt)); clear hb; have x0 := (RL).cell (i := 0) (by omega); have x1 := (RL).cell (i := 1) (by omega); have x2 := (RL).cell (i := 2) (by omega); have x3 := (RL).cell (i := 3) (by omega); have x4 := (RL).cell (i := 4) (by omega); have x5 := (RL).cell (i := 5) (by omega); simp only [c6, if_true, if_false, Nat.reduceEqDiff, reduceCtorEq] at x0 x1 x2 x3 x4 x5; go_wp2_with fail; (try clear x0 x1 x2 x3 x4 x5))
    (refine (C2.out _).mono ?_; rintro e w5 ⟨rfl, hb⟩; replace B := bel_step0 hb B; replace RL := (RL).of_block (hb.block _ (RL).lt); (try replace RX := RX.of_block (hb.block _ RX.lt)); clear hb; have x0 := (RL).cell (i := 0) (by omega); have x1 := (RL).cell (i := 1) (by omega); have x2 := (RL).cell (i := 2) (by omega); have x3 := (RL).cell (i := 3) (by omega); have x4 := (RL).cell (i := 4) (by omega); have x5 := (RL).cell (i := 5) (by omega); simp only [c6, if_true, if_false, Nat.reduceEqDiff, reduceCtorEq] at x0 x1 x2 x3 x4 x5; go_wp2_with fail; (try clear x0 x1 x2 x3 x4 x5))
    (refine (C3.out _).mono ?_; rintro e w6 ⟨rfl, hb⟩; replace B := bel_step0 hb B; replace RL := (RL).of_block (hb.block _ (RL).lt); (try replace RX := RX.of_block (hb.block _ RX.lt)); clear hb; have x0 := (RL).cell (i := 0) (by omega); have x1 := (RL).cell (i := 1) (by omega); have x2 := (RL).cell (i := 2) (by omega); have x3 := (RL).cell (i := 3) (by omega); have x4 := (RL).cell (i := 4) (by omega); have x5 := (RL).cell (i := 5) (by omega); simp only [c6, if_true, if_false, Nat.reduceEqDiff, reduceCtorEq] at x0 x1 x2 x3 x4 x5; go_wp2_with fail; (try clear x0 x1 x2 x3 x4 x5))
    (refine (C4.out _).mono ?_; rintro e w7 ⟨rfl, hb⟩; replace B := bel_step0 hb B; replace RL := (RL).of_block (hb.block _ (RL).lt); (try replace RX := RX.of_block (hb.block _ RX.lt)); clear hb; have x0 := (RL).cell (i := 0) (by omega); have x1 := (RL).cell (i := 1) (by omega); have x2 := (RL).cell (i := 2) (by omega); have x3 := (RL).cell (i := 3) (by omega); have x4 := (RL).cell (i := 4) (by omega); have x5 := (RL).cell (i := 5) (by omega); simp only [c6, if_true, if_false, Nat.reduceEqDiff, reduceCtorEq] at x0 x1 x2 x3 x4 x5; go_wp2_with fail; (try clear x0 x1 x2 x3 x4 x5))
    (refine (C_DrawDaysToEnd _ n _ (HS.out.below B)).mono ?_; rintro e wa ⟨X, rfl, hXI, hb⟩; replace B := bel_step0 hb B; clear hb)
    have D1 := Lib.hid (fun W => C_DaysToEndI X.day X.state X.act X.period X.closed X.holds W)
    have D2 := Lib.hid (fun W => C_DaysToEndS X.day X.state X.act X.period X.closed X.holds W)
    have D4 := Lib.hid (fun W => C_WhyNotEndI X.day X.state X.act X.period X.closed X.holds W)
    obtain ⟨dx, hdx⟩ : ∃ d, daysToEnd X = d := ⟨_, rfl⟩
    obtain ⟨f, hf⟩ : ∃ f, (X.ok && X.state == 1) = f := ⟨_, rfl⟩
    have d1 : daysToEnd ⟨X.day, X.state, X.act, X.period, X.closed, X.holds⟩ = dx := hdx
    have d2 : (Lf.ok ⟨X.day, X.state, X.act, X.period, X.closed, X.holds⟩ && X.state == 1) = f := hf
    rw [d1, d2] at D1 D2
    clear d1 d2
    obtain ⟨wb, hw3⟩ : ∃ w3, w3 = (wa).alloc (.cells #[.int .i64 (X).day, .int .i64 (X).state, .int .i64 (X).act, .int .i64 (X).period, .int .i64 (X).closed, .int .i64 (X).holds] 26) := ⟨_, rfl⟩; obtain ⟨gx, hg⟩ : ∃ g, g = (wa).heap.size := ⟨_, rfl⟩; have RX : (wb).rowIs gx 26 6 (c6 X) := (by rw [hw3, hg]; exact row6_alloc wa _ X); (replace B : Below w.heap.size w wb := by (rw [hw3]; exact bel_alloc0 B _)); have HW3 := Lib.hid hw3.symm; have HG := Lib.hid hg.symm; clear hw3 hg
    go_wp2_with fail
    rw [HW3.out, HG.out]
    clear HW3 HG
    cases f
    · clear hdx hf D4
      (refine (D1.out _).mono ?_; rintro e wc ⟨rfl, hb⟩; replace B := bel_step0 hb B; replace RX := (RX).of_block (hb.block _ (RX).lt); (try replace RX := RX.of_block (hb.block _ RX.lt)); clear hb; have x0 := (RX).cell (i := 0) (by omega); have x1 := (RX).cell (i := 1) (by omega); have x2 := (RX).cell (i := 2) (by omega); have x3 := (RX).cell (i := 3) (by omega); have x4 := (RX).cell (i := 4) (by omega); have x5 := (RX).cell (i := 5) (by omega); simp only [c6, if_true, if_false, Nat.reduceEqDiff, reduceCtorEq] at x0 x1 x2 x3 x4 x5; go_wp2_with fail; (try clear x0 x1 x2 x3 x4 x5))
      (refine (D2.out _).mono ?_; rintro e wd ⟨rfl, hb⟩; replace B := bel_step0 hb B; replace RX := (RX).of_block (hb.block _ (RX).lt); (try replace RX := RX.of_block (hb.block _ RX.lt)); clear hb; have x0 := (RX).cell (i := 0) (by omega); have x1 := (RX).cell (i := 1) (by omega); have x2 := (RX).cell (i := 2) (by omega); have x3 := (RX).cell (i := 3) (by omega); have x4 := (RX).cell (i := 4) (by omega); have x5 := (RX).cell (i := 5) (by omega); simp only [c6, if_true, if_false, Nat.reduceEqDiff, reduceCtorEq] at x0 x1 x2 x3 x4 x5; go_wp2_with fail; (try clear x0 x1 x2 x3 x4 x5))
      (refine (C_DrawLifeText _ n _ (HS.out.below B)).mono ?_; rintro e wk ⟨Y, rfl, hYI, hb⟩; replace B := bel_step0 hb B; clear hb; (have E1 := Lib.hid (fun W hW => C_LifeTextI Y.day Y.state Y.act Y.period Y.closed Y.holds W hW)); (have E2 := Lib.hid (fun W hW => C_LifeTextS Y.day Y.state Y.act Y.period Y.closed Y.holds W hW)); (have E3 := Lib.hid (fun W => C_IsLife Y.day Y.state Y.act Y.period Y.closed Y.holds W)); obtain ⟨oky, hoky⟩ : ∃ k, Lf.ok ⟨Y.day, Y.state, Y.act, Y.period, Y.closed, Y.holds⟩ = k := ⟨_, rfl⟩; obtain ⟨TY, hTY⟩ : ∃ k, lifeText ⟨Y.day, Y.state, Y.act, Y.period, Y.closed, Y.holds⟩ = k := ⟨_, rfl⟩; rw [hoky, hTY] at E1 E2; rw [hoky] at E3; clear hoky hTY; obtain ⟨wl, hw3⟩ : ∃ w3, w3 = (wk).alloc (.cells #[.int .i64 (Y).day, .int .i64 (Y).state, .int .i64 (Y).act, .int .i64 (Y).period, .int .i64 (Y).closed, .int .i64 (Y).holds] 26) := ⟨_, rfl⟩; obtain ⟨gy, hg⟩ : ∃ g, g = (wk).heap.size := ⟨_, rfl⟩; have RY : (wl).rowIs gy 26 6 (c6 Y) := (by rw [hw3, hg]; exact row6_alloc wk _ Y); (replace B : Below w.heap.size w wl := by (rw [hw3]; exact bel_alloc0 B _)); have HW3 := Lib.hid hw3.symm; have HG := Lib.hid hg.symm; clear hw3 hg; go_wp2_with fail; rw [HW3.out, HG.out]; (refine (E1.out _ (HT.out.below B)).mono ?_; rintro e wm ⟨rfl, hb⟩; replace B := bel_step0 hb B; replace RY := RY.of_block (hb.block _ RY.lt); clear hb; have x0 := (RY).cell (i := 0) (by omega); have x1 := (RY).cell (i := 1) (by omega); have x2 := (RY).cell (i := 2) (by omega); have x3 := (RY).cell (i := 3) (by omega); have x4 := (RY).cell (i := 4) (by omega); have x5 := (RY).cell (i := 5) (by omega); simp only [c6, if_true, if_false, Nat.reduceEqDiff, reduceCtorEq] at x0 x1 x2 x3 x4 x5; go_wp2_with fail; (try clear x0 x1 x2 x3 x4 x5)); (refine (E2.out _ (HT.out.below B)).mono ?_; rintro e wn ⟨rfl, hb⟩; replace B := bel_step0 hb B; replace RY := RY.of_block (hb.block _ RY.lt); clear hb; have x0 := (RY).cell (i := 0) (by omega); have x1 := (RY).cell (i := 1) (by omega); have x2 := (RY).cell (i := 2) (by omega); have x3 := (RY).cell (i := 3) (by omega); have x4 := (RY).cell (i := 4) (by omega); have x5 := (RY).cell (i := 5) (by omega); simp only [c6, if_true, if_false, Nat.reduceEqDiff, reduceCtorEq] at x0 x1 x2 x3 x4 x5); cases oky; (next => (go_wp2_with ((go_at_call 19; refine (E3.out _).mono ?_; rintro e wo ⟨rfl, hb⟩)); go_ret; exact ⟨rfl, bel_step0 hb B⟩)); (next => (go_wp2_with ((go_at_call 19; refine (E3.out _).mono ?_; rintro e wo ⟨rfl, hb⟩)); go_ret; exact ⟨rfl, bel_step0 hb B⟩)))
    · have hxo : X.ok = true := (by simp only [Bool.and_eq_true] at hf; exact hf.1)
      have hxs : X.state = 1 := (by simp only [Bool.and_eq_true, beq_iff_eq] at hf; exact hf.2)
      clear hf
      by_cases hd : 0 < dx
      · have hd0 : 0 < daysToEnd X := by rw [hdx]; exact hd
        have D3 := Lib.hid (fun W => C_StepLifeI X.day X.state X.act X.period X.closed X.holds 1 dx W)
        have hE := early_word hxo hxs hd0
        obtain ⟨b1, hb1⟩ : ∃ b, canL X 1 dx = b := ⟨_, rfl⟩
        obtain ⟨N, hN⟩ : ∃ N, stepL X 1 dx = N := ⟨_, rfl⟩
        have hL := fun hc => later_word hxo hxs hd0 hc
        have hO := fun hc => (later_fact hxo hxs hd0 hc).1
        rw [hdx, hN, hb1] at hL hO
        have d3 : canL ⟨X.day, X.state, X.act, X.period, X.closed, X.holds⟩ 1 dx = b1 := hb1
        have d4 : stepL ⟨X.day, X.state, X.act, X.period, X.closed, X.holds⟩ 1 dx = N := hN
        have d5 : Lf.ok ⟨X.day, X.state, X.act, X.period, X.closed, X.holds⟩ = true := hxo
        obtain ⟨TX, hTX⟩ : ∃ k, whyNotEnd ⟨X.day, X.state, X.act, X.period, X.closed, X.holds⟩ = k := ⟨_, rfl⟩
        have d6 : whyNotEnd X = TX := hTX
        rw [d3, d4] at D3
        rw [d5, hTX] at D4
        rw [d6] at hE
        clear d3 d4 d5 d6 hTX hb1 hN hd0 hdx hxo hxs
        have HE := Lib.hid hE
        have HL := Lib.hid hL
        have HO := Lib.hid hO
        clear hE hL hO
        cases b1
        · (refine (D1.out _).mono ?_; rintro e wc ⟨rfl, hb⟩; replace B := bel_step0 hb B; replace RX := (RX).of_block (hb.block _ (RX).lt); (try replace RX := RX.of_block (hb.block _ RX.lt)); clear hb; have x0 := (RX).cell (i := 0) (by omega); have x1 := (RX).cell (i := 1) (by omega); have x2 := (RX).cell (i := 2) (by omega); have x3 := (RX).cell (i := 3) (by omega); have x4 := (RX).cell (i := 4) (by omega); have x5 := (RX).cell (i := 5) (by omega); simp only [c6, if_true, if_false, Nat.reduceEqDiff, reduceCtorEq] at x0 x1 x2 x3 x4 x5; go_wp2_with fail; (try clear x0 x1 x2 x3 x4 x5))
          (refine (D2.out _).mono ?_; rintro e wd ⟨rfl, hb⟩; replace B := bel_step0 hb B; replace RX := (RX).of_block (hb.block _ (RX).lt); (try replace RX := RX.of_block (hb.block _ RX.lt)); clear hb; have x0 := (RX).cell (i := 0) (by omega); have x1 := (RX).cell (i := 1) (by omega); have x2 := (RX).cell (i := 2) (by omega); have x3 := (RX).cell (i := 3) (by omega); have x4 := (RX).cell (i := 4) (by omega); have x5 := (RX).cell (i := 5) (by omega); simp only [c6, if_true, if_false, Nat.reduceEqDiff, reduceCtorEq] at x0 x1 x2 x3 x4 x5; go_wp2_with fail; (try clear x0 x1 x2 x3 x4 x5))
          (refine (D3.out _).mono ?_; rintro e we ⟨rfl, hb⟩; replace B := bel_step0 hb B; replace RX := RX.of_block (hb.block _ RX.lt); clear hb)
          obtain ⟨wf, hw3⟩ : ∃ w3, w3 = (we).alloc (.cells #[.int .i64 (N).day, .int .i64 (N).state, .int .i64 (N).act, .int .i64 (N).period, .int .i64 (N).closed, .int .i64 (N).holds] 26) := ⟨_, rfl⟩; obtain ⟨gn, hg⟩ : ∃ g, g = (we).heap.size := ⟨_, rfl⟩; have RN : (wf).rowIs gn 26 6 (c6 N) := (by rw [hw3, hg]; exact row6_alloc we _ N); (replace B : Below w.heap.size w wf := by (rw [hw3]; exact bel_alloc0 B _)); have HW3 := Lib.hid hw3.symm; have HG := Lib.hid hg.symm; clear hw3 hg
          go_wp2_with fail
          rw [HW3.out, HG.out]
          clear HW3 HG
          (refine (C_DrawLifeText _ n _ (HS.out.below B)).mono ?_; rintro e wk ⟨Y, rfl, hYI, hb⟩; replace B := bel_step0 hb B; clear hb; (have E1 := Lib.hid (fun W hW => C_LifeTextI Y.day Y.state Y.act Y.period Y.closed Y.holds W hW)); (have E2 := Lib.hid (fun W hW => C_LifeTextS Y.day Y.state Y.act Y.period Y.closed Y.holds W hW)); (have E3 := Lib.hid (fun W => C_IsLife Y.day Y.state Y.act Y.period Y.closed Y.holds W)); obtain ⟨oky, hoky⟩ : ∃ k, Lf.ok ⟨Y.day, Y.state, Y.act, Y.period, Y.closed, Y.holds⟩ = k := ⟨_, rfl⟩; obtain ⟨TY, hTY⟩ : ∃ k, lifeText ⟨Y.day, Y.state, Y.act, Y.period, Y.closed, Y.holds⟩ = k := ⟨_, rfl⟩; rw [hoky, hTY] at E1 E2; rw [hoky] at E3; clear hoky hTY; obtain ⟨wl, hw3⟩ : ∃ w3, w3 = (wk).alloc (.cells #[.int .i64 (Y).day, .int .i64 (Y).state, .int .i64 (Y).act, .int .i64 (Y).period, .int .i64 (Y).closed, .int .i64 (Y).holds] 26) := ⟨_, rfl⟩; obtain ⟨gy, hg⟩ : ∃ g, g = (wk).heap.size := ⟨_, rfl⟩; have RY : (wl).rowIs gy 26 6 (c6 Y) := (by rw [hw3, hg]; exact row6_alloc wk _ Y); (replace B : Below w.heap.size w wl := by (rw [hw3]; exact bel_alloc0 B _)); have HW3 := Lib.hid hw3.symm; have HG := Lib.hid hg.symm; clear hw3 hg; go_wp2_with fail; rw [HW3.out, HG.out]; (refine (E1.out _ (HT.out.below B)).mono ?_; rintro e wm ⟨rfl, hb⟩; replace B := bel_step0 hb B; replace RY := RY.of_block (hb.block _ RY.lt); clear hb; have x0 := (RY).cell (i := 0) (by omega); have x1 := (RY).cell (i := 1) (by omega); have x2 := (RY).cell (i := 2) (by omega); have x3 := (RY).cell (i := 3) (by omega); have x4 := (RY).cell (i := 4) (by omega); have x5 := (RY).cell (i := 5) (by omega); simp only [c6, if_true, if_false, Nat.reduceEqDiff, reduceCtorEq] at x0 x1 x2 x3 x4 x5; go_wp2_with fail; (try clear x0 x1 x2 x3 x4 x5)); (refine (E2.out _ (HT.out.below B)).mono ?_; rintro e wn ⟨rfl, hb⟩; replace B := bel_step0 hb B; replace RY := RY.of_block (hb.block _ RY.lt); clear hb; have x0 := (RY).cell (i := 0) (by omega); have x1 := (RY).cell (i := 1) (by omega); have x2 := (RY).cell (i := 2) (by omega); have x3 := (RY).cell (i := 3) (by omega); have x4 := (RY).cell (i := 4) (by omega); have x5 := (RY).cell (i := 5) (by omega); simp only [c6, if_true, if_false, Nat.reduceEqDiff, reduceCtorEq] at x0 x1 x2 x3 x4 x5); cases oky; (next => (go_wp2_with ((go_at_call 19; refine (E3.out _).mono ?_; rintro e wo ⟨rfl, hb⟩)); go_ret; exact ⟨rfl, bel_step0 hb B⟩)); (next => (go_wp2_with ((go_at_call 19; refine (E3.out _).mono ?_; rintro e wo ⟨rfl, hb⟩)); go_ret; exact ⟨rfl, bel_step0 hb B⟩)))
        · have hE := HE.out
          have hL := HL.out rfl
          have hO := HO.out rfl
          have D5 := Lib.hid (fun W => C_WhyNotEndI N.day N.state N.act N.period N.closed N.holds W)
          obtain ⟨TN, hTN⟩ : ∃ k, whyNotEnd ⟨N.day, N.state, N.act, N.period, N.closed, N.holds⟩ = k := ⟨_, rfl⟩
          have d6 : whyNotEnd N = TN := hTN
          have d7 : Lf.ok ⟨N.day, N.state, N.act, N.period, N.closed, N.holds⟩ = true := hO
          rw [hTN, d7] at D5
          rw [d6] at hL
          clear hTN d6 d7 hO HE HL HO
          (refine (D1.out _).mono ?_; rintro e wc ⟨rfl, hb⟩; replace B := bel_step0 hb B; replace RX := (RX).of_block (hb.block _ (RX).lt); (try replace RX := RX.of_block (hb.block _ RX.lt)); clear hb; have x0 := (RX).cell (i := 0) (by omega); have x1 := (RX).cell (i := 1) (by omega); have x2 := (RX).cell (i := 2) (by omega); have x3 := (RX).cell (i := 3) (by omega); have x4 := (RX).cell (i := 4) (by omega); have x5 := (RX).cell (i := 5) (by omega); simp only [c6, if_true, if_false, Nat.reduceEqDiff, reduceCtorEq] at x0 x1 x2 x3 x4 x5; go_wp2_with fail; (try clear x0 x1 x2 x3 x4 x5))
          (refine (D2.out _).mono ?_; rintro e wd ⟨rfl, hb⟩; replace B := bel_step0 hb B; replace RX := (RX).of_block (hb.block _ (RX).lt); (try replace RX := RX.of_block (hb.block _ RX.lt)); clear hb; have x0 := (RX).cell (i := 0) (by omega); have x1 := (RX).cell (i := 1) (by omega); have x2 := (RX).cell (i := 2) (by omega); have x3 := (RX).cell (i := 3) (by omega); have x4 := (RX).cell (i := 4) (by omega); have x5 := (RX).cell (i := 5) (by omega); simp only [c6, if_true, if_false, Nat.reduceEqDiff, reduceCtorEq] at x0 x1 x2 x3 x4 x5; go_wp2_with fail; (try clear x0 x1 x2 x3 x4 x5))
          (refine (D3.out _).mono ?_; rintro e we ⟨rfl, hb⟩; replace B := bel_step0 hb B; replace RX := RX.of_block (hb.block _ RX.lt); clear hb)
          obtain ⟨wf, hw3⟩ : ∃ w3, w3 = (we).alloc (.cells #[.int .i64 (N).day, .int .i64 (N).state, .int .i64 (N).act, .int .i64 (N).period, .int .i64 (N).closed, .int .i64 (N).holds] 26) := ⟨_, rfl⟩; obtain ⟨gn, hg⟩ : ∃ g, g = (we).heap.size := ⟨_, rfl⟩; have RN : (wf).rowIs gn 26 6 (c6 N) := (by rw [hw3, hg]; exact row6_alloc we _ N); (replace B : Below w.heap.size w wf := by (rw [hw3]; exact bel_alloc0 B _)); have HW3 := Lib.hid hw3.symm; have HG := Lib.hid hg.symm; clear hw3 hg
          replace RX : wf.rowIs gx 26 6 (c6 X) := (by rw [← HW3.out]; exact row_alloc RX _)
          go_wp2_with fail
          rw [HW3.out, HG.out]
          clear HW3 HG
          (refine (D5.out _).mono ?_; rintro e wg ⟨rfl, hb⟩; replace B := bel_step0 hb B; replace RX := (RX).of_block (hb.block _ (RX).lt); (try replace RX := RX.of_block (hb.block _ RX.lt)); clear hb; have x0 := (RX).cell (i := 0) (by omega); have x1 := (RX).cell (i := 1) (by omega); have x2 := (RX).cell (i := 2) (by omega); have x3 := (RX).cell (i := 3) (by omega); have x4 := (RX).cell (i := 4) (by omega); have x5 := (RX).cell (i := 5) (by omega); simp only [c6, if_true, if_false, Nat.reduceEqDiff, reduceCtorEq] at x0 x1 x2 x3 x4 x5; go_wp2_with fail; (try clear x0 x1 x2 x3 x4 x5))
          (refine (D4.out _).mono ?_; rintro e wh ⟨rfl, hb⟩; replace B := bel_step0 hb B; replace RX := (RX).of_block (hb.block _ (RX).lt); (try replace RX := RX.of_block (hb.block _ RX.lt)); clear hb; have x0 := (RX).cell (i := 0) (by omega); have x1 := (RX).cell (i := 1) (by omega); have x2 := (RX).cell (i := 2) (by omega); have x3 := (RX).cell (i := 3) (by omega); have x4 := (RX).cell (i := 4) (by omega); have x5 := (RX).cell (i := 5) (by omega); simp only [c6, if_true, if_false, Nat.reduceEqDiff, reduceCtorEq] at x0 x1 x2 x3 x4 x5; go_wp2_with fail; (try clear x0 x1 x2 x3 x4 x5))
          (refine (C_DrawLifeText _ n _ (HS.out.below B)).mono ?_; rintro e wk ⟨Y, rfl, hYI, hb⟩; replace B := bel_step0 hb B; clear hb; (have E1 := Lib.hid (fun W hW => C_LifeTextI Y.day Y.state Y.act Y.period Y.closed Y.holds W hW)); (have E2 := Lib.hid (fun W hW => C_LifeTextS Y.day Y.state Y.act Y.period Y.closed Y.holds W hW)); (have E3 := Lib.hid (fun W => C_IsLife Y.day Y.state Y.act Y.period Y.closed Y.holds W)); obtain ⟨oky, hoky⟩ : ∃ k, Lf.ok ⟨Y.day, Y.state, Y.act, Y.period, Y.closed, Y.holds⟩ = k := ⟨_, rfl⟩; obtain ⟨TY, hTY⟩ : ∃ k, lifeText ⟨Y.day, Y.state, Y.act, Y.period, Y.closed, Y.holds⟩ = k := ⟨_, rfl⟩; rw [hoky, hTY] at E1 E2; rw [hoky] at E3; clear hoky hTY; obtain ⟨wl, hw3⟩ : ∃ w3, w3 = (wk).alloc (.cells #[.int .i64 (Y).day, .int .i64 (Y).state, .int .i64 (Y).act, .int .i64 (Y).period, .int .i64 (Y).closed, .int .i64 (Y).holds] 26) := ⟨_, rfl⟩; obtain ⟨gy, hg⟩ : ∃ g, g = (wk).heap.size := ⟨_, rfl⟩; have RY : (wl).rowIs gy 26 6 (c6 Y) := (by rw [hw3, hg]; exact row6_alloc wk _ Y); (replace B : Below w.heap.size w wl := by (rw [hw3]; exact bel_alloc0 B _)); have HW3 := Lib.hid hw3.symm; have HG := Lib.hid hg.symm; clear hw3 hg; go_wp2_with fail; rw [HW3.out, HG.out]; (refine (E1.out _ (HT.out.below B)).mono ?_; rintro e wm ⟨rfl, hb⟩; replace B := bel_step0 hb B; replace RY := RY.of_block (hb.block _ RY.lt); clear hb; have x0 := (RY).cell (i := 0) (by omega); have x1 := (RY).cell (i := 1) (by omega); have x2 := (RY).cell (i := 2) (by omega); have x3 := (RY).cell (i := 3) (by omega); have x4 := (RY).cell (i := 4) (by omega); have x5 := (RY).cell (i := 5) (by omega); simp only [c6, if_true, if_false, Nat.reduceEqDiff, reduceCtorEq] at x0 x1 x2 x3 x4 x5; go_wp2_with fail; (try clear x0 x1 x2 x3 x4 x5)); (refine (E2.out _ (HT.out.below B)).mono ?_; rintro e wn ⟨rfl, hb⟩; replace B := bel_step0 hb B; replace RY := RY.of_block (hb.block _ RY.lt); clear hb; have x0 := (RY).cell (i := 0) (by omega); have x1 := (RY).cell (i := 1) (by omega); have x2 := (RY).cell (i := 2) (by omega); have x3 := (RY).cell (i := 3) (by omega); have x4 := (RY).cell (i := 4) (by omega); have x5 := (RY).cell (i := 5) (by omega); simp only [c6, if_true, if_false, Nat.reduceEqDiff, reduceCtorEq] at x0 x1 x2 x3 x4 x5); cases oky; (next => (go_wp2_with ((go_at_call 19; refine (E3.out _).mono ?_; rintro e wo ⟨rfl, hb⟩)); go_ret; exact ⟨rfl, bel_step0 hb B⟩)); (next => (go_wp2_with ((go_at_call 19; refine (E3.out _).mono ?_; rintro e wo ⟨rfl, hb⟩)); go_ret; exact ⟨rfl, bel_step0 hb B⟩)))
      · clear hdx D4 hxo hxs
        have hd2 : ¬ (0 : Int) < dx := hd
        (refine (D1.out _).mono ?_; rintro e wc ⟨rfl, hb⟩; replace B := bel_step0 hb B; replace RX := (RX).of_block (hb.block _ (RX).lt); (try replace RX := RX.of_block (hb.block _ RX.lt)); clear hb; have x0 := (RX).cell (i := 0) (by omega); have x1 := (RX).cell (i := 1) (by omega); have x2 := (RX).cell (i := 2) (by omega); have x3 := (RX).cell (i := 3) (by omega); have x4 := (RX).cell (i := 4) (by omega); have x5 := (RX).cell (i := 5) (by omega); simp only [c6, if_true, if_false, Nat.reduceEqDiff, reduceCtorEq] at x0 x1 x2 x3 x4 x5; go_wp2_with fail; (try clear x0 x1 x2 x3 x4 x5))
        (refine (D2.out _).mono ?_; rintro e wd ⟨rfl, hb⟩; replace B := bel_step0 hb B; replace RX := (RX).of_block (hb.block _ (RX).lt); (try replace RX := RX.of_block (hb.block _ RX.lt)); clear hb; have x0 := (RX).cell (i := 0) (by omega); have x1 := (RX).cell (i := 1) (by omega); have x2 := (RX).cell (i := 2) (by omega); have x3 := (RX).cell (i := 3) (by omega); have x4 := (RX).cell (i := 4) (by omega); have x5 := (RX).cell (i := 5) (by omega); simp only [c6, if_true, if_false, Nat.reduceEqDiff, reduceCtorEq] at x0 x1 x2 x3 x4 x5; go_wp2_with fail; (try clear x0 x1 x2 x3 x4 x5))
        (refine (C_DrawLifeText _ n _ (HS.out.below B)).mono ?_; rintro e wk ⟨Y, rfl, hYI, hb⟩; replace B := bel_step0 hb B; clear hb; (have E1 := Lib.hid (fun W hW => C_LifeTextI Y.day Y.state Y.act Y.period Y.closed Y.holds W hW)); (have E2 := Lib.hid (fun W hW => C_LifeTextS Y.day Y.state Y.act Y.period Y.closed Y.holds W hW)); (have E3 := Lib.hid (fun W => C_IsLife Y.day Y.state Y.act Y.period Y.closed Y.holds W)); obtain ⟨oky, hoky⟩ : ∃ k, Lf.ok ⟨Y.day, Y.state, Y.act, Y.period, Y.closed, Y.holds⟩ = k := ⟨_, rfl⟩; obtain ⟨TY, hTY⟩ : ∃ k, lifeText ⟨Y.day, Y.state, Y.act, Y.period, Y.closed, Y.holds⟩ = k := ⟨_, rfl⟩; rw [hoky, hTY] at E1 E2; rw [hoky] at E3; clear hoky hTY; obtain ⟨wl, hw3⟩ : ∃ w3, w3 = (wk).alloc (.cells #[.int .i64 (Y).day, .int .i64 (Y).state, .int .i64 (Y).act, .int .i64 (Y).period, .int .i64 (Y).closed, .int .i64 (Y).holds] 26) := ⟨_, rfl⟩; obtain ⟨gy, hg⟩ : ∃ g, g = (wk).heap.size := ⟨_, rfl⟩; have RY : (wl).rowIs gy 26 6 (c6 Y) := (by rw [hw3, hg]; exact row6_alloc wk _ Y); (replace B : Below w.heap.size w wl := by (rw [hw3]; exact bel_alloc0 B _)); have HW3 := Lib.hid hw3.symm; have HG := Lib.hid hg.symm; clear hw3 hg; go_wp2_with fail; rw [HW3.out, HG.out]; (refine (E1.out _ (HT.out.below B)).mono ?_; rintro e wm ⟨rfl, hb⟩; replace B := bel_step0 hb B; replace RY := RY.of_block (hb.block _ RY.lt); clear hb; have x0 := (RY).cell (i := 0) (by omega); have x1 := (RY).cell (i := 1) (by omega); have x2 := (RY).cell (i := 2) (by omega); have x3 := (RY).cell (i := 3) (by omega); have x4 := (RY).cell (i := 4) (by omega); have x5 := (RY).cell (i := 5) (by omega); simp only [c6, if_true, if_false, Nat.reduceEqDiff, reduceCtorEq] at x0 x1 x2 x3 x4 x5; go_wp2_with fail; (try clear x0 x1 x2 x3 x4 x5)); (refine (E2.out _ (HT.out.below B)).mono ?_; rintro e wn ⟨rfl, hb⟩; replace B := bel_step0 hb B; replace RY := RY.of_block (hb.block _ RY.lt); clear hb; have x0 := (RY).cell (i := 0) (by omega); have x1 := (RY).cell (i := 1) (by omega); have x2 := (RY).cell (i := 2) (by omega); have x3 := (RY).cell (i := 3) (by omega); have x4 := (RY).cell (i := 4) (by omega); have x5 := (RY).cell (i := 5) (by omega); simp only [c6, if_true, if_false, Nat.reduceEqDiff, reduceCtorEq] at x0 x1 x2 x3 x4 x5); cases oky; (next => (go_wp2_with ((go_at_call 19; refine (E3.out _).mono ?_; rintro e wo ⟨rfl, hb⟩)); go_ret; exact ⟨rfl, bel_step0 hb B⟩)); (next => (go_wp2_with ((go_at_call 19; refine (E3.out _).mono ?_; rintro e wo ⟨rfl, hb⟩)); go_ret; exact ⟨rfl, bel_step0 hb B⟩)))
  · obtain ⟨c, hc⟩ : ∃ c, ready L = c := ⟨_, rfl⟩
    have hX := word_fact hok
    have hY := ends_fact hok
    have c5 : canL ⟨L.day, L.state, L.act, L.period, L.closed, L.holds⟩ 7 0 = c := hY.trans hc
    rw [hT, hc] at hX
    rw [c5] at C5
    obtain ⟨L7, h7⟩ : ∃ y, stepL ⟨L.day, L.state, L.act, L.period, L.closed, L.holds⟩ 7 0 = y := ⟨_, rfl⟩
    rw [h7] at C5
    rw [hc, Bool.true_and] at C3 C4
    clear c5 h7 hY hc hT hok
    (refine (C1.out _).mono ?_; rintro e w4 ⟨rfl, hb⟩; replace B := bel_step0 hb B; replace RL := (RL).of_block (hb.block _ (RL).lt); (try replace RX := RX.of_block (hb.block _ RX.lt)); clear hb; have x0 := (RL).cell (i := 0) (by omega); have x1 := (RL).cell (i := 1) (by omega); have x2 := (RL).cell (i := 2) (by omega); have x3 := (RL).cell (i := 3) (by omega); have x4 := (RL).cell (i := 4) (by omega); have x5 := (RL).cell (i := 5) (by omega); simp only [c6, if_true, if_false, Nat.reduceEqDiff, reduceCtorEq] at x0 x1 x2 x3 x4 x5; go_wp2_with fail; (try clear x0 x1 x2 x3 x4 x5))
    (refine (C2.out _).mono ?_; rintro e w5 ⟨rfl, hb⟩; replace B := bel_step0 hb B; replace RL := (RL).of_block (hb.block _ (RL).lt); (try replace RX := RX.of_block (hb.block _ RX.lt)); clear hb; have x0 := (RL).cell (i := 0) (by omega); have x1 := (RL).cell (i := 1) (by omega); have x2 := (RL).cell (i := 2) (by omega); have x3 := (RL).cell (i := 3) (by omega); have x4 := (RL).cell (i := 4) (by omega); have x5 := (RL).cell (i := 5) (by omega); simp only [c6, if_true, if_false, Nat.reduceEqDiff, reduceCtorEq] at x0 x1 x2 x3 x4 x5; go_wp2_with fail; (try clear x0 x1 x2 x3 x4 x5))
    (refine (C3.out _).mono ?_; rintro e w6 ⟨rfl, hb⟩; replace B := bel_step0 hb B; replace RL := (RL).of_block (hb.block _ (RL).lt); (try replace RX := RX.of_block (hb.block _ RX.lt)); clear hb; have x0 := (RL).cell (i := 0) (by omega); have x1 := (RL).cell (i := 1) (by omega); have x2 := (RL).cell (i := 2) (by omega); have x3 := (RL).cell (i := 3) (by omega); have x4 := (RL).cell (i := 4) (by omega); have x5 := (RL).cell (i := 5) (by omega); simp only [c6, if_true, if_false, Nat.reduceEqDiff, reduceCtorEq] at x0 x1 x2 x3 x4 x5; go_wp2_with fail; (try clear x0 x1 x2 x3 x4 x5))
    (refine (C4.out _).mono ?_; rintro e w7 ⟨rfl, hb⟩; replace B := bel_step0 hb B; replace RL := (RL).of_block (hb.block _ (RL).lt); (try replace RX := RX.of_block (hb.block _ RX.lt)); clear hb; have x0 := (RL).cell (i := 0) (by omega); have x1 := (RL).cell (i := 1) (by omega); have x2 := (RL).cell (i := 2) (by omega); have x3 := (RL).cell (i := 3) (by omega); have x4 := (RL).cell (i := 4) (by omega); have x5 := (RL).cell (i := 5) (by omega); simp only [c6, if_true, if_false, Nat.reduceEqDiff, reduceCtorEq] at x0 x1 x2 x3 x4 x5; go_wp2_with fail; (try clear x0 x1 x2 x3 x4 x5))
    (refine (C5.out _).mono ?_; rintro e w8 ⟨rfl, hb⟩; replace B := bel_step0 hb B; clear hb)
    obtain ⟨w9, hw3⟩ : ∃ w3, w3 = (w8).alloc (.cells #[.int .i64 (L7).day, .int .i64 (L7).state, .int .i64 (L7).act, .int .i64 (L7).period, .int .i64 (L7).closed, .int .i64 (L7).holds] 26) := ⟨_, rfl⟩; obtain ⟨g7, hg⟩ : ∃ g, g = (w8).heap.size := ⟨_, rfl⟩; have RL7 : (w9).rowIs g7 26 6 (c6 L7) := (by rw [hw3, hg]; exact row6_alloc w8 _ L7); (replace B : Below w.heap.size w w9 := by (rw [hw3]; exact bel_alloc0 B _)); have HW3 := Lib.hid hw3.symm; have HG := Lib.hid hg.symm; clear hw3 hg
    go_wp2_with fail
    rw [HW3.out, HG.out]
    clear HW3 HG
    (refine (C_DrawDaysToEnd _ n _ (HS.out.below B)).mono ?_; rintro e wa ⟨X, rfl, hXI, hb⟩; replace B := bel_step0 hb B; clear hb)
    have D1 := Lib.hid (fun W => C_DaysToEndI X.day X.state X.act X.period X.closed X.holds W)
    have D2 := Lib.hid (fun W => C_DaysToEndS X.day X.state X.act X.period X.closed X.holds W)
    have D4 := Lib.hid (fun W => C_WhyNotEndI X.day X.state X.act X.period X.closed X.holds W)
    obtain ⟨dx, hdx⟩ : ∃ d, daysToEnd X = d := ⟨_, rfl⟩
    obtain ⟨f, hf⟩ : ∃ f, (X.ok && X.state == 1) = f := ⟨_, rfl⟩
    have d1 : daysToEnd ⟨X.day, X.state, X.act, X.period, X.closed, X.holds⟩ = dx := hdx
    have d2 : (Lf.ok ⟨X.day, X.state, X.act, X.period, X.closed, X.holds⟩ && X.state == 1) = f := hf
    rw [d1, d2] at D1 D2
    clear d1 d2
    obtain ⟨wb, hw3⟩ : ∃ w3, w3 = (wa).alloc (.cells #[.int .i64 (X).day, .int .i64 (X).state, .int .i64 (X).act, .int .i64 (X).period, .int .i64 (X).closed, .int .i64 (X).holds] 26) := ⟨_, rfl⟩; obtain ⟨gx, hg⟩ : ∃ g, g = (wa).heap.size := ⟨_, rfl⟩; have RX : (wb).rowIs gx 26 6 (c6 X) := (by rw [hw3, hg]; exact row6_alloc wa _ X); (replace B : Below w.heap.size w wb := by (rw [hw3]; exact bel_alloc0 B _)); have HW3 := Lib.hid hw3.symm; have HG := Lib.hid hg.symm; clear hw3 hg
    go_wp2_with fail
    rw [HW3.out, HG.out]
    clear HW3 HG
    cases f
    · clear hdx hf D4
      (refine (D1.out _).mono ?_; rintro e wc ⟨rfl, hb⟩; replace B := bel_step0 hb B; replace RX := (RX).of_block (hb.block _ (RX).lt); (try replace RX := RX.of_block (hb.block _ RX.lt)); clear hb; have x0 := (RX).cell (i := 0) (by omega); have x1 := (RX).cell (i := 1) (by omega); have x2 := (RX).cell (i := 2) (by omega); have x3 := (RX).cell (i := 3) (by omega); have x4 := (RX).cell (i := 4) (by omega); have x5 := (RX).cell (i := 5) (by omega); simp only [c6, if_true, if_false, Nat.reduceEqDiff, reduceCtorEq] at x0 x1 x2 x3 x4 x5; go_wp2_with fail; (try clear x0 x1 x2 x3 x4 x5))
      (refine (D2.out _).mono ?_; rintro e wd ⟨rfl, hb⟩; replace B := bel_step0 hb B; replace RX := (RX).of_block (hb.block _ (RX).lt); (try replace RX := RX.of_block (hb.block _ RX.lt)); clear hb; have x0 := (RX).cell (i := 0) (by omega); have x1 := (RX).cell (i := 1) (by omega); have x2 := (RX).cell (i := 2) (by omega); have x3 := (RX).cell (i := 3) (by omega); have x4 := (RX).cell (i := 4) (by omega); have x5 := (RX).cell (i := 5) (by omega); simp only [c6, if_true, if_false, Nat.reduceEqDiff, reduceCtorEq] at x0 x1 x2 x3 x4 x5; go_wp2_with fail; (try clear x0 x1 x2 x3 x4 x5))
      (refine (C_DrawLifeText _ n _ (HS.out.below B)).mono ?_; rintro e wk ⟨Y, rfl, hYI, hb⟩; replace B := bel_step0 hb B; clear hb; (have E1 := Lib.hid (fun W hW => C_LifeTextI Y.day Y.state Y.act Y.period Y.closed Y.holds W hW)); (have E2 := Lib.hid (fun W hW => C_LifeTextS Y.day Y.state Y.act Y.period Y.closed Y.holds W hW)); (have E3 := Lib.hid (fun W => C_IsLife Y.day Y.state Y.act Y.period Y.closed Y.holds W)); obtain ⟨oky, hoky⟩ : ∃ k, Lf.ok ⟨Y.day, Y.state, Y.act, Y.period, Y.closed, Y.holds⟩ = k := ⟨_, rfl⟩; obtain ⟨TY, hTY⟩ : ∃ k, lifeText ⟨Y.day, Y.state, Y.act, Y.period, Y.closed, Y.holds⟩ = k := ⟨_, rfl⟩; rw [hoky, hTY] at E1 E2; rw [hoky] at E3; clear hoky hTY; obtain ⟨wl, hw3⟩ : ∃ w3, w3 = (wk).alloc (.cells #[.int .i64 (Y).day, .int .i64 (Y).state, .int .i64 (Y).act, .int .i64 (Y).period, .int .i64 (Y).closed, .int .i64 (Y).holds] 26) := ⟨_, rfl⟩; obtain ⟨gy, hg⟩ : ∃ g, g = (wk).heap.size := ⟨_, rfl⟩; have RY : (wl).rowIs gy 26 6 (c6 Y) := (by rw [hw3, hg]; exact row6_alloc wk _ Y); (replace B : Below w.heap.size w wl := by (rw [hw3]; exact bel_alloc0 B _)); have HW3 := Lib.hid hw3.symm; have HG := Lib.hid hg.symm; clear hw3 hg; go_wp2_with fail; rw [HW3.out, HG.out]; (refine (E1.out _ (HT.out.below B)).mono ?_; rintro e wm ⟨rfl, hb⟩; replace B := bel_step0 hb B; replace RY := RY.of_block (hb.block _ RY.lt); clear hb; have x0 := (RY).cell (i := 0) (by omega); have x1 := (RY).cell (i := 1) (by omega); have x2 := (RY).cell (i := 2) (by omega); have x3 := (RY).cell (i := 3) (by omega); have x4 := (RY).cell (i := 4) (by omega); have x5 := (RY).cell (i := 5) (by omega); simp only [c6, if_true, if_false, Nat.reduceEqDiff, reduceCtorEq] at x0 x1 x2 x3 x4 x5; go_wp2_with fail; (try clear x0 x1 x2 x3 x4 x5)); (refine (E2.out _ (HT.out.below B)).mono ?_; rintro e wn ⟨rfl, hb⟩; replace B := bel_step0 hb B; replace RY := RY.of_block (hb.block _ RY.lt); clear hb; have x0 := (RY).cell (i := 0) (by omega); have x1 := (RY).cell (i := 1) (by omega); have x2 := (RY).cell (i := 2) (by omega); have x3 := (RY).cell (i := 3) (by omega); have x4 := (RY).cell (i := 4) (by omega); have x5 := (RY).cell (i := 5) (by omega); simp only [c6, if_true, if_false, Nat.reduceEqDiff, reduceCtorEq] at x0 x1 x2 x3 x4 x5); cases oky; (next => (go_wp2_with ((go_at_call 19; refine (E3.out _).mono ?_; rintro e wo ⟨rfl, hb⟩)); go_ret; exact ⟨rfl, bel_step0 hb B⟩)); (next => (go_wp2_with ((go_at_call 19; refine (E3.out _).mono ?_; rintro e wo ⟨rfl, hb⟩)); go_ret; exact ⟨rfl, bel_step0 hb B⟩)))
    · have hxo : X.ok = true := (by simp only [Bool.and_eq_true] at hf; exact hf.1)
      have hxs : X.state = 1 := (by simp only [Bool.and_eq_true, beq_iff_eq] at hf; exact hf.2)
      clear hf
      by_cases hd : 0 < dx
      · have hd0 : 0 < daysToEnd X := by rw [hdx]; exact hd
        have D3 := Lib.hid (fun W => C_StepLifeI X.day X.state X.act X.period X.closed X.holds 1 dx W)
        have hE := early_word hxo hxs hd0
        obtain ⟨b1, hb1⟩ : ∃ b, canL X 1 dx = b := ⟨_, rfl⟩
        obtain ⟨N, hN⟩ : ∃ N, stepL X 1 dx = N := ⟨_, rfl⟩
        have hL := fun hc => later_word hxo hxs hd0 hc
        have hO := fun hc => (later_fact hxo hxs hd0 hc).1
        rw [hdx, hN, hb1] at hL hO
        have d3 : canL ⟨X.day, X.state, X.act, X.period, X.closed, X.holds⟩ 1 dx = b1 := hb1
        have d4 : stepL ⟨X.day, X.state, X.act, X.period, X.closed, X.holds⟩ 1 dx = N := hN
        have d5 : Lf.ok ⟨X.day, X.state, X.act, X.period, X.closed, X.holds⟩ = true := hxo
        obtain ⟨TX, hTX⟩ : ∃ k, whyNotEnd ⟨X.day, X.state, X.act, X.period, X.closed, X.holds⟩ = k := ⟨_, rfl⟩
        have d6 : whyNotEnd X = TX := hTX
        rw [d3, d4] at D3
        rw [d5, hTX] at D4
        rw [d6] at hE
        clear d3 d4 d5 d6 hTX hb1 hN hd0 hdx hxo hxs
        have HE := Lib.hid hE
        have HL := Lib.hid hL
        have HO := Lib.hid hO
        clear hE hL hO
        cases b1
        · (refine (D1.out _).mono ?_; rintro e wc ⟨rfl, hb⟩; replace B := bel_step0 hb B; replace RX := (RX).of_block (hb.block _ (RX).lt); (try replace RX := RX.of_block (hb.block _ RX.lt)); clear hb; have x0 := (RX).cell (i := 0) (by omega); have x1 := (RX).cell (i := 1) (by omega); have x2 := (RX).cell (i := 2) (by omega); have x3 := (RX).cell (i := 3) (by omega); have x4 := (RX).cell (i := 4) (by omega); have x5 := (RX).cell (i := 5) (by omega); simp only [c6, if_true, if_false, Nat.reduceEqDiff, reduceCtorEq] at x0 x1 x2 x3 x4 x5; go_wp2_with fail; (try clear x0 x1 x2 x3 x4 x5))
          (refine (D2.out _).mono ?_; rintro e wd ⟨rfl, hb⟩; replace B := bel_step0 hb B; replace RX := (RX).of_block (hb.block _ (RX).lt); (try replace RX := RX.of_block (hb.block _ RX.lt)); clear hb; have x0 := (RX).cell (i := 0) (by omega); have x1 := (RX).cell (i := 1) (by omega); have x2 := (RX).cell (i := 2) (by omega); have x3 := (RX).cell (i := 3) (by omega); have x4 := (RX).cell (i := 4) (by omega); have x5 := (RX).cell (i := 5) (by omega); simp only [c6, if_true, if_false, Nat.reduceEqDiff, reduceCtorEq] at x0 x1 x2 x3 x4 x5; go_wp2_with fail; (try clear x0 x1 x2 x3 x4 x5))
          (refine (D3.out _).mono ?_; rintro e we ⟨rfl, hb⟩; replace B := bel_step0 hb B; replace RX := RX.of_block (hb.block _ RX.lt); clear hb)
          obtain ⟨wf, hw3⟩ : ∃ w3, w3 = (we).alloc (.cells #[.int .i64 (N).day, .int .i64 (N).state, .int .i64 (N).act, .int .i64 (N).period, .int .i64 (N).closed, .int .i64 (N).holds] 26) := ⟨_, rfl⟩; obtain ⟨gn, hg⟩ : ∃ g, g = (we).heap.size := ⟨_, rfl⟩; have RN : (wf).rowIs gn 26 6 (c6 N) := (by rw [hw3, hg]; exact row6_alloc we _ N); (replace B : Below w.heap.size w wf := by (rw [hw3]; exact bel_alloc0 B _)); have HW3 := Lib.hid hw3.symm; have HG := Lib.hid hg.symm; clear hw3 hg
          go_wp2_with fail
          rw [HW3.out, HG.out]
          clear HW3 HG
          (refine (C_DrawLifeText _ n _ (HS.out.below B)).mono ?_; rintro e wk ⟨Y, rfl, hYI, hb⟩; replace B := bel_step0 hb B; clear hb; (have E1 := Lib.hid (fun W hW => C_LifeTextI Y.day Y.state Y.act Y.period Y.closed Y.holds W hW)); (have E2 := Lib.hid (fun W hW => C_LifeTextS Y.day Y.state Y.act Y.period Y.closed Y.holds W hW)); (have E3 := Lib.hid (fun W => C_IsLife Y.day Y.state Y.act Y.period Y.closed Y.holds W)); obtain ⟨oky, hoky⟩ : ∃ k, Lf.ok ⟨Y.day, Y.state, Y.act, Y.period, Y.closed, Y.holds⟩ = k := ⟨_, rfl⟩; obtain ⟨TY, hTY⟩ : ∃ k, lifeText ⟨Y.day, Y.state, Y.act, Y.period, Y.closed, Y.holds⟩ = k := ⟨_, rfl⟩; rw [hoky, hTY] at E1 E2; rw [hoky] at E3; clear hoky hTY; obtain ⟨wl, hw3⟩ : ∃ w3, w3 = (wk).alloc (.cells #[.int .i64 (Y).day, .int .i64 (Y).state, .int .i64 (Y).act, .int .i64 (Y).period, .int .i64 (Y).closed, .int .i64 (Y).holds] 26) := ⟨_, rfl⟩; obtain ⟨gy, hg⟩ : ∃ g, g = (wk).heap.size := ⟨_, rfl⟩; have RY : (wl).rowIs gy 26 6 (c6 Y) := (by rw [hw3, hg]; exact row6_alloc wk _ Y); (replace B : Below w.heap.size w wl := by (rw [hw3]; exact bel_alloc0 B _)); have HW3 := Lib.hid hw3.symm; have HG := Lib.hid hg.symm; clear hw3 hg; go_wp2_with fail; rw [HW3.out, HG.out]; (refine (E1.out _ (HT.out.below B)).mono ?_; rintro e wm ⟨rfl, hb⟩; replace B := bel_step0 hb B; replace RY := RY.of_block (hb.block _ RY.lt); clear hb; have x0 := (RY).cell (i := 0) (by omega); have x1 := (RY).cell (i := 1) (by omega); have x2 := (RY).cell (i := 2) (by omega); have x3 := (RY).cell (i := 3) (by omega); have x4 := (RY).cell (i := 4) (by omega); have x5 := (RY).cell (i := 5) (by omega); simp only [c6, if_true, if_false, Nat.reduceEqDiff, reduceCtorEq] at x0 x1 x2 x3 x4 x5; go_wp2_with fail; (try clear x0 x1 x2 x3 x4 x5)); (refine (E2.out _ (HT.out.below B)).mono ?_; rintro e wn ⟨rfl, hb⟩; replace B := bel_step0 hb B; replace RY := RY.of_block (hb.block _ RY.lt); clear hb; have x0 := (RY).cell (i := 0) (by omega); have x1 := (RY).cell (i := 1) (by omega); have x2 := (RY).cell (i := 2) (by omega); have x3 := (RY).cell (i := 3) (by omega); have x4 := (RY).cell (i := 4) (by omega); have x5 := (RY).cell (i := 5) (by omega); simp only [c6, if_true, if_false, Nat.reduceEqDiff, reduceCtorEq] at x0 x1 x2 x3 x4 x5); cases oky; (next => (go_wp2_with ((go_at_call 19; refine (E3.out _).mono ?_; rintro e wo ⟨rfl, hb⟩)); go_ret; exact ⟨rfl, bel_step0 hb B⟩)); (next => (go_wp2_with ((go_at_call 19; refine (E3.out _).mono ?_; rintro e wo ⟨rfl, hb⟩)); go_ret; exact ⟨rfl, bel_step0 hb B⟩)))
        · have hE := HE.out
          have hL := HL.out rfl
          have hO := HO.out rfl
          have D5 := Lib.hid (fun W => C_WhyNotEndI N.day N.state N.act N.period N.closed N.holds W)
          obtain ⟨TN, hTN⟩ : ∃ k, whyNotEnd ⟨N.day, N.state, N.act, N.period, N.closed, N.holds⟩ = k := ⟨_, rfl⟩
          have d6 : whyNotEnd N = TN := hTN
          have d7 : Lf.ok ⟨N.day, N.state, N.act, N.period, N.closed, N.holds⟩ = true := hO
          rw [hTN, d7] at D5
          rw [d6] at hL
          clear hTN d6 d7 hO HE HL HO
          (refine (D1.out _).mono ?_; rintro e wc ⟨rfl, hb⟩; replace B := bel_step0 hb B; replace RX := (RX).of_block (hb.block _ (RX).lt); (try replace RX := RX.of_block (hb.block _ RX.lt)); clear hb; have x0 := (RX).cell (i := 0) (by omega); have x1 := (RX).cell (i := 1) (by omega); have x2 := (RX).cell (i := 2) (by omega); have x3 := (RX).cell (i := 3) (by omega); have x4 := (RX).cell (i := 4) (by omega); have x5 := (RX).cell (i := 5) (by omega); simp only [c6, if_true, if_false, Nat.reduceEqDiff, reduceCtorEq] at x0 x1 x2 x3 x4 x5; go_wp2_with fail; (try clear x0 x1 x2 x3 x4 x5))
          (refine (D2.out _).mono ?_; rintro e wd ⟨rfl, hb⟩; replace B := bel_step0 hb B; replace RX := (RX).of_block (hb.block _ (RX).lt); (try replace RX := RX.of_block (hb.block _ RX.lt)); clear hb; have x0 := (RX).cell (i := 0) (by omega); have x1 := (RX).cell (i := 1) (by omega); have x2 := (RX).cell (i := 2) (by omega); have x3 := (RX).cell (i := 3) (by omega); have x4 := (RX).cell (i := 4) (by omega); have x5 := (RX).cell (i := 5) (by omega); simp only [c6, if_true, if_false, Nat.reduceEqDiff, reduceCtorEq] at x0 x1 x2 x3 x4 x5; go_wp2_with fail; (try clear x0 x1 x2 x3 x4 x5))
          (refine (D3.out _).mono ?_; rintro e we ⟨rfl, hb⟩; replace B := bel_step0 hb B; replace RX := RX.of_block (hb.block _ RX.lt); clear hb)
          obtain ⟨wf, hw3⟩ : ∃ w3, w3 = (we).alloc (.cells #[.int .i64 (N).day, .int .i64 (N).state, .int .i64 (N).act, .int .i64 (N).period, .int .i64 (N).closed, .int .i64 (N).holds] 26) := ⟨_, rfl⟩; obtain ⟨gn, hg⟩ : ∃ g, g = (we).heap.size := ⟨_, rfl⟩; have RN : (wf).rowIs gn 26 6 (c6 N) := (by rw [hw3, hg]; exact row6_alloc we _ N); (replace B : Below w.heap.size w wf := by (rw [hw3]; exact bel_alloc0 B _)); have HW3 := Lib.hid hw3.symm; have HG := Lib.hid hg.symm; clear hw3 hg
          replace RX : wf.rowIs gx 26 6 (c6 X) := (by rw [← HW3.out]; exact row_alloc RX _)
          go_wp2_with fail
          rw [HW3.out, HG.out]
          clear HW3 HG
          (refine (D5.out _).mono ?_; rintro e wg ⟨rfl, hb⟩; replace B := bel_step0 hb B; replace RX := (RX).of_block (hb.block _ (RX).lt); (try replace RX := RX.of_block (hb.block _ RX.lt)); clear hb; have x0 := (RX).cell (i := 0) (by omega); have x1 := (RX).cell (i := 1) (by omega); have x2 := (RX).cell (i := 2) (by omega); have x3 := (RX).cell (i := 3) (by omega); have x4 := (RX).cell (i := 4) (by omega); have x5 := (RX).cell (i := 5) (by omega); simp only [c6, if_true, if_false, Nat.reduceEqDiff, reduceCtorEq] at x0 x1 x2 x3 x4 x5; go_wp2_with fail; (try clear x0 x1 x2 x3 x4 x5))
          (refine (D4.out _).mono ?_; rintro e wh ⟨rfl, hb⟩; replace B := bel_step0 hb B; replace RX := (RX).of_block (hb.block _ (RX).lt); (try replace RX := RX.of_block (hb.block _ RX.lt)); clear hb; have x0 := (RX).cell (i := 0) (by omega); have x1 := (RX).cell (i := 1) (by omega); have x2 := (RX).cell (i := 2) (by omega); have x3 := (RX).cell (i := 3) (by omega); have x4 := (RX).cell (i := 4) (by omega); have x5 := (RX).cell (i := 5) (by omega); simp only [c6, if_true, if_false, Nat.reduceEqDiff, reduceCtorEq] at x0 x1 x2 x3 x4 x5; go_wp2_with fail; (try clear x0 x1 x2 x3 x4 x5))
          (refine (C_DrawLifeText _ n _ (HS.out.below B)).mono ?_; rintro e wk ⟨Y, rfl, hYI, hb⟩; replace B := bel_step0 hb B; clear hb; (have E1 := Lib.hid (fun W hW => C_LifeTextI Y.day Y.state Y.act Y.period Y.closed Y.holds W hW)); (have E2 := Lib.hid (fun W hW => C_LifeTextS Y.day Y.state Y.act Y.period Y.closed Y.holds W hW)); (have E3 := Lib.hid (fun W => C_IsLife Y.day Y.state Y.act Y.period Y.closed Y.holds W)); obtain ⟨oky, hoky⟩ : ∃ k, Lf.ok ⟨Y.day, Y.state, Y.act, Y.period, Y.closed, Y.holds⟩ = k := ⟨_, rfl⟩; obtain ⟨TY, hTY⟩ : ∃ k, lifeText ⟨Y.day, Y.state, Y.act, Y.period, Y.closed, Y.holds⟩ = k := ⟨_, rfl⟩; rw [hoky, hTY] at E1 E2; rw [hoky] at E3; clear hoky hTY; obtain ⟨wl, hw3⟩ : ∃ w3, w3 = (wk).alloc (.cells #[.int .i64 (Y).day, .int .i64 (Y).state, .int .i64 (Y).act, .int .i64 (Y).period, .int .i64 (Y).closed, .int .i64 (Y).holds] 26) := ⟨_, rfl⟩; obtain ⟨gy, hg⟩ : ∃ g, g = (wk).heap.size := ⟨_, rfl⟩; have RY : (wl).rowIs gy 26 6 (c6 Y) := (by rw [hw3, hg]; exact row6_alloc wk _ Y); (replace B : Below w.heap.size w wl := by (rw [hw3]; exact bel_alloc0 B _)); have HW3 := Lib.hid hw3.symm; have HG := Lib.hid hg.symm; clear hw3 hg; go_wp2_with fail; rw [HW3.out, HG.out]; (refine (E1.out _ (HT.out.below B)).mono ?_; rintro e wm ⟨rfl, hb⟩; replace B := bel_step0 hb B; replace RY := RY.of_block (hb.block _ RY.lt); clear hb; have x0 := (RY).cell (i := 0) (by omega); have x1 := (RY).cell (i := 1) (by omega); have x2 := (RY).cell (i := 2) (by omega); have x3 := (RY).cell (i := 3) (by omega); have x4 := (RY).cell (i := 4) (by omega); have x5 := (RY).cell (i := 5) (by omega); simp only [c6, if_true, if_false, Nat.reduceEqDiff, reduceCtorEq] at x0 x1 x2 x3 x4 x5; go_wp2_with fail; (try clear x0 x1 x2 x3 x4 x5)); (refine (E2.out _ (HT.out.below B)).mono ?_; rintro e wn ⟨rfl, hb⟩; replace B := bel_step0 hb B; replace RY := RY.of_block (hb.block _ RY.lt); clear hb; have x0 := (RY).cell (i := 0) (by omega); have x1 := (RY).cell (i := 1) (by omega); have x2 := (RY).cell (i := 2) (by omega); have x3 := (RY).cell (i := 3) (by omega); have x4 := (RY).cell (i := 4) (by omega); have x5 := (RY).cell (i := 5) (by omega); simp only [c6, if_true, if_false, Nat.reduceEqDiff, reduceCtorEq] at x0 x1 x2 x3 x4 x5); cases oky; (next => (go_wp2_with ((go_at_call 19; refine (E3.out _).mono ?_; rintro e wo ⟨rfl, hb⟩)); go_ret; exact ⟨rfl, bel_step0 hb B⟩)); (next => (go_wp2_with ((go_at_call 19; refine (E3.out _).mono ?_; rintro e wo ⟨rfl, hb⟩)); go_ret; exact ⟨rfl, bel_step0 hb B⟩)))
      · clear hdx D4 hxo hxs
        have hd2 : ¬ (0 : Int) < dx := hd
        (refine (D1.out _).mono ?_; rintro e wc ⟨rfl, hb⟩; replace B := bel_step0 hb B; replace RX := (RX).of_block (hb.block _ (RX).lt); (try replace RX := RX.of_block (hb.block _ RX.lt)); clear hb; have x0 := (RX).cell (i := 0) (by omega); have x1 := (RX).cell (i := 1) (by omega); have x2 := (RX).cell (i := 2) (by omega); have x3 := (RX).cell (i := 3) (by omega); have x4 := (RX).cell (i := 4) (by omega); have x5 := (RX).cell (i := 5) (by omega); simp only [c6, if_true, if_false, Nat.reduceEqDiff, reduceCtorEq] at x0 x1 x2 x3 x4 x5; go_wp2_with fail; (try clear x0 x1 x2 x3 x4 x5))
        (refine (D2.out _).mono ?_; rintro e wd ⟨rfl, hb⟩; replace B := bel_step0 hb B; replace RX := (RX).of_block (hb.block _ (RX).lt); (try replace RX := RX.of_block (hb.block _ RX.lt)); clear hb; have x0 := (RX).cell (i := 0) (by omega); have x1 := (RX).cell (i := 1) (by omega); have x2 := (RX).cell (i := 2) (by omega); have x3 := (RX).cell (i := 3) (by omega); have x4 := (RX).cell (i := 4) (by omega); have x5 := (RX).cell (i := 5) (by omega); simp only [c6, if_true, if_false, Nat.reduceEqDiff, reduceCtorEq] at x0 x1 x2 x3 x4 x5; go_wp2_with fail; (try clear x0 x1 x2 x3 x4 x5))
        (refine (C_DrawLifeText _ n _ (HS.out.below B)).mono ?_; rintro e wk ⟨Y, rfl, hYI, hb⟩; replace B := bel_step0 hb B; clear hb; (have E1 := Lib.hid (fun W hW => C_LifeTextI Y.day Y.state Y.act Y.period Y.closed Y.holds W hW)); (have E2 := Lib.hid (fun W hW => C_LifeTextS Y.day Y.state Y.act Y.period Y.closed Y.holds W hW)); (have E3 := Lib.hid (fun W => C_IsLife Y.day Y.state Y.act Y.period Y.closed Y.holds W)); obtain ⟨oky, hoky⟩ : ∃ k, Lf.ok ⟨Y.day, Y.state, Y.act, Y.period, Y.closed, Y.holds⟩ = k := ⟨_, rfl⟩; obtain ⟨TY, hTY⟩ : ∃ k, lifeText ⟨Y.day, Y.state, Y.act, Y.period, Y.closed, Y.holds⟩ = k := ⟨_, rfl⟩; rw [hoky, hTY] at E1 E2; rw [hoky] at E3; clear hoky hTY; obtain ⟨wl, hw3⟩ : ∃ w3, w3 = (wk).alloc (.cells #[.int .i64 (Y).day, .int .i64 (Y).state, .int .i64 (Y).act, .int .i64 (Y).period, .int .i64 (Y).closed, .int .i64 (Y).holds] 26) := ⟨_, rfl⟩; obtain ⟨gy, hg⟩ : ∃ g, g = (wk).heap.size := ⟨_, rfl⟩; have RY : (wl).rowIs gy 26 6 (c6 Y) := (by rw [hw3, hg]; exact row6_alloc wk _ Y); (replace B : Below w.heap.size w wl := by (rw [hw3]; exact bel_alloc0 B _)); have HW3 := Lib.hid hw3.symm; have HG := Lib.hid hg.symm; clear hw3 hg; go_wp2_with fail; rw [HW3.out, HG.out]; (refine (E1.out _ (HT.out.below B)).mono ?_; rintro e wm ⟨rfl, hb⟩; replace B := bel_step0 hb B; replace RY := RY.of_block (hb.block _ RY.lt); clear hb; have x0 := (RY).cell (i := 0) (by omega); have x1 := (RY).cell (i := 1) (by omega); have x2 := (RY).cell (i := 2) (by omega); have x3 := (RY).cell (i := 3) (by omega); have x4 := (RY).cell (i := 4) (by omega); have x5 := (RY).cell (i := 5) (by omega); simp only [c6, if_true, if_false, Nat.reduceEqDiff, reduceCtorEq] at x0 x1 x2 x3 x4 x5; go_wp2_with fail; (try clear x0 x1 x2 x3 x4 x5)); (refine (E2.out _ (HT.out.below B)).mono ?_; rintro e wn ⟨rfl, hb⟩; replace B := bel_step0 hb B; replace RY := RY.of_block (hb.block _ RY.lt); clear hb; have x0 := (RY).cell (i := 0) (by omega); have x1 := (RY).cell (i := 1) (by omega); have x2 := (RY).cell (i := 2) (by omega); have x3 := (RY).cell (i := 3) (by omega); have x4 := (RY).cell (i := 4) (by omega); have x5 := (RY).cell (i := 5) (by omega); simp only [c6, if_true, if_false, Nat.reduceEqDiff, reduceCtorEq] at x0 x1 x2 x3 x4 x5); cases oky; (next => (go_wp2_with ((go_at_call 19; refine (E3.out _).mono ?_; rintro e wo ⟨rfl, hb⟩)); go_ret; exact ⟨rfl, bel_step0 hb B⟩)); (next => (go_wp2_with ((go_at_call 19; refine (E3.out _).mono ?_; rintro e wo ⟨rfl, hb⟩)); go_ret; exact ⟨rfl, bel_step0 hb B⟩)))
set_option maxRecDepth 100000 in
theorem contract (H : Type) (enc : TypeId × Value → H) (W : World) (base : Nat) (args : Array Value) (ds gs : List (DataW H)) (before : List MemPlace)
    (hval0 : ∀ (j : Nat) t v, Tryd.f4.params[j]? = some t → args[j]? = some v → Value.okWide Tryd.prog W .any base t v)
    (hW : DataW.Whole enc Tryd.prog Tryd.f4.params.toList Rows.fnEndingsSpec.vars false W args.toList ds gs before) (hL : laidMetH Tryd.prog Rows.fnEndingsRow.laid W) :
    Calls Tryd.prog 4 args W fun e W' => ∃ v, e = .returned v ∧ Rows.fnEndingsSpec.post enc Tryd.prog Tryd.f4 false true false false W args v W' := by
  have hval : ∀ (j : Nat) t v, Tryd.f4.params[j]? = some t → args[j]? = some v → Value.okWide Tryd.prog W .any base t v := hval0
  have hW' := hW
  obtain ⟨p, q, hA0, hV, rfl, hfz, hnd⟩ := hW
  have hA : DataW.TrodAll enc Tryd.prog W 0 (fun _ => true) true Tryd.f4.params.toList args.toList ds p := hA0
  rw [Tryd.params4] at hA hval
  obtain ⟨v0, vs0, d0, ds0, p0, q0, hargs, rfl, rfl, h0, r0⟩ := trodAll_cons hA
  obtain ⟨rfl, rfl, rfl⟩ := trodAll_nil r0
  obtain rfl : args = #[v0] := by cases args; simp_all
  obtain ⟨rfl, rfl⟩ := trodVars_none hV
  have k0 := h0
  have lt0 : ∀ x ∈ p0, x.block < W.heap.size := by obtain ⟨m, hm⟩ := k0; exact DataW.trod_lt m _ _ _ hm
  obtain ⟨n0, b0⟩ := view_Suint8 (hval 0 29 v0 rfl rfl) h0
  clear hA0 hval0
  refine (walk v0 n0 W b0 (tab_of W hL)).mono fun e W' ⟨he, bel⟩ => ?_
  subst he
  exact ⟨_, rfl, _, _, _, [], _, [], hW', trodAll_mk1 (shut_bool Tryd.underlying4 _), (trodAll_cons_mk (Below.trod laidOut (by kernel_rfl) (of_decide_eq_true (by kernel_rfl)) k0 bel lt0) trodAll_mk0), rfl, bel.frame _, fun h => by cases h⟩
theorem reads (os : Os) {H : Type} (enc : TypeId × Value → H) : ∃ places, DataW.whole enc Tryd.prog ((doorW os).forCall (fun _ _ => 0) ⟨#[], #[.slice none 0 0], []⟩).memory Tryd.f4.params.toList Rows.fnEndingsSpec.vars false #[.slice none 0 0].toList 8 = some ([.nil], [], places) :=
  ⟨[], by kernel_rfl⟩
set_option maxRecDepth 100000 in
theorem door_metL (os : Os) (args : Array Value) : laidMet Tryd.prog Rows.fnEndingsRow.laid ((doorW os).forCall (fun _ _ => 0) ⟨#[], args, []⟩).memory :=
  laidMet_of_run3 8 (by kernel_rfl) (by kernel_rfl) (by kernel_rfl)
set_option maxRecDepth 100000 in
theorem lifted (os : Os) (started : os.Started) (H : Type) (enc : TypeId × Value → H) (F : Stop.Interp) :
    ReturnsInHanded {} Tryd.checked os 4 .any ((OpenSpec.ofChange Rows.fnEndingsSpec).preRow enc Tryd.prog Tryd.f4 Rows.fnEndingsRow.domain false Rows.fnEndingsRow.laid) (((OpenSpec.ofChange Rows.fnEndingsSpec).at F).post enc Tryd.prog Tryd.f4 false true false false) := by
  obtain ⟨places, hx⟩ := reads os enc
  refine returnsInHanded_of_row (C := Tryd.checked) (s := OpenSpec.ofChange Rows.fnEndingsSpec) own started (by kernel_rfl) Tryd.func4
    (witness_row_at (enc := enc) (C := Tryd.checked) false (doorW os) #[.slice none 0 0] rfl (door_shape os _) (door_rest os _) (by kernel_rfl)
      (OpenSpec.preRow_of_cond 8 hx (by kernel_rfl) (fun k hk => by cases hk) (by kernel_rfl) (door_metL os _))) ?_
  intro W base args ds gs before hval hW _ _ _ hL _ _
  exact contract H enc W base args ds gs before hval hW hL
theorem said : Rows.FnEndingsSaid :=
  OpenClaim.holds_of_cond 4 Tryd.f4 rfl rfl rfl rfl rfl rfl rfl ⟨rfl, rfl, rfl, rfl, rfl⟩ rfl rfl rfl rfl rfl (by kernel_rfl) Tryd.func4 (by kernel_rfl)
    (of_decide_eq_true (by kernel_rfl)) (by unfold Func.isWrapper; first | (rw [if_pos (by decide +kernel)]; kernel_rfl) | (rw [if_neg (by decide +kernel)]; exact ⟨rfl, rfl⟩))
    (fun os started H enc _ F => by rw [OpenClaim.pre_eq_preRow]; exact lifted os started H enc F)
theorem plain (f : FuncId) (fn : Func) (hf : Tryd.pinned.checked.prog.funcNamed Rows.fnEndingsRow.func = some f) (hfn : Tryd.pinned.checked.prog.funcs[f]? = some fn) :
    false = Tryd.pinned.checked.prog.looks [] ∧ ∀ (j : Nat) t, fn.params[j]? = some t → Tryd.pinned.checked.prog.wantsStandIn t = false := by
  obtain rfl : f = 4 := Option.some.inj ((show Tryd.prog.funcNamed Rows.fnEndingsRow.func = some 4 by kernel_rfl).symm.trans hf) |>.symm
  obtain rfl : fn = Tryd.f4 := (Option.some.inj (Tryd.func4.symm.trans hfn)).symm
  refine ⟨by kernel_rfl, fun j t ht => ?_⟩
  rw [Tryd.params4] at ht
  obtain rfl : t = 29 := by simpa using Array.mem_of_getElem? ht
  exact (show Tryd.prog.wantsStandIn 29 = false by kernel_rfl)
theorem proved : Rows.FnEndingsCardSaid :=
  Claim7.holds_tied_plain_at .later [] _ _ _ _ said (fun _ h => by cases h) (by kernel_rfl) (fun _ h => by cases h) fnEndings_row_tie rfl ⟨rfl, rfl⟩ (by kernel_rfl) rfl plain (by kernel_rfl)
#print axioms proved
end Go.Proofs.YtpkgfpgccfnkpaaDoor.lawFnEndings
