/- A life and a list of steps that are drawn. No condition but those stated. -/
import Derived.Test.YtpkgfpgccfnkpaaCurP
namespace Go.Proofs.Ytpkgfpgccfnkpaa
set_option linter.unusedVariables false
set_option linter.unusedSimpArgs false
open Go.RowKit Go.Sort
/-- Stores into the row of a life leave a list of steps as it was. -/
theorem SS.chgA {base : Nat} {W : World} {v : Value} {xs : List (Int × Int)} {g : Nat} {K V : Nat → Int} {F : Nat → Value} {a b c d e f : Value} (h : SS W v xs.length K V) (ho : OS base W v xs) (hr : W.rowIs g 25 6 F) :
    SS ((((((W.setCell ⟨g, 0, none⟩ a).setCell ⟨g, 1, none⟩ b).setCell ⟨g, 2, none⟩ c).setCell ⟨g, 3, none⟩ d).setCell ⟨g, 4, none⟩ e).setCell ⟨g, 5, none⟩ f) v xs.length K V := by
  have hne := ho.ne hr
  obtain ⟨A, cap, rfl, h1, h2⟩ := h
  refine ⟨A, cap, rfl, fun h0 => ?_, h2⟩
  obtain ⟨q, off, rfl, hl, hc⟩ := h1 h0
  have hq : q ≠ g := by
    intro e
    subst e
    rcases ho.2 with ⟨e, _⟩ | ⟨g1, cap, cur, e, _⟩
    · cases e
    · injection e with e _ _
      injection e with e
      injection e with e1 _ _
      subst e1
      exact hne rfl
  have key : ∀ o, ((((((W.setCell ⟨g, 0, none⟩ a).setCell ⟨g, 1, none⟩ b).setCell ⟨g, 2, none⟩ c).setCell ⟨g, 3, none⟩ d).setCell ⟨g, 4, none⟩ e).setCell ⟨g, 5, none⟩ f).cell? ⟨q, o, none⟩ = W.cell? ⟨q, o, none⟩ := fun o => by
    have hn : ∀ i : Nat, (⟨q, o, none⟩ : Addr) ≠ ⟨g, i, none⟩ := fun i hi => by injection hi with h _ _; exact hq h
    rw [World.cell?_setCell_other _ _ _ _ (fun h => hn 5 h.symm), World.cell?_setCell_other _ _ _ _ (fun h => hn 4 h.symm), World.cell?_setCell_other _ _ _ _ (fun h => hn 3 h.symm), World.cell?_setCell_other _ _ _ _ (fun h => hn 2 h.symm), World.cell?_setCell_other _ _ _ _ (fun h => hn 1 h.symm), World.cell?_setCell_other _ _ _ _ (fun h => hn 0 h.symm)]
  exact ⟨q, off, rfl, by simpa [World.setCell] using hl, fun j hj => ⟨(key _).trans (hc j hj).1, (key _).trans (hc j hj).2⟩⟩
theorem rs_two {wa wd : World} {k x : Int} {T : TypeId} {o : Obj} {row : Option Nat} (hg : ((wa.alloc (.cells #[.int .i64 k, .int .i64 x] T)).alloc o).grownBy wd row) (hlt : ∀ q, row = some q → q < wa.heap.size) :
    wd.rowIs wa.heap.size T 2 (c2 k x) :=
  (row_alloc (row2_alloc wa T k x) o).of_block (hg.block _ (row_alloc (row2_alloc wa T k x) o).lt (fun e => by have := hlt _ e.symm; omega))
set_option maxRecDepth 100000 in
set_option maxHeartbeats 4000000 in
theorem C_DrawRunLife (v : Value) (n : Nat) (w : World) (h : SU w v n) :
    Calls Try.prog 33 #[v] w fun e w' => ∃ (L : Lf) (u : Value) (m : Nat) (K V : Nat → Int), e = .returned (.tuple #[.agg #[.int .i64 (L).day, .int .i64 (L).state, .int .i64 (L).act, .int .i64 (L).period, .int .i64 (L).closed, .int .i64 (L).holds], u]) ∧ L.I ∧ SS w' u m K V ∧ (∀ j, j < m → I64 (V j)) ∧ Below w.heap.size w w' := by
  obtain ⟨A, cap, rfl⟩ := h.form
  obtain ⟨B, hB⟩ : ∃ B, B = w.heap.size + 1 := ⟨_, rfl⟩
  obtain ⟨w0, hw0⟩ : ∃ w0, w0 = w.alloc (.cells #[.int .i64 0, .int .i64 0, .int .i64 0, .int .i64 0, .int .i64 0, .int .i64 0] 25) := ⟨_, rfl⟩
  obtain ⟨w1, hw1⟩ : ∃ w1, w1 = w0.alloc (.cells #[.slice A n cap, .int .i64 0, .int .u64 0] 72) := ⟨_, rfl⟩
  have b0 : Below w.heap.size w w0 := by rw [hw0]; (repeat (first | with_reducible exact Below.refl _ _ | with_reducible exact below_regrown _ _ _ | with_reducible refine bel_step0 (by assumption) ?_ | with_reducible refine bel_alloc0 ?_ _ | with_reducible refine bel_regrown0 ?_ _ _ | with_reducible refine bel_regrown ?_ (by first | omega | (simp; done) | (simp; omega)) _ _ | with_reducible refine below_drewN ?_ _ | with_reducible refine Below.drew ?_ | with_reducible refine Below.alloc ?_ (by first | omega | (simp; done) | (simp; omega)) _ | with_reducible refine Below.setCell ?_ (by first | omega | (simp; done) | (simp; omega)) _ | with_reducible refine bel_step (by assumption) (by first | omega | (simp; done) | (simp; omega)) ?_ | with_reducible refine bel_grown (by assumption) (by first | omega | (simp; done) | (simp; omega)) (by first | omega | (simp; done) | (simp; omega)) ?_))
  have b1 : Below w.heap.size w w1 := by rw [hw1]; exact bel_alloc0 b0 _
  have z0 : w0.heap.size = B := by rw [hw0, hB]; simp
  have cu1 : Cu w1 B 0 := by rw [hw1, ← z0]; exact Cu.start (h.below b0) _
  have rA : w1.rowIs w.heap.size 25 6 (c6 zeroL) := by rw [hw1, hw0]; exact row_alloc (row6_alloc w 25 zeroL) _
  have HR := Lib.hid rA
  have HW := Lib.hid (show (w.alloc (.cells #[.int .i64 0, .int .i64 0, .int .i64 0, .int .i64 0, .int .i64 0, .int .i64 0] 25)).alloc (.cells #[.slice A n cap, .int .i64 0, .int .u64 0] 72) = w1 by rw [hw1, hw0])
  have HB := Lib.hid hB.symm
  have hB0 : w.heap.size < B := by omega
  clear hw0 hw1 hB b0 z0 h rA
  go_enter Try.func33, Try.ntmps33
  go_wp2_with fail
  rw [HW.out, HB.out]
  refine (C_life B 0 w1 cu1 (by omega)).mono ?_; rintro e w2 ⟨L0, rfl, hLI, cu2, g2⟩
  have c2' := Chg.of_grown g2
  obtain ⟨w3, hw3⟩ : ∃ w3, w3 = w2.alloc (.cells #[.int .i64 (L0).day, .int .i64 (L0).state, .int .i64 (L0).act, .int .i64 (L0).period, .int .i64 (L0).closed, .int .i64 (L0).holds] 25) := ⟨_, rfl⟩
  obtain ⟨w4, hw4⟩ : ∃ w4, w4 = w3.alloc (.cells #[] 41) := ⟨_, rfl⟩
  obtain ⟨w5, hw5⟩ : ∃ w5, w5 = w4.alloc (.cells #[.int .i64 (L0).day, .int .i64 (L0).state, .int .i64 (L0).act, .int .i64 (L0).period, .int .i64 (L0).closed, .int .i64 (L0).holds] 25) := ⟨_, rfl⟩
  obtain ⟨g5, hg5⟩ : ∃ g, g = w2.heap.size := ⟨_, rfl⟩
  obtain ⟨g7, hg7⟩ : ∃ g, g = w2.heap.size + 1 + 1 := ⟨_, rfl⟩
  have s3 : w3.heap.size = w2.heap.size + 1 := by rw [hw3]; simp
  have s4 : w4.heap.size = w2.heap.size + 1 + 1 := by rw [hw4, World.size_alloc, s3]
  have B2 : Below w.heap.size w w2 := bel_chg c2' (by omega) b1
  have RS5 : RS B 100 g5 g7 w w5 L0 L0 (.slice (some ⟨g5 + 1, 0, none⟩) 0 0) [] := by
    have hl := cu2.lt
    refine ⟨?_, ?_, ?_, ?_, ?_, ?_, fun p hp => (by cases hp), hB0, by omega, by omega⟩
    · rw [hw5, hw4, hw3]; exact ((cu2.alloc _).alloc _).alloc _
    · rw [hw5, hw4, hw3]; exact bel_alloc0 (bel_alloc0 (bel_alloc0 B2 _) _) _
    · rw [hw5, hw4, hw3]; exact row_alloc (row_alloc (row_alloc (row_chg HR.out c2' (.inl hB0)) _) _) _
    · rw [hw5, hw4, hw3, hg5]; exact row_alloc (row_alloc (row6_alloc w2 _ L0) _) _
    · rw [hw5, hg7, ← s4]; exact row6_alloc w4 _ L0
    · have := OS.empty (base := B + 1) (w := w3) (by omega)
      rw [s3, ← hw4, ← hg5] at this
      rw [hw5]; exact this.below (bel_alloc0 (Below.refl _ _) _)
  have R5 := Lib.hid RS5
  have HLI := Lib.hid hLI
  have HWW := Lib.hid (show ((w2.alloc (.cells #[.int .i64 (L0).day, .int .i64 (L0).state, .int .i64 (L0).act, .int .i64 (L0).period, .int .i64 (L0).closed, .int .i64 (L0).holds] 25)).alloc (.cells #[] 41)).alloc (.cells #[.int .i64 (L0).day, .int .i64 (L0).state, .int .i64 (L0).act, .int .i64 (L0).period, .int .i64 (L0).closed, .int .i64 (L0).holds] 25) = w5 by rw [hw5, hw4, hw3])
  have HG := Lib.hid (And.intro hg5.symm hg7.symm)
  clear RS5 hLI hw3 hw4 hw5 hg5 hg7 s3 s4 B2 c2' g2 cu2 HR HW HB cu1 b1
  go_wp2_with fail
  rw [HWW.out, HG.out.2, HG.out.1]
  clear HWW HG
  refine (C_pick B 100 12 w5 R5.out.cu (by omega) (by omega) (by omega)).mono ?_; rintro e w6 ⟨n0, rfl, ⟨hn0, hn1⟩, cu6, g6⟩
  have R6 := Lib.hid (R5.out.chg (Chg.of_grown g6) cu6)
  clear cu6 g6 R5
  go_wp2
  go_loopw [6, 8] (fun s i wr => ∃ (k : Nat) (L : Lf) (xs : List (Int × Int)), k ≤ 11 ∧ i = .int .i64 k ∧ L.I ∧ xs.length + k ≤ 11 ∧ RS B (101 + 5 * (11 - k)) g5 g7 w wr L0 L s xs) (fun _ i _ => (intOf i).toNat)
  case atStart => exact ⟨n0.toNat, L0, [], by omega, by rw [Int.toNat_of_nonneg hn0], HLI.out, by simp; omega, R6.out.mono (by omega)⟩
  case round =>
    clear R6 hn0 hn1
    obtain ⟨k, L, xs, hk, rfl, hL, hxs, hR⟩ := hrel
    obtain ⟨SA, sc, rfl⟩ := hR.os.form
    have HR := Lib.hid hR
    have HL := Lib.hid hL
    by_cases hlt : 0 < k
    · have hlt2 : (0 : Int) < (k : Int) := by omega
      have HK1 := Lib.hid (show Value.int .i64 ((k : Int) - 1) = .int .i64 ((k - 1 : Nat) : Int) by rw [show ((k - 1 : Nat) : Int) = (k : Int) - 1 by omega])
      have r7 := hR.r7
      have x0 := (r7).cell (i := 0) (by omega); have x1 := (r7).cell (i := 1) (by omega); have x2 := (r7).cell (i := 2) (by omega); have x3 := (r7).cell (i := 3) (by omega); have x4 := (r7).cell (i := 4) (by omega); have x5 := (r7).cell (i := 5) (by omega); simp only [c6, if_true, if_false, Nat.reduceEqDiff, reduceCtorEq] at x0 x1 x2 x3 x4 x5
      clear hR hL r7
      go_wp2_with fail
      clear x0 x1 x2 x3 x4 x5
      refine (C_lifeStep B _ _ _ _ _ _ _ _ HR.out.cu (by omega) HL.out.2.2.2.1).mono ?_; rintro e wa ⟨kk, vv, rfl, hvv, cua, ga⟩
      have Ra := Lib.hid (HR.out.chg (Chg.of_grown ga) cua)
      clear cua ga HR
      have hbase : B + 1 ≤ ((wa.alloc (.cells #[.int .i64 kk, .int .i64 vv] 41)).alloc (.cells #[.int .i64 kk, .int .i64 vv] 41)).heap.size := by
        have := Ra.out.cu.lt; simp; omega
      have HO := Lib.hid (OS.below (bel_alloc0 (bel_alloc0 (Below.refl _ wa) (.cells #[.int .i64 kk, .int .i64 vv] 41)) (.cells #[.int .i64 kk, .int .i64 vv] 41)) Ra.out.os)
      have hrd := reads_two (wa.alloc (.cells #[.int .i64 kk, .int .i64 vv] 41)) kk vv 41
      rw [World.size_alloc, World.size_alloc] at hrd
      have HRD := Lib.hid hrd
      have hln : xs.length + 1 ≤ 1099511627776 := by omega
      clear hrd
      go_wp2_with (at_builtin; refine wp_appS _ rfl (.tmp 28) (.tmp 30) rfl (B + 1) _ xs rfl HO.out _ 1 kk vv _ rfl HRD.out hln hbase ?_; intro v1 wd ho1 hg1; have Rd := Lib.hid (RS.app (RS.alloc (RS.alloc Ra.out _) _) ho1 hg1 hvv); have rS := rs_two hg1 (fun q hq => (Ra.out.os.lt q hq).2); have r7 := Rd.out.r7; have x0 := (r7).cell (i := 0) (by omega); have x1 := (r7).cell (i := 1) (by omega); have x2 := (r7).cell (i := 2) (by omega); have x3 := (r7).cell (i := 3) (by omega); have x4 := (r7).cell (i := 4) (by omega); have x5 := (r7).cell (i := 5) (by omega); simp only [c6, if_true, if_false, Nat.reduceEqDiff, reduceCtorEq] at x0 x1 x2 x3 x4 x5; have y0 := rS.cell (i := 0) (by omega); have y1 := rS.cell (i := 1) (by omega); rw [c2_0] at y0; rw [c2_1] at y1; clear rS r7 ho1 hg1)
      clear x0 x1 x2 x3 x4 x5 y0 y1 HO HRD Ra hbase
      refine (C_StepLifeX _ _ _ _ _ _ _ _ _ hvv).mono ?_; rintro e we ⟨L1, b1, rfl, hL1, hb⟩
      have Re := Lib.hid (Rd.out.below hb)
      clear hb Rd
      have r7 := Re.out.r7
      have x0 := (r7).cell (i := 0) (by omega); have x1 := (r7).cell (i := 1) (by omega); have x2 := (r7).cell (i := 2) (by omega); have x3 := (r7).cell (i := 3) (by omega); have x4 := (r7).cell (i := 4) (by omega); have x5 := (r7).cell (i := 5) (by omega); simp only [c6, if_true, if_false, Nat.reduceEqDiff, reduceCtorEq] at x0 x1 x2 x3 x4 x5
      have z0 := r7.frozen 0
      have z1 := r7.frozen 1
      have z2 := r7.frozen 2
      have z3 := r7.frozen 3
      have z4 := r7.frozen 4
      have z5 := r7.frozen 5
      have hl7 := r7.lt
      clear r7
      have hk11 : k - 1 ≤ 11 := by omega
      have hxs1 : (xs ++ [(kk, vv)]).length + (k - 1) ≤ 11 := by simp; omega
      have hM : 101 + 5 * (11 - k) + 5 ≤ 101 + 5 * (11 - (k - 1)) := by omega
      cases b1
      · go_wp2
        go_roundw
        case rel => exact ⟨k - 1, L, _, hk11, HK1.out, HL.out, hxs1, (Re.out.alloc _).mono hM⟩
        case measure => simp [intOf]; omega
      · go_wp2
        go_roundw
        case rel => exact ⟨k - 1, L1, _, hk11, HK1.out, hL1, hxs1, ((Re.out.set7 L1).alloc _).mono hM⟩
        case measure => simp [intOf]; omega
    · obtain rfl : k = 0 := by omega
      have hz : ¬ (0 : Int) < ((0 : Nat) : Int) := by omega
      clear hR hL
      go_wp2_with fail
      refine (C_one B _ 24 _ HR.out.cu (by omega) (by omega) (by omega)).mono ?_; rintro e wf ⟨b, rfl, cuf, gf⟩
      have Rf := Lib.hid (HR.out.chg (Chg.of_grown gf) cuf)
      clear cuf gf HR
      cases b
      · (have rA := RS.rA Rf.out; have r5 := RS.r5 Rf.out; have y0 := (rA).cell (i := 0) (by omega); have y1 := (rA).cell (i := 1) (by omega); have y2 := (rA).cell (i := 2) (by omega); have y3 := (rA).cell (i := 3) (by omega); have y4 := (rA).cell (i := 4) (by omega); have y5 := (rA).cell (i := 5) (by omega); simp only [c6, if_true, if_false, Nat.reduceEqDiff, reduceCtorEq] at y0 y1 y2 y3 y4 y5; have x0 := (r5).cell (i := 0) (by omega); have x1 := (r5).cell (i := 1) (by omega); have x2 := (r5).cell (i := 2) (by omega); have x3 := (r5).cell (i := 3) (by omega); have x4 := (r5).cell (i := 4) (by omega); have x5 := (r5).cell (i := 5) (by omega); simp only [c6, if_true, if_false, Nat.reduceEqDiff, reduceCtorEq] at x0 x1 x2 x3 x4 x5; have v0 := rA.frozen 0; have v1 := rA.frozen 1; have v2 := rA.frozen 2; have v3 := rA.frozen 3; have v4 := rA.frozen 4; have v5 := rA.frozen 5; have hbb := RS.be Rf.out; clear rA r5; go_wp2_with fail; go_light; refine bodyPost_ret (by simp (maxDischargeDepth := 3) [results, Try.results33, go_sem, *]; try rfl) rfl ?_; refine ⟨L0, _, _, _, _, rfl, HLI.out, SS.chgA (OS.ss (RS.os Rf.out)) (RS.os Rf.out) (RS.rA Rf.out), mem_getD (RS.i Rf.out), ?_⟩; (repeat (first | with_reducible assumption | with_reducible refine Below.drew ?_ | with_reducible refine bel_alloc0 ?_ _ | with_reducible refine Below.setCell ?_ (by first | omega | (simp; done) | (simp; omega)) _)))
      · go_wp2
        go_loopw [6] (fun s wr => ∃ xs : List (Int × Int), xs.length ≤ 41 ∧ RS B (160 + xs.length) g5 g7 w wr L0 L s xs) (fun s _ => 42 - lenV s)
        case atStart => exact ⟨xs, by omega, Rf.out.mono (by omega)⟩
        case round =>
          clear Rf
          obtain ⟨ys, hys, hR⟩ := hrel
          obtain ⟨TA, tc, rfl⟩ := hR.os.form
          have HR := Lib.hid hR
          clear hR
          go_wp2_with fail
          refine (C_pick B _ 2 _ HR.out.cu (by omega) (by omega) (by omega)).mono ?_; rintro e wg ⟨r, rfl, ⟨hr0, hr1⟩, cug, gg⟩
          have Rg := Lib.hid (HR.out.chg (Chg.of_grown gg) cug)
          clear cug gg HR
          by_cases hlt3 : (ys.length : Int) < 40 + r
          · have hrd := reads_two wg 1 1 41
            have HO := Lib.hid (OS.below (bel_alloc0 (Below.refl _ wg) (.cells #[.int .i64 1, .int .i64 1] 41)) Rg.out.os)
            have HRD := Lib.hid hrd
            have hln : ys.length + 1 ≤ 1099511627776 := by omega
            have hbase : B + 1 ≤ (wg.alloc (.cells #[.int .i64 1, .int .i64 1] 41)).heap.size := by
              have := Rg.out.cu.lt; simp; omega
            have hi1 : I64 1 := by unfold I64; omega
            have hmm : 160 + ys.length + 1 ≤ 160 + (ys ++ [((1 : Int), (1 : Int))]).length := by simp; omega
            have hm41 : (ys ++ [((1 : Int), (1 : Int))]).length ≤ 41 := by simp; omega
            clear hrd
            go_wp2_with (at_builtin; refine wp_appS _ rfl (.tmp 48) (.tmp 50) rfl (B + 1) _ ys rfl HO.out _ 1 1 1 _ rfl HRD.out hln hbase ?_; intro v1 wd ho1 hg1; have Rd := Lib.hid (RS.app (RS.alloc Rg.out _) ho1 hg1 hi1); obtain ⟨TB, tb, rfl⟩ := ho1.form; clear ho1 hg1)
            go_roundw
            case rel => exact ⟨ys ++ [(1, 1)], hm41, by rw [show (Value.slice TB (ys.length + 1) tb) = .slice TB (ys ++ [((1 : Int), (1 : Int))]).length tb by simp]; exact Rd.out.mono hmm⟩
            case measure => simp [lenV]; omega
          · (have rA := RS.rA Rg.out; have r5 := RS.r5 Rg.out; have y0 := (rA).cell (i := 0) (by omega); have y1 := (rA).cell (i := 1) (by omega); have y2 := (rA).cell (i := 2) (by omega); have y3 := (rA).cell (i := 3) (by omega); have y4 := (rA).cell (i := 4) (by omega); have y5 := (rA).cell (i := 5) (by omega); simp only [c6, if_true, if_false, Nat.reduceEqDiff, reduceCtorEq] at y0 y1 y2 y3 y4 y5; have x0 := (r5).cell (i := 0) (by omega); have x1 := (r5).cell (i := 1) (by omega); have x2 := (r5).cell (i := 2) (by omega); have x3 := (r5).cell (i := 3) (by omega); have x4 := (r5).cell (i := 4) (by omega); have x5 := (r5).cell (i := 5) (by omega); simp only [c6, if_true, if_false, Nat.reduceEqDiff, reduceCtorEq] at x0 x1 x2 x3 x4 x5; have v0 := rA.frozen 0; have v1 := rA.frozen 1; have v2 := rA.frozen 2; have v3 := rA.frozen 3; have v4 := rA.frozen 4; have v5 := rA.frozen 5; have hbb := RS.be Rg.out; clear rA r5; go_wp2_with fail; go_light; refine bodyPost_ret (by simp (maxDischargeDepth := 3) [results, Try.results33, go_sem, *]; try rfl) rfl ?_; refine ⟨L0, _, _, _, _, rfl, HLI.out, SS.chgA (OS.ss (RS.os Rg.out)) (RS.os Rg.out) (RS.rA Rg.out), mem_getD (RS.i Rg.out), ?_⟩; (repeat (first | with_reducible assumption | with_reducible refine Below.drew ?_ | with_reducible refine bel_alloc0 ?_ _ | with_reducible refine Below.setCell ?_ (by first | omega | (simp; done) | (simp; omega)) _)))
end Go.Proofs.Ytpkgfpgccfnkpaa
