/- One review that is drawn. No condition but those stated. -/
import Derived.Test.YtcdffikambbleaaRvDA
namespace Go.Proofs.Ytcdffikambbleaa
set_option linter.unusedVariables false
set_option linter.unusedSimpArgs false
open Go.RowKit Go.Sort
attribute [local go_sem ↓] Go.wp_at_zero Go.wp_at_succ
theorem RB.cells {B m g0 gx : Nat} {w W : World} {rid due : Int} {v : Value} (h : RB B m g0 gx w W rid due v) :
    W.cell? ⟨gx, 0, none⟩ = some (.int .i64 rid) ∧ W.cell? ⟨gx, 1, none⟩ = some (.int .i64 due) ∧ W.cell? ⟨gx, 2, none⟩ = some v ∧ W.frozen? ⟨gx, 0, none⟩ = false ∧ W.frozen? ⟨gx, 1, none⟩ = false ∧ W.frozen? ⟨gx, 2, none⟩ = false ∧
    W.cell? ⟨g0, 0, none⟩ = some (.int .i64 0) ∧ W.cell? ⟨g0, 1, none⟩ = some (.int .i64 0) ∧ W.cell? ⟨g0, 2, none⟩ = some (.slice none 0 0) ∧ W.frozen? ⟨g0, 0, none⟩ = false ∧ W.frozen? ⟨g0, 1, none⟩ = false ∧ W.frozen? ⟨g0, 2, none⟩ = false :=
  ⟨h.rx.cell (i := 0) (by omega), h.rx.cell (i := 1) (by omega), h.rx.cell (i := 2) (by omega), h.rx.frozen 0, h.rx.frozen 1, h.rx.frozen 2, h.r0.cell (i := 0) (by omega), h.r0.cell (i := 1) (by omega), h.r0.cell (i := 2) (by omega), h.r0.frozen 0, h.r0.frozen 1, h.r0.frozen 2⟩
theorem form1 {base : Nat} {w : World} {v : Value} {xs : List Int} {y : Int} (h : OI base w v (xs ++ [y])) : ∃ A cap, v = .slice A (xs.length + 1) cap := by
  obtain ⟨A, cap, e⟩ := h.form
  exact ⟨A, cap, by rw [e]; simp⟩
set_option maxRecDepth 100000 in
set_option maxHeartbeats 4000000 in
theorem C_review (B m : Nat) (r : Int) (w : World) (hcu : Cu w B m) (hm : m ≤ 900000) :
    Calls Try.prog 107 #[.pointer (some ⟨B, 0, none⟩), .int .i64 r] w fun e w' => ∃ (x : Rl) (v : Value), e = .returned (.agg #[.int .i64 x.rid, .int .i64 x.due, v]) ∧ OI w.heap.size w' v x.vs ∧ x.vs.length ≤ 7 ∧ Cu w' B (m + 20) ∧ w.grownBy w' (some B) := by
  have hlt := hcu.lt
  obtain ⟨g0, hg0⟩ : ∃ g, g = w.heap.size := ⟨_, rfl⟩
  obtain ⟨w0, hw0⟩ : ∃ w0, w0 = w.alloc (.cells #[.int .i64 0, .int .i64 0, .slice none 0 0] 27) := ⟨_, rfl⟩
  have hbw : Below w.heap.size w w0 := by rw [hw0]; (repeat (first | with_reducible exact Below.refl _ _ | with_reducible exact below_regrown _ _ _ | with_reducible refine bel_step0 (by assumption) ?_ | with_reducible refine bel_alloc0 ?_ _ | with_reducible refine bel_regrown0 ?_ _ _ | with_reducible refine bel_regrown ?_ (by first | omega | (simp; done) | (simp; omega)) _ _ | with_reducible refine below_drewN ?_ _ | with_reducible refine Below.drew ?_ | with_reducible refine Below.alloc ?_ (by first | omega | (simp; done) | (simp; omega)) _ | with_reducible refine Below.setCell ?_ (by first | omega | (simp; done) | (simp; omega)) _ | with_reducible refine bel_step (by assumption) (by first | omega | (simp; done) | (simp; omega)) ?_ | with_reducible refine bel_grown (by assumption) (by first | omega | (simp; done) | (simp; omega)) (by first | omega | (simp; done) | (simp; omega)) ?_))
  have r00 : w0.rowIs g0 27 3 (c3v 0 0 (.slice none 0 0)) := by rw [hw0, hg0]; exact row3_alloc w _ 0 0 _
  have cu0 := hcu.below hbw
  have HW0 := Lib.hid hw0.symm
  have HZ0 := Lib.hid (show w0.heap.size = g0 + 1 by rw [hw0, hg0]; simp)
  have HG0 := Lib.hid hg0.symm
  have HX := Lib.hid (And.intro hbw (And.intro r00 cu0))
  have hBg : B < g0 := by omega
  have hg0w : w.heap.size ≤ g0 := by omega
  clear hw0 hbw r00 cu0 hcu hg0 hlt
  go_enter Try.func107, Try.ntmps107
  go_wp2_with fail
  rw [HW0.out, HG0.out]
  refine (C_amongL B m _ 6 6 _ w0 _ HZ0.out HX.out.2.2 (by omega) (by omega) (by decide) (by omega) anyI (by rfl)).mono ?_; rintro e w1 ⟨d, rfl, _, cu1, hb1⟩
  have hc1 := Chg.of_grown hb1
  obtain ⟨gx, hgx⟩ : ∃ g, g = w1.heap.size := ⟨_, rfl⟩
  obtain ⟨w2, hw2⟩ : ∃ w2, w2 = w1.alloc (.cells #[.int .i64 r, .int .i64 d, .slice none 0 0] 27) := ⟨_, rfl⟩
  have R2 : RB B (m + 1) g0 gx w w2 r d (.slice none 0 0) := by
    have z1 := hc1.size
    have z0 := HZ0.out
    rw [hw2]
    exact ⟨cu1.alloc _, ((Chg.of_below HX.out.1).trans hc1).alloc _, row_alloc (row_chg HX.out.2.1 hc1 (.inr hBg)) _, by rw [hgx]; exact row3_alloc w1 _ r d _, hg0w, hBg, by omega⟩
  have R2 := Lib.hid R2
  have HW2 := Lib.hid hw2.symm
  have HGX := Lib.hid hgx.symm
  clear hw2 hgx hc1 hb1 cu1 HX HZ0 HG0 HW0
  go_upto_region 2 with fail
  rw [HW2.out, HGX.out]
  clear HW2 HGX
  go_wp2_with fail
  refine (C_pick B _ 6 w2 R2.out.cu (by omega) (by omega) (by omega)).mono ?_; rintro e w3 ⟨n0, rfl, ⟨hn0, hn1⟩, cu3, hb3⟩
  have R3 := Lib.hid (R2.out.step (Chg.of_grown hb3) cu3)
  clear cu3 hb3 R2
  go_wp2
  go_loopw [6] (fun i wr => ∃ (k : Nat) (v : Value) (xs : List Int), k ≤ 5 ∧ i = .int .i64 k ∧ xs.length + k ≤ 5 ∧ OI (gx + 1) wr v xs ∧ RB B (m + 2 + (5 - k)) g0 gx w wr r d v) (fun i _ => (intOf i).toNat)
  case atStart => exact ⟨n0.toNat, _, [], by omega, by rw [Int.toNat_of_nonneg hn0], by simp; omega, OI.nil _ _, R3.out.mono (by omega)⟩
  case round =>
    clear R3 hn0 hn1
    obtain ⟨k, v, xs, hk, rfl, hxs, ho, hR⟩ := hrel
    have HR := Lib.hid hR
    have HO := Lib.hid ho
    clear ho
    by_cases hlt : 0 < k
    · have hlt2 : (0 : Int) < (k : Int) := by omega
      have hk1 : Value.int .i64 ((k : Int) - 1) = .int .i64 ((k - 1 : Nat) : Int) := by rw [show ((k - 1 : Nat) : Int) = (k : Int) - 1 by omega]
      have HK1 := Lib.hid hk1
      clear hk1
      obtain ⟨x0, x1, x2, f0, f1, f2, y0, y1, y2, e0, e1, e2⟩ := RB.cells hR; have hgn := RB.lx hR; have hgl := (RB.rx hR).lt; have hg0l := (RB.r0 hR).lt; have hgB := RB.l0 hR; have hne := Nat.ne_of_lt hgn; have hne' := hne.symm
      clear hR
      go_upto_region 5 with fail
      have hBx : B + 1 ≤ gx + 1 := by omega
      have hM : m + 2 + (5 - k) + 1 ≤ m + 2 + (5 - (k - 1)) := by omega
      have hk5 : k - 1 ≤ 5 := by omega
      go_region_law (first | (go_simp; go_at_call 97; refine (C_amongD B _ _ 5 5 _ _ _ (by rfl) HR.out.cu (by omega) (by omega) (by decide) (by omega) anyI (by rfl)).mono ?_; rintro e w1 ⟨y, rfl, _, cu1, hb1⟩; have R1 := Lib.hid (show RB B _ g0 gx w w1 r d v from HR.out.step (Chg.of_grown hb1) cu1); have O1 := Lib.hid (OI.chg (Chg.of_grown hb1) hBx HO.out); clear hb1 cu1; clear x0 x1 x2 f0 f1 f2 y0 y1 y2 e0 e1 e2 hgn hgl hg0l hgB hne hne'; have hR1 := R1.out; obtain ⟨x0, x1, x2, f0, f1, f2, y0, y1, y2, e0, e1, e2⟩ := RB.cells hR1; have hgn := RB.lx hR1; have hgl := (RB.rx hR1).lt; have hg0l := (RB.r0 hR1).lt; have hgB := RB.l0 hR1; have hne := Nat.ne_of_lt hgn; have hne' := hne.symm; clear hR1) | (refine step_app1 _ (by rfl) (.tmp 19) (.tmp 23) (by rfl) (gx + 1) _ xs (by rfl) (O1.out.alloc _) _ _ y (by rfl) (si_one _ _ _) (by omega) (by simp; omega) ?_; intro v1 w3 ho1 hg1; have R2 := Lib.hid (RB.grow (R1.out.alloc _) hg1 (fun q hq => (World.ownsRow.lt O1.out q hq).1)); have O2 := Lib.hid ho1; obtain ⟨VA, vc, rfl⟩ := form1 ho1; clear ho1 hg1; clear x0 x1 x2 f0 f1 f2 y0 y1 y2 e0 e1 e2 hgn hgl hg0l hgB hne hne'; have hR2 := R2.out; obtain ⟨x0, x1, x2, f0, f1, f2, y0, y1, y2, e0, e1, e2⟩ := RB.cells hR2; have hgn := RB.lx hR2; have hgl := (RB.rx hR2).lt; have hg0l := (RB.r0 hR2).lt; have hgB := RB.l0 hR2; have hne := Nat.ne_of_lt hgn; have hne' := hne.symm; clear hR2))
      all_goals
        go_wp2
        clear x0 x1 x2 f0 f1 f2 y0 y1 y2 e0 e1 e2 hgn hgl hg0l hgB hne hne'
        go_roundw
        case rel => exact ⟨k - 1, _, xs ++ [y], hk5, HK1.out, by simp; omega, O2.out.setFar (by simp) _, (R2.out.set fun j hj => c3v_set2 hj).mono hM⟩
        case measure => simp [intOf]; omega
    · obtain rfl : k = 0 := by omega
      have hz : ¬ (0 : Int) < ((0 : Nat) : Int) := by omega
      obtain ⟨VA, vc, rfl⟩ := HO.out.form
      have hxs5 : xs.length ≤ 5 := by omega
      have hgl := hR.rx.lt
      have hl0 := hR.l0
      have hlx := hR.lx
      clear hR hxs
      go_wp2_with fail
      refine (C_pick B _ 70 _ HR.out.cu (by omega) (by omega) (by omega)).mono ?_; rintro e w7 ⟨q, rfl, ⟨hq0, hq1⟩, cu7, hb7⟩
      have R7 := Lib.hid (HR.out.step (Chg.of_grown hb7) cu7)
      have O7 := Lib.hid (OI.chg (Chg.of_grown hb7) (by omega) HO.out)
      clear cu7 hb7 HR HO hgl
      have hR := R7.out
      obtain ⟨x0, x1, x2, f0, f1, f2, y0, y1, y2, e0, e1, e2⟩ := RB.cells hR; have hgn := RB.lx hR; have hgl := (RB.rx hR).lt; have hg0l := (RB.r0 hR).lt; have hgB := RB.l0 hR; have hne := Nat.ne_of_lt hgn; have hne' := hne.symm
      clear hR
      go_wp2_with fail
      · clear x0 x1 x2 f0 f1 f2 y0 y1 y2 e0 e1 e2 hgn hgl hg0l hgB hne hne'
        refine (C_amongL B _ _ 3 3 _ w7 _ (by rfl) R7.out.cu (by omega) (by omega) (by decide) (by omega) anyI (by rfl)).mono ?_; rintro e w8 ⟨y, rfl, _, cu8, hb8⟩
        have R8 := Lib.hid (R7.out.step (Chg.of_grown hb8) cu8)
        have O8 := Lib.hid (OI.chg (Chg.of_grown hb8) (by omega) O7.out)
        clear cu8 hb8
        have hR := R8.out
        obtain ⟨x0, x1, x2, f0, f1, f2, y0, y1, y2, e0, e1, e2⟩ := RB.cells hR; have hgn := RB.lx hR; have hgl := (RB.rx hR).lt; have hg0l := (RB.r0 hR).lt; have hgB := RB.l0 hR; have hne := Nat.ne_of_lt hgn; have hne' := hne.symm
        clear hR
        go_wp2_with fail
        (go_light; refine bodyPost_ret (by simp (maxDischargeDepth := 3) [results, Try.results107, go_sem, *]; try rfl) rfl ?_; refine ⟨⟨_, _, xs⟩, _, rfl, ?_, (show xs.length ≤ 7 by omega), ?_, ?_⟩; (next => (refine OI.mono (base := gx + 1) (by omega) ?_; (repeat (with_reducible refine OI.setFar ?_ (by first | omega | (simp; done) | (simp; omega)) _)); exact O8.out)); (next => ((repeat (first | with_reducible refine Cu.alloc ?_ _ | with_reducible refine Cu.setFar ?_ (by first | omega | (simp; done) | (simp; omega)) _)); exact Cu.mono (RB.cu R8.out) (by omega))); (next => (refine Chg.grown ?_; (repeat (first | with_reducible refine Chg.alloc ?_ _ | with_reducible refine Chg.setNew ?_ (by first | omega | (simp; done) | (simp; omega)) _)); exact RB.ch R8.out)))
      · clear x0 x1 x2 f0 f1 f2 y0 y1 y2 e0 e1 e2 hgn hgl hg0l hgB hne hne'
        refine (C_amongL B _ _ 2 2 _ w7 _ (by rfl) R7.out.cu (by omega) (by omega) (by decide) (by omega) anyI (by rfl)).mono ?_; rintro e w8 ⟨y, rfl, _, cu8, hb8⟩
        have R8 := Lib.hid (R7.out.step (Chg.of_grown hb8) cu8)
        have O8 := Lib.hid (OI.chg (Chg.of_grown hb8) (by omega) O7.out)
        clear cu8 hb8
        have hR := R8.out
        obtain ⟨x0, x1, x2, f0, f1, f2, y0, y1, y2, e0, e1, e2⟩ := RB.cells hR; have hgn := RB.lx hR; have hgl := (RB.rx hR).lt; have hg0l := (RB.r0 hR).lt; have hgB := RB.l0 hR; have hne := Nat.ne_of_lt hgn; have hne' := hne.symm
        clear hR
        go_wp2_with fail
        (go_light; refine bodyPost_ret (by simp (maxDischargeDepth := 3) [results, Try.results107, go_sem, *]; try rfl) rfl ?_; refine ⟨⟨_, _, xs⟩, _, rfl, ?_, (show xs.length ≤ 7 by omega), ?_, ?_⟩; (next => (refine OI.mono (base := gx + 1) (by omega) ?_; (repeat (with_reducible refine OI.setFar ?_ (by first | omega | (simp; done) | (simp; omega)) _)); exact O8.out)); (next => ((repeat (first | with_reducible refine Cu.alloc ?_ _ | with_reducible refine Cu.setFar ?_ (by first | omega | (simp; done) | (simp; omega)) _)); exact Cu.mono (RB.cu R8.out) (by omega))); (next => (refine Chg.grown ?_; (repeat (first | with_reducible refine Chg.alloc ?_ _ | with_reducible refine Chg.setNew ?_ (by first | omega | (simp; done) | (simp; omega)) _)); exact RB.ch R8.out)))
      · have hBx : B + 1 ≤ gx + 1 := by omega
        go_region_law (first | (go_simp; go_at_call 97; refine (C_amongD B _ _ 2 2 _ _ _ (by rfl) R7.out.cu (by omega) (by omega) (by decide) (by omega) anyI (by rfl)).mono ?_; rintro e w1 ⟨y, rfl, _, cu1, hb1⟩; have R1 := Lib.hid (show RB B _ g0 gx w w1 r d _ from R7.out.step (Chg.of_grown hb1) cu1); have O1 := Lib.hid (OI.chg (Chg.of_grown hb1) hBx O7.out); clear hb1 cu1; clear x0 x1 x2 f0 f1 f2 y0 y1 y2 e0 e1 e2 hgn hgl hg0l hgB hne hne'; have hR1 := R1.out; obtain ⟨x0, x1, x2, f0, f1, f2, y0, y1, y2, e0, e1, e2⟩ := RB.cells hR1; have hgn := RB.lx hR1; have hgl := (RB.rx hR1).lt; have hg0l := (RB.r0 hR1).lt; have hgB := RB.l0 hR1; have hne := Nat.ne_of_lt hgn; have hne' := hne.symm; clear hR1) | (refine step_app1 _ (by rfl) (.tmp 43) (.tmp 47) (by rfl) (gx + 1) _ xs (by rfl) (O1.out.alloc _) _ _ y (by rfl) (si_one _ _ _) (by omega) (by simp; omega) ?_; intro v1 w3 ho1 hg1; have R2 := Lib.hid (RB.grow (R1.out.alloc _) hg1 (fun q hq => (World.ownsRow.lt O1.out q hq).1)); have O2 := Lib.hid ho1; obtain ⟨VB, vb, rfl⟩ := form1 ho1; clear ho1 hg1; clear x0 x1 x2 f0 f1 f2 y0 y1 y2 e0 e1 e2 hgn hgl hg0l hgB hne hne'; have hR2 := R2.out; obtain ⟨x0, x1, x2, f0, f1, f2, y0, y1, y2, e0, e1, e2⟩ := RB.cells hR2; have hgn := RB.lx hR2; have hgl := (RB.rx hR2).lt; have hg0l := (RB.r0 hR2).lt; have hgB := RB.l0 hR2; have hne := Nat.ne_of_lt hgn; have hne' := hne.symm; clear hR2))
        all_goals
          go_wp2_with fail
          (go_light; refine bodyPost_ret (by simp (maxDischargeDepth := 3) [results, Try.results107, go_sem, *]; try rfl) rfl ?_; refine ⟨⟨_, _, xs ++ [y]⟩, _, rfl, ?_, (by simp; omega), ?_, ?_⟩; (next => (refine OI.mono (base := gx + 1) (by omega) ?_; (repeat (with_reducible refine OI.setFar ?_ (by first | omega | (simp; done) | (simp; omega)) _)); exact O2.out)); (next => ((repeat (first | with_reducible refine Cu.alloc ?_ _ | with_reducible refine Cu.setFar ?_ (by first | omega | (simp; done) | (simp; omega)) _)); exact Cu.mono (RB.cu R2.out) (by omega))); (next => (refine Chg.grown ?_; (repeat (first | with_reducible refine Chg.alloc ?_ _ | with_reducible refine Chg.setNew ?_ (by first | omega | (simp; done) | (simp; omega)) _)); exact RB.ch R2.out)))
      · (go_light; refine bodyPost_ret (by simp (maxDischargeDepth := 3) [results, Try.results107, go_sem, *]; try rfl) rfl ?_; refine ⟨⟨_, _, [2, 2, 2, 2, 2, 2]⟩, _, rfl, ?_, (by simp), ?_, ?_⟩; (next => (refine OI.mono (base := gx + 1) (by omega) ?_; (repeat (with_reducible refine OI.setFar ?_ (by first | omega | (simp; done) | (simp; omega)) _)); exact OI.rowAt (by simp [World.setCell]) _ [2, 2, 2, 2, 2, 2] _ (by simp [World.setCell]; omega) (by rfl) (by simp))); (next => ((repeat (first | with_reducible refine Cu.alloc ?_ _ | with_reducible refine Cu.setFar ?_ (by first | omega | (simp; done) | (simp; omega)) _)); exact Cu.mono (RB.cu R7.out) (by omega))); (next => (refine Chg.grown ?_; (repeat (first | with_reducible refine Chg.alloc ?_ _ | with_reducible refine Chg.setNew ?_ (by first | omega | (simp; done) | (simp; omega)) _)); exact RB.ch R7.out)))
      · (go_light; refine bodyPost_ret (by simp (maxDischargeDepth := 3) [results, Try.results107, go_sem, *]; try rfl) rfl ?_; refine ⟨⟨_, _, xs⟩, _, rfl, ?_, (show xs.length ≤ 7 by omega), ?_, ?_⟩; (next => (refine OI.mono (base := gx + 1) (by omega) ?_; (repeat (with_reducible refine OI.setFar ?_ (by first | omega | (simp; done) | (simp; omega)) _)); exact O7.out)); (next => ((repeat (first | with_reducible refine Cu.alloc ?_ _ | with_reducible refine Cu.setFar ?_ (by first | omega | (simp; done) | (simp; omega)) _)); exact Cu.mono (RB.cu R7.out) (by omega))); (next => (refine Chg.grown ?_; (repeat (first | with_reducible refine Chg.alloc ?_ _ | with_reducible refine Chg.setNew ?_ (by first | omega | (simp; done) | (simp; omega)) _)); exact RB.ch R7.out)))
end Go.Proofs.Ytcdffikambbleaa
