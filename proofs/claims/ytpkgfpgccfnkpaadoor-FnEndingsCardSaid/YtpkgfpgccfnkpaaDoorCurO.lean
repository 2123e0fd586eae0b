/- What the laws on lives draw. No condition but those stated. -/
import Derived.Test.YtpkgfpgccfnkpaaDoorCurN
namespace Go.Proofs.YtpkgfpgccfnkpaaDoor
set_option linter.unusedVariables false
set_option linter.unusedSimpArgs false
open Go.RowKit Go.Sort
attribute [local go_sem ↓] Go.wp_at_zero Go.wp_at_succ
theorem row2_alloc (w : World) (t : TypeId) (k v : Int) : (w.alloc (.cells #[.int .i64 k, .int .i64 v] t)).rowIs w.heap.size t 2 (c2 k v) :=
  World.rowIs_alloc w #[.int .i64 k, .int .i64 v] t (c2 k v) (fun i hi => by
    match i, hi with
    | 0, _ => rfl
    | 1, _ => rfl
    | n + 2, h => exact absurd h (by simp))
theorem c2_0 (k v : Int) : c2 k v 0 = .int .i64 k := rfl
theorem c2_1 (k v : Int) : c2 k v 1 = .int .i64 v := rfl
theorem SU.form {w : World} {v : Value} {n : Nat} (h : SU w v n) : ∃ A cap, v = .slice A n cap := by
  obtain ⟨A, cap, f, e, _⟩ := h; exact ⟨A, cap, e⟩
set_option maxHeartbeats 1000000 in
theorem C_DrawIsLife (v : Value) (n : Nat) (w : World) (h : SU w v n) :
    Calls Tryd.prog 23 #[v] w fun e w' => ∃ L : Lf, e = .returned (.agg #[.int .i64 (L).day, .int .i64 (L).state, .int .i64 (L).act, .int .i64 (L).period, .int .i64 (L).closed, .int .i64 (L).holds]) ∧ L.I ∧ Below w.heap.size w w' := by
  obtain ⟨A, cap, rfl⟩ := h.form
  obtain ⟨B, hB⟩ : ∃ B, B = w.heap.size + 1 := ⟨_, rfl⟩
  obtain ⟨w0, hw0⟩ : ∃ w0, w0 = w.alloc (.cells #[.int .i64 0, .int .i64 0, .int .i64 0, .int .i64 0, .int .i64 0, .int .i64 0] 26) := ⟨_, rfl⟩
  obtain ⟨w1, hw1⟩ : ∃ w1, w1 = w0.alloc (.cells #[.slice A n cap, .int .i64 0, .int .u64 0] 54) := ⟨_, rfl⟩
  have b0 : Below w.heap.size w w0 := by rw [hw0]; (repeat (first | with_reducible exact Below.refl _ _ | with_reducible exact below_regrown _ _ _ | with_reducible refine bel_step0 (by assumption) ?_ | with_reducible refine bel_alloc0 ?_ _ | with_reducible refine bel_regrown0 ?_ _ _ | with_reducible refine bel_regrown ?_ (by first | omega | (simp; done) | (simp; omega)) _ _ | with_reducible refine below_drewN ?_ _ | with_reducible refine Below.drew ?_ | with_reducible refine Below.alloc ?_ (by first | omega | (simp; done) | (simp; omega)) _ | with_reducible refine Below.setCell ?_ (by first | omega | (simp; done) | (simp; omega)) _ | with_reducible refine bel_step (by assumption) (by first | omega | (simp; done) | (simp; omega)) ?_ | with_reducible refine bel_grown (by assumption) (by first | omega | (simp; done) | (simp; omega)) (by first | omega | (simp; done) | (simp; omega)) ?_))
  have b1 : Below w.heap.size w w1 := by rw [hw1]; exact bel_alloc0 b0 _
  have z0 : w0.heap.size = B := by rw [hw0, hB]; simp
  have cu1 : Cu w1 B 0 := by rw [hw1, ← z0]; exact Cu.start (h.below b0) _
  have rA : w1.rowIs w.heap.size 26 6 (c6 zeroL) := by rw [hw1, hw0]; exact row_alloc (row6_alloc w 26 zeroL) _
  have HR := Lib.hid rA
  have HW := Lib.hid (show (w.alloc (.cells #[.int .i64 0, .int .i64 0, .int .i64 0, .int .i64 0, .int .i64 0, .int .i64 0] 26)).alloc (.cells #[.slice A n cap, .int .i64 0, .int .u64 0] 54) = w1 by rw [hw1, hw0])
  have HB := Lib.hid hB.symm
  have hB0 : w.heap.size < B := by omega
  clear hw0 hw1 hB b0 z0 h rA
  go_enter Tryd.func23, Tryd.ntmps23
  go_wp2_with fail
  rw [HW.out, HB.out]
  refine (C_life B 0 w1 cu1 (by omega)).mono ?_; rintro e w2 ⟨L, rfl, hLI, cu2, g2⟩
  have c2' := Chg.of_grown g2
  have b2 : Below w.heap.size w w2 := bel_chg c2' (by omega) b1
  have h0 := row_chg HR.out c2' (.inl hB0)
  have y0 := (h0).cell (i := 0) (by omega); have y1 := (h0).cell (i := 1) (by omega); have y2 := (h0).cell (i := 2) (by omega); have y3 := (h0).cell (i := 3) (by omega); have y4 := (h0).cell (i := 4) (by omega); have y5 := (h0).cell (i := 5) (by omega); simp only [c6, if_true, if_false, Nat.reduceEqDiff, reduceCtorEq] at y0 y1 y2 y3 y4 y5
  have v0 := h0.frozen 0
  have v1 := h0.frozen 1
  have v2 := h0.frozen 2
  have v3 := h0.frozen 3
  have v4 := h0.frozen 4
  have v5 := h0.frozen 5
  clear c2' g2 cu2 h0 HW HB cu1
  go_wp2_with fail
  go_light; refine bodyPost_ret (by simp (maxDischargeDepth := 3) [results, Tryd.results23, go_sem, *]; try rfl) rfl ?_; refine ⟨L, rfl, hLI, ?_⟩
  (repeat (first | with_reducible assumption | with_reducible refine Below.drew ?_ | with_reducible refine bel_alloc0 ?_ _ | with_reducible refine Below.setCell ?_ (by first | omega | (simp; done) | (simp; omega)) _))
set_option maxHeartbeats 1000000 in
theorem C_DrawWhyNotEnd (v : Value) (n : Nat) (w : World) (h : SU w v n) :
    Calls Tryd.prog 9 #[v] w fun e w' => ∃ L : Lf, e = .returned (.agg #[.int .i64 (L).day, .int .i64 (L).state, .int .i64 (L).act, .int .i64 (L).period, .int .i64 (L).closed, .int .i64 (L).holds]) ∧ L.I ∧ Below w.heap.size w w' := by
  obtain ⟨w0, hw0⟩ : ∃ w0, w0 = w.alloc (.cells #[.int .i64 0, .int .i64 0, .int .i64 0, .int .i64 0, .int .i64 0, .int .i64 0] 26) := ⟨_, rfl⟩
  have b0 : Below w.heap.size w w0 := by rw [hw0]; (repeat (first | with_reducible exact Below.refl _ _ | with_reducible exact below_regrown _ _ _ | with_reducible refine bel_step0 (by assumption) ?_ | with_reducible refine bel_alloc0 ?_ _ | with_reducible refine bel_regrown0 ?_ _ _ | with_reducible refine bel_regrown ?_ (by first | omega | (simp; done) | (simp; omega)) _ _ | with_reducible refine below_drewN ?_ _ | with_reducible refine Below.drew ?_ | with_reducible refine Below.alloc ?_ (by first | omega | (simp; done) | (simp; omega)) _ | with_reducible refine Below.setCell ?_ (by first | omega | (simp; done) | (simp; omega)) _ | with_reducible refine bel_step (by assumption) (by first | omega | (simp; done) | (simp; omega)) ?_ | with_reducible refine bel_grown (by assumption) (by first | omega | (simp; done) | (simp; omega)) (by first | omega | (simp; done) | (simp; omega)) ?_))
  have rA : w0.rowIs w.heap.size 26 6 (c6 zeroL) := by rw [hw0]; exact row6_alloc w 26 zeroL
  have HR := Lib.hid rA
  have HW := Lib.hid hw0.symm
  have h1 := h.below b0
  clear hw0 h rA
  go_enter Tryd.func9, Tryd.ntmps9
  go_wp2_with fail
  rw [HW.out]
  refine (C_DrawIsLife _ n w0 h1).mono ?_; rintro e w2 ⟨L, rfl, hLI, hb2⟩
  have b2 : Below w.heap.size w w2 := bel_step0 hb2 b0
  have h0 := HR.out.of_block (hb2.block _ HR.out.lt)
  have y0 := (h0).cell (i := 0) (by omega); have y1 := (h0).cell (i := 1) (by omega); have y2 := (h0).cell (i := 2) (by omega); have y3 := (h0).cell (i := 3) (by omega); have y4 := (h0).cell (i := 4) (by omega); have y5 := (h0).cell (i := 5) (by omega); simp only [c6, if_true, if_false, Nat.reduceEqDiff, reduceCtorEq] at y0 y1 y2 y3 y4 y5
  have v0 := h0.frozen 0
  have v1 := h0.frozen 1
  have v2 := h0.frozen 2
  have v3 := h0.frozen 3
  have v4 := h0.frozen 4
  have v5 := h0.frozen 5
  clear hb2 h0 HW
  go_wp2_with fail
  go_light; refine bodyPost_ret (by simp (maxDischargeDepth := 3) [results, Tryd.results9, go_sem, *]; try rfl) rfl ?_; refine ⟨L, rfl, hLI, ?_⟩
  (repeat (first | with_reducible assumption | with_reducible refine Below.drew ?_ | with_reducible refine bel_alloc0 ?_ _ | with_reducible refine Below.setCell ?_ (by first | omega | (simp; done) | (simp; omega)) _))
set_option maxHeartbeats 1000000 in
theorem C_DrawDaysToEnd (v : Value) (n : Nat) (w : World) (h : SU w v n) :
    Calls Tryd.prog 15 #[v] w fun e w' => ∃ L : Lf, e = .returned (.agg #[.int .i64 (L).day, .int .i64 (L).state, .int .i64 (L).act, .int .i64 (L).period, .int .i64 (L).closed, .int .i64 (L).holds]) ∧ L.I ∧ Below w.heap.size w w' := by
  obtain ⟨w0, hw0⟩ : ∃ w0, w0 = w.alloc (.cells #[.int .i64 0, .int .i64 0, .int .i64 0, .int .i64 0, .int .i64 0, .int .i64 0] 26) := ⟨_, rfl⟩
  have b0 : Below w.heap.size w w0 := by rw [hw0]; (repeat (first | with_reducible exact Below.refl _ _ | with_reducible exact below_regrown _ _ _ | with_reducible refine bel_step0 (by assumption) ?_ | with_reducible refine bel_alloc0 ?_ _ | with_reducible refine bel_regrown0 ?_ _ _ | with_reducible refine bel_regrown ?_ (by first | omega | (simp; done) | (simp; omega)) _ _ | with_reducible refine below_drewN ?_ _ | with_reducible refine Below.drew ?_ | with_reducible refine Below.alloc ?_ (by first | omega | (simp; done) | (simp; omega)) _ | with_reducible refine Below.setCell ?_ (by first | omega | (simp; done) | (simp; omega)) _ | with_reducible refine bel_step (by assumption) (by first | omega | (simp; done) | (simp; omega)) ?_ | with_reducible refine bel_grown (by assumption) (by first | omega | (simp; done) | (simp; omega)) (by first | omega | (simp; done) | (simp; omega)) ?_))
  have rA : w0.rowIs w.heap.size 26 6 (c6 zeroL) := by rw [hw0]; exact row6_alloc w 26 zeroL
  have HR := Lib.hid rA
  have HW := Lib.hid hw0.symm
  have h1 := h.below b0
  clear hw0 h rA
  go_enter Tryd.func15, Tryd.ntmps15
  go_wp2_with fail
  rw [HW.out]
  refine (C_DrawIsLife _ n w0 h1).mono ?_; rintro e w2 ⟨L, rfl, hLI, hb2⟩
  have b2 : Below w.heap.size w w2 := bel_step0 hb2 b0
  have h0 := HR.out.of_block (hb2.block _ HR.out.lt)
  have y0 := (h0).cell (i := 0) (by omega); have y1 := (h0).cell (i := 1) (by omega); have y2 := (h0).cell (i := 2) (by omega); have y3 := (h0).cell (i := 3) (by omega); have y4 := (h0).cell (i := 4) (by omega); have y5 := (h0).cell (i := 5) (by omega); simp only [c6, if_true, if_false, Nat.reduceEqDiff, reduceCtorEq] at y0 y1 y2 y3 y4 y5
  have v0 := h0.frozen 0
  have v1 := h0.frozen 1
  have v2 := h0.frozen 2
  have v3 := h0.frozen 3
  have v4 := h0.frozen 4
  have v5 := h0.frozen 5
  clear hb2 h0 HW
  go_wp2_with fail
  go_light; refine bodyPost_ret (by simp (maxDischargeDepth := 3) [results, Tryd.results15, go_sem, *]; try rfl) rfl ?_; refine ⟨L, rfl, hLI, ?_⟩
  (repeat (first | with_reducible assumption | with_reducible refine Below.drew ?_ | with_reducible refine bel_alloc0 ?_ _ | with_reducible refine Below.setCell ?_ (by first | omega | (simp; done) | (simp; omega)) _))
set_option maxHeartbeats 1000000 in
theorem C_DrawLifeText (v : Value) (n : Nat) (w : World) (h : SU w v n) :
    Calls Tryd.prog 18 #[v] w fun e w' => ∃ L : Lf, e = .returned (.agg #[.int .i64 (L).day, .int .i64 (L).state, .int .i64 (L).act, .int .i64 (L).period, .int .i64 (L).closed, .int .i64 (L).holds]) ∧ L.I ∧ Below w.heap.size w w' := by
  obtain ⟨w0, hw0⟩ : ∃ w0, w0 = w.alloc (.cells #[.int .i64 0, .int .i64 0, .int .i64 0, .int .i64 0, .int .i64 0, .int .i64 0] 26) := ⟨_, rfl⟩
  have b0 : Below w.heap.size w w0 := by rw [hw0]; (repeat (first | with_reducible exact Below.refl _ _ | with_reducible exact below_regrown _ _ _ | with_reducible refine bel_step0 (by assumption) ?_ | with_reducible refine bel_alloc0 ?_ _ | with_reducible refine bel_regrown0 ?_ _ _ | with_reducible refine bel_regrown ?_ (by first | omega | (simp; done) | (simp; omega)) _ _ | with_reducible refine below_drewN ?_ _ | with_reducible refine Below.drew ?_ | with_reducible refine Below.alloc ?_ (by first | omega | (simp; done) | (simp; omega)) _ | with_reducible refine Below.setCell ?_ (by first | omega | (simp; done) | (simp; omega)) _ | with_reducible refine bel_step (by assumption) (by first | omega | (simp; done) | (simp; omega)) ?_ | with_reducible refine bel_grown (by assumption) (by first | omega | (simp; done) | (simp; omega)) (by first | omega | (simp; done) | (simp; omega)) ?_))
  have rA : w0.rowIs w.heap.size 26 6 (c6 zeroL) := by rw [hw0]; exact row6_alloc w 26 zeroL
  have HR := Lib.hid rA
  have HW := Lib.hid hw0.symm
  have h1 := h.below b0
  clear hw0 h rA
  go_enter Tryd.func18, Tryd.ntmps18
  go_wp2_with fail
  rw [HW.out]
  refine (C_DrawIsLife _ n w0 h1).mono ?_; rintro e w2 ⟨L, rfl, hLI, hb2⟩
  have b2 : Below w.heap.size w w2 := bel_step0 hb2 b0
  have h0 := HR.out.of_block (hb2.block _ HR.out.lt)
  have y0 := (h0).cell (i := 0) (by omega); have y1 := (h0).cell (i := 1) (by omega); have y2 := (h0).cell (i := 2) (by omega); have y3 := (h0).cell (i := 3) (by omega); have y4 := (h0).cell (i := 4) (by omega); have y5 := (h0).cell (i := 5) (by omega); simp only [c6, if_true, if_false, Nat.reduceEqDiff, reduceCtorEq] at y0 y1 y2 y3 y4 y5
  have v0 := h0.frozen 0
  have v1 := h0.frozen 1
  have v2 := h0.frozen 2
  have v3 := h0.frozen 3
  have v4 := h0.frozen 4
  have v5 := h0.frozen 5
  clear hb2 h0 HW
  go_wp2_with fail
  go_light; refine bodyPost_ret (by simp (maxDischargeDepth := 3) [results, Tryd.results18, go_sem, *]; try rfl) rfl ?_; refine ⟨L, rfl, hLI, ?_⟩
  (repeat (first | with_reducible assumption | with_reducible refine Below.drew ?_ | with_reducible refine bel_alloc0 ?_ _ | with_reducible refine Below.setCell ?_ (by first | omega | (simp; done) | (simp; omega)) _))
end Go.Proofs.YtpkgfpgccfnkpaaDoor
