/- What the laws on lives draw. No condition but those stated. -/
import Derived.Test.YtpkgfpgccfnkpaaCurN
namespace Go.Proofs.Ytpkgfpgccfnkpaa
set_option linter.unusedVariables false
set_option linter.unusedSimpArgs false
open Go.RowKit Go.Sort
attribute [local go_sem ↓] Go.wp_at_zero Go.wp_at_succ
theorem row2_alloc (w : World) (t : TypeId) (k v : Int) : (w.alloc (.cells #[.int .i64 k, .int .i64 v] t)).rowIs w.heap.size t 2 (c2 k v) :=
  World.rowIs_alloc w #[.int .i64 k, .int .i64 v] t (c2 k v) (fun i hi => by
    match i, hi with
    | 0, _ => rfl
    | 1, _ => rfl
    | n + 2, h => exact absurd h (by simp))
theorem c2_0 (k v : Int) : c2 k v 0 = .int .i64 k := rfl
theorem c2_1 (k v : Int) : c2 k v 1 = .int .i64 v := rfl
theorem SU.form {w : World} {v : Value} {n : Nat} (h : SU w v n) : ∃ A cap, v = .slice A n cap := by
  obtain ⟨A, cap, f, e, _⟩ := h; exact ⟨A, cap, e⟩
set_option maxHeartbeats 1000000 in
theorem C_DrawStepLife (v : Value) (n : Nat) (w : World) (h : SU w v n) :
    Calls Try.prog 32 #[v] w fun e w' => ∃ (L : Lf) (k x : Int), e = .returned (.tuple #[.agg #[.int .i64 (L).day, .int .i64 (L).state, .int .i64 (L).act, .int .i64 (L).period, .int .i64 (L).closed, .int .i64 (L).holds], .agg #[.int .i64 k, .int .i64 x]]) ∧ L.I ∧ I64 x ∧ Below w.heap.size w w' := by
  obtain ⟨A, cap, rfl⟩ := h.form
  obtain ⟨B, hB⟩ : ∃ B, B = w.heap.size + 1 + 1 := ⟨_, rfl⟩
  obtain ⟨w0, hw0⟩ : ∃ w0, w0 = (w.alloc (.cells #[.int .i64 0, .int .i64 0, .int .i64 0, .int .i64 0, .int .i64 0, .int .i64 0] 25)).alloc (.cells #[.int .i64 0, .int .i64 0] 41) := ⟨_, rfl⟩
  obtain ⟨w1, hw1⟩ : ∃ w1, w1 = w0.alloc (.cells #[.slice A n cap, .int .i64 0, .int .u64 0] 72) := ⟨_, rfl⟩
  have b0 : Below w.heap.size w w0 := by rw [hw0]; (repeat (first | with_reducible exact Below.refl _ _ | with_reducible exact below_regrown _ _ _ | with_reducible refine bel_step0 (by assumption) ?_ | with_reducible refine bel_alloc0 ?_ _ | with_reducible refine bel_regrown0 ?_ _ _ | with_reducible refine bel_regrown ?_ (by first | omega | (simp; done) | (simp; omega)) _ _ | with_reducible refine below_drewN ?_ _ | with_reducible refine Below.drew ?_ | with_reducible refine Below.alloc ?_ (by first | omega | (simp; done) | (simp; omega)) _ | with_reducible refine Below.setCell ?_ (by first | omega | (simp; done) | (simp; omega)) _ | with_reducible refine bel_step (by assumption) (by first | omega | (simp; done) | (simp; omega)) ?_ | with_reducible refine bel_grown (by assumption) (by first | omega | (simp; done) | (simp; omega)) (by first | omega | (simp; done) | (simp; omega)) ?_))
  have b1 : Below w.heap.size w w1 := by rw [hw1]; exact bel_alloc0 b0 _
  have z0 : w0.heap.size = B := by rw [hw0, hB]; simp
  have cu1 : Cu w1 B 0 := by rw [hw1, ← z0]; exact Cu.start (h.below b0) _
  have rA : w1.rowIs w.heap.size 25 6 (c6 zeroL) := by rw [hw1, hw0]; exact row_alloc (row_alloc (row6_alloc w 25 zeroL) _) _
  have rS : w1.rowIs (w.heap.size + 1) 41 2 (c2 0 0) := by
    rw [hw1, hw0]
    have := row2_alloc (w.alloc (.cells #[.int .i64 0, .int .i64 0, .int .i64 0, .int .i64 0, .int .i64 0, .int .i64 0] 25)) 41 0 0
    rw [World.size_alloc] at this
    exact row_alloc this _
  have HR := Lib.hid (And.intro rA rS)
  have HW := Lib.hid (show ((w.alloc (.cells #[.int .i64 0, .int .i64 0, .int .i64 0, .int .i64 0, .int .i64 0, .int .i64 0] 25)).alloc (.cells #[.int .i64 0, .int .i64 0] 41)).alloc (.cells #[.slice A n cap, .int .i64 0, .int .u64 0] 72) = w1 by rw [hw1, hw0])
  have HB := Lib.hid hB.symm
  have hB1 : w.heap.size + 1 < B := by omega
  have hB0 : w.heap.size < B := by omega
  clear hw0 hw1 hB b0 z0 h rA rS
  go_enter Try.func32, Try.ntmps32
  go_wp2_with fail
  rw [HW.out, HB.out]
  refine (C_life B 0 w1 cu1 (by omega)).mono ?_; rintro e w2 ⟨L, rfl, hLI, cu2, g2⟩
  have c2' := Chg.of_grown g2
  obtain ⟨w3, hw3⟩ : ∃ w3, w3 = w2.alloc (.cells #[.int .i64 L.day, .int .i64 L.state, .int .i64 L.act, .int .i64 L.period, .int .i64 L.closed, .int .i64 L.holds] 25) := ⟨_, rfl⟩
  have rL : w3.rowIs w2.heap.size 25 6 (c6 L) := by rw [hw3]; exact row6_alloc w2 _ L
  have cu3 : Cu w3 B 100 := by rw [hw3]; exact cu2.alloc _
  have b3 : Below w.heap.size w w3 := by rw [hw3]; exact bel_alloc0 (bel_chg c2' (by omega) b1) _
  have q3 : w3.rowIs w.heap.size 25 6 (c6 zeroL) ∧ w3.rowIs (w.heap.size + 1) 41 2 (c2 0 0) := by
    rw [hw3]
    exact ⟨row_alloc (row_chg HR.out.1 c2' (.inl hB0)) _, row_alloc (row_chg HR.out.2 c2' (.inl hB1)) _⟩
  have hl2 : B < w2.heap.size := cu2.lt
  obtain ⟨gl, hgl⟩ : ∃ g, w2.heap.size = g := ⟨_, rfl⟩
  rw [hgl] at rL hl2
  have HQ := Lib.hid q3
  have HL := Lib.hid rL
  have HW3 := Lib.hid hw3.symm
  have HGL := Lib.hid hgl
  clear hw3 c2' g2 cu2 q3 rL hgl HR HW HB cu1 b1
  have r : ∀ W, Chg 0 gl w3 W → W.cell? ⟨gl, 0, none⟩ = some (.int .i64 L.day) ∧ W.cell? ⟨gl, 1, none⟩ = some (.int .i64 L.state) ∧ W.cell? ⟨gl, 2, none⟩ = some (.int .i64 L.act) ∧ W.cell? ⟨gl, 3, none⟩ = some (.int .i64 L.period) ∧ W.cell? ⟨gl, 4, none⟩ = some (.int .i64 L.closed) ∧ W.cell? ⟨gl, 5, none⟩ = some (.int .i64 L.holds) := fun W hW => by
    have h := row_chg HL.out hW (.inr (Nat.le_refl _))
    have x0 := (h).cell (i := 0) (by omega); have x1 := (h).cell (i := 1) (by omega); have x2 := (h).cell (i := 2) (by omega); have x3 := (h).cell (i := 3) (by omega); have x4 := (h).cell (i := 4) (by omega); have x5 := (h).cell (i := 5) (by omega); simp only [c6, if_true, if_false, Nat.reduceEqDiff, reduceCtorEq] at x0 x1 x2 x3 x4 x5
    exact ⟨x0, x1, x2, x3, x4, x5⟩
  have rr : ∀ W, Chg B (B + 1) w3 W → W.cell? ⟨w.heap.size, 0, none⟩ = some (.int .i64 0) ∧ W.cell? ⟨w.heap.size, 1, none⟩ = some (.int .i64 0) ∧ W.cell? ⟨w.heap.size, 2, none⟩ = some (.int .i64 0) ∧ W.cell? ⟨w.heap.size, 3, none⟩ = some (.int .i64 0) ∧ W.cell? ⟨w.heap.size, 4, none⟩ = some (.int .i64 0) ∧ W.cell? ⟨w.heap.size, 5, none⟩ = some (.int .i64 0) ∧
      W.frozen? ⟨w.heap.size, 0, none⟩ = false ∧ W.frozen? ⟨w.heap.size, 1, none⟩ = false ∧ W.frozen? ⟨w.heap.size, 2, none⟩ = false ∧ W.frozen? ⟨w.heap.size, 3, none⟩ = false ∧ W.frozen? ⟨w.heap.size, 4, none⟩ = false ∧ W.frozen? ⟨w.heap.size, 5, none⟩ = false ∧
      W.cell? ⟨w.heap.size + 1, 0, none⟩ = some (.int .i64 0) ∧ W.cell? ⟨w.heap.size + 1, 1, none⟩ = some (.int .i64 0) ∧ W.frozen? ⟨w.heap.size + 1, 0, none⟩ = false ∧ W.frozen? ⟨w.heap.size + 1, 1, none⟩ = false := fun W hW => by
    have h0 := row_chg HQ.out.1 hW (.inl hB0)
    have h1 := row_chg HQ.out.2 hW (.inl hB1)
    have y0 := (h0).cell (i := 0) (by omega); have y1 := (h0).cell (i := 1) (by omega); have y2 := (h0).cell (i := 2) (by omega); have y3 := (h0).cell (i := 3) (by omega); have y4 := (h0).cell (i := 4) (by omega); have y5 := (h0).cell (i := 5) (by omega); simp only [c6, if_true, if_false, Nat.reduceEqDiff, reduceCtorEq] at y0 y1 y2 y3 y4 y5
    exact ⟨y0, y1, y2, y3, y4, y5, h0.frozen 0, h0.frozen 1, h0.frozen 2, h0.frozen 3, h0.frozen 4, h0.frozen 5, h1.cell (i := 0) (by omega), h1.cell (i := 1) (by omega), h1.frozen 0, h1.frozen 1⟩
  have RR := Lib.hid rr
  have hP := hLI.2.2.2.1
  have HLI := Lib.hid hLI
  clear rr hLI
  go_upto_region 3 with fail
  rw [HW3.out, HGL.out]
  go_region_held3 (fun W => Chg 0 gl w3 W) ((repeat (first | with_reducible assumption | with_reducible exact Chg.refl _ _ _ | with_reducible refine Chg.drew ?_ | with_reducible refine Chg.setCell ?_ (Nat.zero_le _) (by first | omega | (simp; done) | (simp; omega)) _))) ((go_at_call 48; refine (C_lifeStep B 100 _ _ _ _ _ _ _ cu3.drew (by omega) hP).mono ?_; rintro e w4 ⟨k, x, rfl, hx, cu4, g4⟩; have hq : Chg B (B + 1) w3 w4 := (Chg.refl _ _ _).drew.trans (Chg.of_grown g4); have hq0 : Chg 0 gl w3 w4 := hq.mono (by omega) (by omega); have hb4 : Below w.heap.size w w4 := bel_chg hq (by omega) b3; obtain ⟨y0, y1, y2, y3, y4, y5, v0, v1, v2, v3, v4, v5, s0, s1, t0, t1⟩ := RR.out w4 hq))
  all_goals go_wp2
  all_goals (go_light; refine bodyPost_ret (by simp (maxDischargeDepth := 3) [results, Try.results32, go_sem, *]; try rfl) rfl ?_; refine ⟨L, k, x, rfl, HLI.out, hx, ?_⟩)
  all_goals (repeat (first | with_reducible assumption | with_reducible refine Below.drew ?_ | with_reducible refine bel_alloc0 ?_ _ | with_reducible refine Below.setCell ?_ (by first | omega | (simp; done) | (simp; omega)) _))
set_option maxHeartbeats 1000000 in
theorem C_DrawNewLife (v : Value) (n : Nat) (w : World) (h : SU w v n) :
    Calls Try.prog 34 #[v] w fun e w' => ∃ a p : Int, e = .returned (.tuple #[.int .i64 a, .int .i64 p]) ∧ Below w.heap.size w w' := by
  obtain ⟨A, cap, rfl⟩ := h.form
  have cu1 := Cu.start h 72
  obtain ⟨w1, hw1⟩ : ∃ w1, w1 = w.alloc (.cells #[.slice A n cap, .int .i64 0, .int .u64 0] 72) := ⟨_, rfl⟩
  have b1 : Below w.heap.size w w1 := by rw [hw1]; (repeat (first | with_reducible exact Below.refl _ _ | with_reducible exact below_regrown _ _ _ | with_reducible refine bel_step0 (by assumption) ?_ | with_reducible refine bel_alloc0 ?_ _ | with_reducible refine bel_regrown0 ?_ _ _ | with_reducible refine bel_regrown ?_ (by first | omega | (simp; done) | (simp; omega)) _ _ | with_reducible refine below_drewN ?_ _ | with_reducible refine Below.drew ?_ | with_reducible refine Below.alloc ?_ (by first | omega | (simp; done) | (simp; omega)) _ | with_reducible refine Below.setCell ?_ (by first | omega | (simp; done) | (simp; omega)) _ | with_reducible refine bel_step (by assumption) (by first | omega | (simp; done) | (simp; omega)) ?_ | with_reducible refine bel_grown (by assumption) (by first | omega | (simp; done) | (simp; omega)) (by first | omega | (simp; done) | (simp; omega)) ?_))
  rw [← hw1] at cu1
  have HZ1 := Lib.hid (show w1.heap.size = w.heap.size + 1 by rw [hw1]; simp)
  have HW := Lib.hid hw1.symm
  clear hw1 h
  go_enter Try.func34, Try.ntmps34
  go_wp2_with fail
  rw [HW.out]
  refine (C_amongA w.heap.size 0 _ _ _ w1 HZ1.out cu1 (by omega) (by rfl) (by omega) (by omega) (by rfl)).mono ?_; rintro e w2 ⟨a, rfl, _, cu2, g2⟩
  have b2 : Below w.heap.size w w2 := bel_chg (Chg.of_grown g2) (Nat.le_refl _) (bel_alloc0 b1 _)
  clear g2
  go_wp2_with fail
  refine (C_amongA w.heap.size 1 _ _ _ w2 (by rfl) cu2 (by omega) (by rfl) (by omega) (by omega) (by rfl)).mono ?_; rintro e w3 ⟨p, rfl, _, cu3, g3⟩
  have b3 : Below w.heap.size w w3 := bel_chg (Chg.of_grown g3) (Nat.le_refl _) (bel_alloc0 b2 _)
  clear g3
  go_wp2_with fail
  go_ret2
  exact ⟨a, p, rfl, b3⟩
end Go.Proofs.Ytpkgfpgccfnkpaa
