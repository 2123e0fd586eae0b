/- The law FnExactStepLife returns true, whatever its arguments, and leaves them as they were. No condition. -/
import Derived.Test.YtpkgfpgccfnkpaaRunB
import Derived.Deep.RegionHeld3
import Derived.Deep.DrawnRows
namespace Go.Proofs.Ytpkgfpgccfnkpaa.lawFnExactStepLife
open Go.ChangeShapes Go.WideShapes Go.ChangeAt Go.RowKit Go.Deep Go.Joins
open Go.ChangeMaps (open_string shut_string)
set_option linter.unusedVariables false
set_option linter.unusedSimpArgs false
/-- What the first and the second statement leave. -/
def Cut (wb : World) (y : Lf) (ok1 : Bool) (s5 s6 : Value) (wx : World) : Prop :=
  ∃ g : Nat, s5 = .pointer (some ⟨g, 0, none⟩) ∧ s6 = .bool ok1 ∧ wx.rowIs g 25 6 (c6 y) ∧ Below wb.heap.size wb wx
theorem bel_set6 {wb W : World} {g : Nat} (l : Lf) (hb : Below wb.heap.size wb W) (h : wb.heap.size ≤ g) :
    Below wb.heap.size wb ((((((W.setCell ⟨g, 0, none⟩ (.int .i64 l.day)).setCell ⟨g, 1, none⟩ (.int .i64 l.state)).setCell ⟨g, 2, none⟩ (.int .i64 l.act)).setCell ⟨g, 3, none⟩ (.int .i64 l.period)).setCell ⟨g, 4, none⟩ (.int .i64 l.closed)).setCell ⟨g, 5, none⟩ (.int .i64 l.holds)) :=
  (((((hb.setCell h _).setCell h _).setCell h _).setCell h _).setCell h _).setCell h _
theorem row2_alloc (w : World) (t : TypeId) (k v : Int) : (w.alloc (.cells #[.int .i64 k, .int .i64 v] t)).rowIs w.heap.size t 2 (c2 k v) :=
  World.rowIs_alloc w #[.int .i64 k, .int .i64 v] t (c2 k v) (fun i hi => by
    match i, hi with
    | 0, _ => rfl
    | 1, _ => rfl
    | n + 2, h => exact absurd h (by simp))
set_option maxHeartbeats 8000000 in
theorem walk0 (day state act period closed holds : Int) (k v : Int) (w : World) (d1 s1 a1 p1 c1 h1 : Int) (ok1 : Bool)
    (CS : ∀ W, Calls Try.prog 23 #[.agg #[.int .i64 day, .int .i64 state, .int .i64 act, .int .i64 period, .int .i64 closed, .int .i64 holds], .agg #[.int .i64 k, .int .i64 v]] W fun e w' => e = .returned (.tuple #[.agg #[.int .i64 d1, .int .i64 s1, .int .i64 a1, .int .i64 p1, .int .i64 c1, .int .i64 h1], .bool ok1]) ∧ Below W.heap.size W w')
    (CI : ∀ W, Calls Try.prog 25 #[.agg #[.int .i64 day, .int .i64 state, .int .i64 act, .int .i64 period, .int .i64 closed, .int .i64 holds], .agg #[.int .i64 k, .int .i64 v]] W fun e w' => e = .returned (.tuple #[.agg #[.int .i64 d1, .int .i64 s1, .int .i64 a1, .int .i64 p1, .int .i64 c1, .int .i64 h1], .bool ok1]) ∧ Below W.heap.size W w')
    (CE : ∀ W, Calls Try.prog 18 #[.agg #[.int .i64 d1, .int .i64 s1, .int .i64 a1, .int .i64 p1, .int .i64 c1, .int .i64 h1], .agg #[.int .i64 d1, .int .i64 s1, .int .i64 a1, .int .i64 p1, .int .i64 c1, .int .i64 h1]] W fun e w' => e = .returned (.bool true) ∧ Below W.heap.size W w') :
    Calls Try.prog 8 #[.agg #[.int .i64 day, .int .i64 state, .int .i64 act, .int .i64 period, .int .i64 closed, .int .i64 holds], .agg #[.int .i64 k, .int .i64 v]] w fun e w' => e = .returned (.bool true) ∧ Below w.heap.size w w' := by
  have HC := Lib.hid (And.intro CS (And.intro CI CE))
  clear CS CI CE
  go_enter Try.func8, Try.ntmps8
  go_upto_region 1 with fail
  obtain ⟨wb, hwb⟩ : ∃ wb, (w.alloc (.cells #[.int .i64 day, .int .i64 state, .int .i64 act, .int .i64 period, .int .i64 closed, .int .i64 holds] 23)).alloc (.cells #[.int .i64 k, .int .i64 v] 39) = wb := ⟨_, rfl⟩
  have hB0 : Below w.heap.size w wb := by subst hwb; (repeat (first | with_reducible exact Below.refl _ _ | with_reducible exact below_regrown _ _ _ | with_reducible refine bel_step0 (by assumption) ?_ | with_reducible refine bel_alloc0 ?_ _ | with_reducible refine bel_regrown0 ?_ _ _ | with_reducible refine bel_regrown ?_ (by first | omega | (simp; done) | (simp; omega)) _ _ | with_reducible refine below_drewN ?_ _ | with_reducible refine Below.drew ?_ | with_reducible refine Below.alloc ?_ (by first | omega | (simp; done) | (simp; omega)) _ | with_reducible refine Below.setCell ?_ (by first | omega | (simp; done) | (simp; omega)) _ | with_reducible refine bel_step (by assumption) (by first | omega | (simp; done) | (simp; omega)) ?_ | with_reducible refine bel_grown (by assumption) (by first | omega | (simp; done) | (simp; omega)) (by first | omega | (simp; done) | (simp; omega)) ?_))
  have ql : wb.rowIs w.heap.size 23 6 (c6 (⟨day, state, act, period, closed, holds⟩ : Lf)) := by
    rw [← hwb]
    have := row6_alloc w 23 (⟨day, state, act, period, closed, holds⟩ : Lf)
    exact this.of_block (Below.heap_alloc _ _ _ this.lt)
  have qs : wb.rowIs (w.heap.size + 1) 39 2 (c2 k v) := by
    rw [← hwb]
    have := row2_alloc (w.alloc (.cells #[.int .i64 day, .int .i64 state, .int .i64 act, .int .i64 period, .int .i64 closed, .int .i64 holds] 23)) 39 k v
    rwa [World.size_alloc] at this
  rw [hwb]
  clear hwb
  have HB0 := Lib.hid hB0
  have QL := Lib.hid ql
  have QS := Lib.hid qs
  have q0 := (ql).cell (i := 0) (by omega); have q1 := (ql).cell (i := 1) (by omega); have q2 := (ql).cell (i := 2) (by omega); have q3 := (ql).cell (i := 3) (by omega); have q4 := (ql).cell (i := 4) (by omega); have q5 := (ql).cell (i := 5) (by omega); simp only [c6, if_true, if_false, Nat.reduceEqDiff, reduceCtorEq] at q0 q1 q2 q3 q4 q5
  have q6 := qs.cell (i := 0) (by omega)
  have q7 := qs.cell (i := 1) (by omega)
  simp only [c2, if_true, if_false, Nat.reduceEqDiff, reduceCtorEq] at q6 q7
  (have r0 : ∀ W, Below wb.heap.size wb W → W.cell? ⟨w.heap.size, 0, none⟩ = some (.int .i64 day) := fun W hW => (hW.cell (p := ⟨w.heap.size, 0, none⟩) ql.lt).trans q0; have r1 : ∀ W, Below wb.heap.size wb W → W.cell? ⟨w.heap.size, 1, none⟩ = some (.int .i64 state) := fun W hW => (hW.cell (p := ⟨w.heap.size, 1, none⟩) ql.lt).trans q1; have r2 : ∀ W, Below wb.heap.size wb W → W.cell? ⟨w.heap.size, 2, none⟩ = some (.int .i64 act) := fun W hW => (hW.cell (p := ⟨w.heap.size, 2, none⟩) ql.lt).trans q2; have r3 : ∀ W, Below wb.heap.size wb W → W.cell? ⟨w.heap.size, 3, none⟩ = some (.int .i64 period) := fun W hW => (hW.cell (p := ⟨w.heap.size, 3, none⟩) ql.lt).trans q3; have r4 : ∀ W, Below wb.heap.size wb W → W.cell? ⟨w.heap.size, 4, none⟩ = some (.int .i64 closed) := fun W hW => (hW.cell (p := ⟨w.heap.size, 4, none⟩) ql.lt).trans q4; have r5 : ∀ W, Below wb.heap.size wb W → W.cell? ⟨w.heap.size, 5, none⟩ = some (.int .i64 holds) := fun W hW => (hW.cell (p := ⟨w.heap.size, 5, none⟩) ql.lt).trans q5; have r6 : ∀ W, Below wb.heap.size wb W → W.cell? ⟨w.heap.size + 1, 0, none⟩ = some (.int .i64 k) := fun W hW => (hW.cell (p := ⟨w.heap.size + 1, 0, none⟩) qs.lt).trans q6; have r7 : ∀ W, Below wb.heap.size wb W → W.cell? ⟨w.heap.size + 1, 1, none⟩ = some (.int .i64 v) := fun W hW => (hW.cell (p := ⟨w.heap.size + 1, 1, none⟩) qs.lt).trans q7)
  clear q0 q1 q2 q3 q4 q5 q6 q7 hB0 ql qs
  go_cut [5, 6] (fun s5 s6 wx => Cut wb ⟨d1, s1, a1, p1, c1, h1⟩ ok1 s5 s6 wx)
  case first =>
    go_region_held3 (fun W => Below wb.heap.size wb W) (((repeat (first | with_reducible exact Below.refl _ _ | with_reducible exact below_regrown _ _ _ | with_reducible refine bel_step0 (by assumption) ?_ | with_reducible refine bel_alloc0 ?_ _ | with_reducible refine bel_regrown0 ?_ _ _ | with_reducible refine bel_regrown ?_ (by first | omega | (simp; done) | (simp; omega)) _ _ | with_reducible refine below_drewN ?_ _ | with_reducible refine Below.drew ?_ | with_reducible refine Below.alloc ?_ (by first | omega | (simp; done) | (simp; omega)) _ | with_reducible refine Below.setCell ?_ (by first | omega | (simp; done) | (simp; omega)) _ | with_reducible refine bel_step (by assumption) (by first | omega | (simp; done) | (simp; omega)) ?_ | with_reducible refine bel_grown (by assumption) (by first | omega | (simp; done) | (simp; omega)) (by first | omega | (simp; done) | (simp; omega)) ?_)))) (first | (go_at_call 12; refine (C_toLife _ _ _ _ _ _ _).mono ?_; rintro e u1 ⟨rfl, hb1⟩; have hs1 : wb.heap.size ≤ u1.heap.size := (by have := hb1.size; (try simp at this); omega); (try (with_reducible have HN1 := Lib.hid ((row6_alloc wb.drew 25 zeroL).of_block (hb1.block _ (by simp [zeroL])))))) | (go_at_call 24; refine (C_toLifeStep _ _ _).mono ?_; rintro e u2 ⟨rfl, hb2⟩; have hs2 : u1.heap.size ≤ u2.heap.size := (by have := hb2.size; (try simp at this); omega); (first | (with_reducible have HN2 := Lib.hid (HN1.out.of_block (hb2.block _ HN1.out.lt))) | (with_reducible have HN2 := Lib.hid ((row6_alloc u1 25 zeroL).of_block (hb2.block _ (by simp [zeroL])))) | skip)) | (go_at_call 23; refine (HC.out.1 _).mono ?_; rintro e u3 ⟨rfl, hb3⟩; have hs3 : u2.heap.size ≤ u3.heap.size := (by have := hb3.size; (try simp at this); omega); (try ((first | (with_reducible have hn3 := HN2.out.of_block (hb3.block _ HN2.out.lt)) | (with_reducible have hn3 := (row6_alloc u2 25 zeroL).of_block (hb3.block _ (by simp [zeroL])))); (try rw [World.size_drew] at hn3); have n0 := (hn3).cell (i := 0) (by omega); have n1 := (hn3).cell (i := 1) (by omega); have n2 := (hn3).cell (i := 2) (by omega); have n3 := (hn3).cell (i := 3) (by omega); have n4 := (hn3).cell (i := 4) (by omega); have n5 := (hn3).cell (i := 5) (by omega); simp only [c6, if_true, if_false, Nat.reduceEqDiff, reduceCtorEq] at n0 n1 n2 n3 n4 n5; have m0 := hn3.frozen 0; have m1 := hn3.frozen 1; have m2 := hn3.frozen 2; have m3 := hn3.frozen 3; have m4 := hn3.frozen 4; have m5 := hn3.frozen 5; have HN3 := Lib.hid hn3; clear hn3))))
    all_goals (go_wp2_with fail; go_meet; clear r0 r1 r2 r3 r4 r5 r6 r7)
    · exact ⟨_, rfl, rfl, row6_alloc u3 _ ⟨d1, s1, a1, p1, c1, h1⟩, by (repeat (first | with_reducible exact Below.refl _ _ | with_reducible exact below_regrown _ _ _ | with_reducible refine bel_step0 (by assumption) ?_ | with_reducible refine bel_alloc0 ?_ _ | with_reducible refine bel_regrown0 ?_ _ _ | with_reducible refine bel_regrown ?_ (by first | omega | (simp; done) | (simp; omega)) _ _ | with_reducible refine below_drewN ?_ _ | with_reducible refine Below.drew ?_ | with_reducible refine Below.alloc ?_ (by first | omega | (simp; done) | (simp; omega)) _ | with_reducible refine Below.setCell ?_ (by first | omega | (simp; done) | (simp; omega)) _ | with_reducible refine bel_step (by assumption) (by first | omega | (simp; done) | (simp; omega)) ?_ | with_reducible refine bel_grown (by assumption) (by first | omega | (simp; done) | (simp; omega)) (by first | omega | (simp; done) | (simp; omega)) ?_))⟩
    all_goals (have hbb : Below wb.heap.size wb u3 := (by (repeat (first | with_reducible exact Below.refl _ _ | with_reducible exact below_regrown _ _ _ | with_reducible refine bel_step0 (by assumption) ?_ | with_reducible refine bel_alloc0 ?_ _ | with_reducible refine bel_regrown0 ?_ _ _ | with_reducible refine bel_regrown ?_ (by first | omega | (simp; done) | (simp; omega)) _ _ | with_reducible refine below_drewN ?_ _ | with_reducible refine Below.drew ?_ | with_reducible refine Below.alloc ?_ (by first | omega | (simp; done) | (simp; omega)) _ | with_reducible refine Below.setCell ?_ (by first | omega | (simp; done) | (simp; omega)) _ | with_reducible refine bel_step (by assumption) (by first | omega | (simp; done) | (simp; omega)) ?_ | with_reducible refine bel_grown (by assumption) (by first | omega | (simp; done) | (simp; omega)) (by first | omega | (simp; done) | (simp; omega)) ?_))); exact ⟨_, rfl, rfl, row6_set ⟨d1, s1, a1, p1, c1, h1⟩ HN3.out, bel_set6 ⟨d1, s1, a1, p1, c1, h1⟩ hbb (by omega)⟩)
  case rest =>
    rename World => wx
    clear r0 r1 r2 r3 r4 r5 r6 r7
    obtain ⟨g, rfl, rfl, hg, hbx⟩ := hcut
    have ql := QL.out.of_block (hbx.block _ QL.out.lt)
    have qs := QS.out.of_block (hbx.block _ QS.out.lt)
    have HBX := Lib.hid (bel_step0 hbx HB0.out)
    have HG := Lib.hid hg
    clear QL QS HB0 hbx hg
    have q0 := (ql).cell (i := 0) (by omega); have q1 := (ql).cell (i := 1) (by omega); have q2 := (ql).cell (i := 2) (by omega); have q3 := (ql).cell (i := 3) (by omega); have q4 := (ql).cell (i := 4) (by omega); have q5 := (ql).cell (i := 5) (by omega); simp only [c6, if_true, if_false, Nat.reduceEqDiff, reduceCtorEq] at q0 q1 q2 q3 q4 q5
    have q6 := qs.cell (i := 0) (by omega)
    have q7 := qs.cell (i := 1) (by omega)
    simp only [c2, if_true, if_false, Nat.reduceEqDiff, reduceCtorEq] at q6 q7
    (have r0 : ∀ W, Below wx.heap.size wx W → W.cell? ⟨w.heap.size, 0, none⟩ = some (.int .i64 day) := fun W hW => (hW.cell (p := ⟨w.heap.size, 0, none⟩) ql.lt).trans q0; have r1 : ∀ W, Below wx.heap.size wx W → W.cell? ⟨w.heap.size, 1, none⟩ = some (.int .i64 state) := fun W hW => (hW.cell (p := ⟨w.heap.size, 1, none⟩) ql.lt).trans q1; have r2 : ∀ W, Below wx.heap.size wx W → W.cell? ⟨w.heap.size, 2, none⟩ = some (.int .i64 act) := fun W hW => (hW.cell (p := ⟨w.heap.size, 2, none⟩) ql.lt).trans q2; have r3 : ∀ W, Below wx.heap.size wx W → W.cell? ⟨w.heap.size, 3, none⟩ = some (.int .i64 period) := fun W hW => (hW.cell (p := ⟨w.heap.size, 3, none⟩) ql.lt).trans q3; have r4 : ∀ W, Below wx.heap.size wx W → W.cell? ⟨w.heap.size, 4, none⟩ = some (.int .i64 closed) := fun W hW => (hW.cell (p := ⟨w.heap.size, 4, none⟩) ql.lt).trans q4; have r5 : ∀ W, Below wx.heap.size wx W → W.cell? ⟨w.heap.size, 5, none⟩ = some (.int .i64 holds) := fun W hW => (hW.cell (p := ⟨w.heap.size, 5, none⟩) ql.lt).trans q5; have r6 : ∀ W, Below wx.heap.size wx W → W.cell? ⟨w.heap.size + 1, 0, none⟩ = some (.int .i64 k) := fun W hW => (hW.cell (p := ⟨w.heap.size + 1, 0, none⟩) qs.lt).trans q6; have r7 : ∀ W, Below wx.heap.size wx W → W.cell? ⟨w.heap.size + 1, 1, none⟩ = some (.int .i64 v) := fun W hW => (hW.cell (p := ⟨w.heap.size + 1, 1, none⟩) qs.lt).trans q7)
    clear q0 q1 q2 q3 q4 q5 q6 q7 ql qs
    go_upto_region 2 with fail
    go_cut [7, 8] (fun s7 s8 wy => Cut wx ⟨d1, s1, a1, p1, c1, h1⟩ ok1 s7 s8 wy)
    case first =>
      go_region_held3 (fun W => Below wx.heap.size wx W) (((repeat (first | with_reducible exact Below.refl _ _ | with_reducible exact below_regrown _ _ _ | with_reducible refine bel_step0 (by assumption) ?_ | with_reducible refine bel_alloc0 ?_ _ | with_reducible refine bel_regrown0 ?_ _ _ | with_reducible refine bel_regrown ?_ (by first | omega | (simp; done) | (simp; omega)) _ _ | with_reducible refine below_drewN ?_ _ | with_reducible refine Below.drew ?_ | with_reducible refine Below.alloc ?_ (by first | omega | (simp; done) | (simp; omega)) _ | with_reducible refine Below.setCell ?_ (by first | omega | (simp; done) | (simp; omega)) _ | with_reducible refine bel_step (by assumption) (by first | omega | (simp; done) | (simp; omega)) ?_ | with_reducible refine bel_grown (by assumption) (by first | omega | (simp; done) | (simp; omega)) (by first | omega | (simp; done) | (simp; omega)) ?_)))) (first | (go_at_call 12; refine (C_toLife _ _ _ _ _ _ _).mono ?_; rintro e u1 ⟨rfl, hb1⟩; have hs1 : wx.heap.size ≤ u1.heap.size := (by have := hb1.size; (try simp at this); omega); (try (with_reducible have HN1 := Lib.hid ((row6_alloc wx.drew 25 zeroL).of_block (hb1.block _ (by simp [zeroL])))))) | (go_at_call 24; refine (C_toLifeStep _ _ _).mono ?_; rintro e u2 ⟨rfl, hb2⟩; have hs2 : u1.heap.size ≤ u2.heap.size := (by have := hb2.size; (try simp at this); omega); (first | (with_reducible have HN2 := Lib.hid (HN1.out.of_block (hb2.block _ HN1.out.lt))) | (with_reducible have HN2 := Lib.hid ((row6_alloc u1 25 zeroL).of_block (hb2.block _ (by simp [zeroL])))) | skip)) | (go_at_call 25; refine (HC.out.2.1 _).mono ?_; rintro e u3 ⟨rfl, hb3⟩; have hs3 : u2.heap.size ≤ u3.heap.size := (by have := hb3.size; (try simp at this); omega); (try ((first | (with_reducible have hn3 := HN2.out.of_block (hb3.block _ HN2.out.lt)) | (with_reducible have hn3 := (row6_alloc u2 25 zeroL).of_block (hb3.block _ (by simp [zeroL])))); (try rw [World.size_drew] at hn3); have n0 := (hn3).cell (i := 0) (by omega); have n1 := (hn3).cell (i := 1) (by omega); have n2 := (hn3).cell (i := 2) (by omega); have n3 := (hn3).cell (i := 3) (by omega); have n4 := (hn3).cell (i := 4) (by omega); have n5 := (hn3).cell (i := 5) (by omega); simp only [c6, if_true, if_false, Nat.reduceEqDiff, reduceCtorEq] at n0 n1 n2 n3 n4 n5; have m0 := hn3.frozen 0; have m1 := hn3.frozen 1; have m2 := hn3.frozen 2; have m3 := hn3.frozen 3; have m4 := hn3.frozen 4; have m5 := hn3.frozen 5; have HN3 := Lib.hid hn3; clear hn3))))
      all_goals (go_wp2_with fail; go_meet; clear r0 r1 r2 r3 r4 r5 r6 r7)
      · exact ⟨_, rfl, rfl, row6_alloc u3 _ ⟨d1, s1, a1, p1, c1, h1⟩, by (repeat (first | with_reducible exact Below.refl _ _ | with_reducible exact below_regrown _ _ _ | with_reducible refine bel_step0 (by assumption) ?_ | with_reducible refine bel_alloc0 ?_ _ | with_reducible refine bel_regrown0 ?_ _ _ | with_reducible refine bel_regrown ?_ (by first | omega | (simp; done) | (simp; omega)) _ _ | with_reducible refine below_drewN ?_ _ | with_reducible refine Below.drew ?_ | with_reducible refine Below.alloc ?_ (by first | omega | (simp; done) | (simp; omega)) _ | with_reducible refine Below.setCell ?_ (by first | omega | (simp; done) | (simp; omega)) _ | with_reducible refine bel_step (by assumption) (by first | omega | (simp; done) | (simp; omega)) ?_ | with_reducible refine bel_grown (by assumption) (by first | omega | (simp; done) | (simp; omega)) (by first | omega | (simp; done) | (simp; omega)) ?_))⟩
      all_goals (have hbb : Below wx.heap.size wx u3 := (by (repeat (first | with_reducible exact Below.refl _ _ | with_reducible exact below_regrown _ _ _ | with_reducible refine bel_step0 (by assumption) ?_ | with_reducible refine bel_alloc0 ?_ _ | with_reducible refine bel_regrown0 ?_ _ _ | with_reducible refine bel_regrown ?_ (by first | omega | (simp; done) | (simp; omega)) _ _ | with_reducible refine below_drewN ?_ _ | with_reducible refine Below.drew ?_ | with_reducible refine Below.alloc ?_ (by first | omega | (simp; done) | (simp; omega)) _ | with_reducible refine Below.setCell ?_ (by first | omega | (simp; done) | (simp; omega)) _ | with_reducible refine bel_step (by assumption) (by first | omega | (simp; done) | (simp; omega)) ?_ | with_reducible refine bel_grown (by assumption) (by first | omega | (simp; done) | (simp; omega)) (by first | omega | (simp; done) | (simp; omega)) ?_))); exact ⟨_, rfl, rfl, row6_set ⟨d1, s1, a1, p1, c1, h1⟩ HN3.out, bel_set6 ⟨d1, s1, a1, p1, c1, h1⟩ hbb (by omega)⟩)
    case rest =>
      rename World => wy
      clear r0 r1 r2 r3 r4 r5 r6 r7
      obtain ⟨g', rfl, rfl, hg', hby⟩ := hcut
      have hg := HG.out.of_block (hby.block _ HG.out.lt)
      have HBY := Lib.hid (bel_step0 hby HBX.out)
      clear HBX hby HG
      have x0 := (hg).cell (i := 0) (by omega); have x1 := (hg).cell (i := 1) (by omega); have x2 := (hg).cell (i := 2) (by omega); have x3 := (hg).cell (i := 3) (by omega); have x4 := (hg).cell (i := 4) (by omega); have x5 := (hg).cell (i := 5) (by omega); simp only [c6, if_true, if_false, Nat.reduceEqDiff, reduceCtorEq] at x0 x1 x2 x3 x4 x5
      have y0 := (hg').cell (i := 0) (by omega); have y1 := (hg').cell (i := 1) (by omega); have y2 := (hg').cell (i := 2) (by omega); have y3 := (hg').cell (i := 3) (by omega); have y4 := (hg').cell (i := 4) (by omega); have y5 := (hg').cell (i := 5) (by omega); simp only [c6, if_true, if_false, Nat.reduceEqDiff, reduceCtorEq] at y0 y1 y2 y3 y4 y5
      clear hg hg'
      go_wp2_with (go_at_call 18; refine (HC.out.2.2 _).mono ?_; rintro e w' ⟨rfl, hb'⟩)
      go_ret
      exact ⟨rfl, HBY.out.trans (hb'.mono HBY.out.size)⟩
theorem walk (day state act period closed holds : Int) (k v : Int) (w : World) (_ : I64 day) (_ : I64 state) (_ : I64 act) (_ : I64 period) (_ : I64 closed) (_ : I64 holds) (_ : I64 k) (hi : I64 v) :
    Calls Try.prog 8 #[.agg #[.int .i64 day, .int .i64 state, .int .i64 act, .int .i64 period, .int .i64 closed, .int .i64 holds], .agg #[.int .i64 k, .int .i64 v]] w fun e w' => e = .returned (.bool true) ∧ Below w.heap.size w w' := by
  refine walk0 day state act period closed holds k v w (stepL (⟨day, state, act, period, closed, holds⟩ : Lf) k v).day (stepL (⟨day, state, act, period, closed, holds⟩ : Lf) k v).state (stepL (⟨day, state, act, period, closed, holds⟩ : Lf) k v).act (stepL (⟨day, state, act, period, closed, holds⟩ : Lf) k v).period (stepL (⟨day, state, act, period, closed, holds⟩ : Lf) k v).closed (stepL (⟨day, state, act, period, closed, holds⟩ : Lf) k v).holds (canL (⟨day, state, act, period, closed, holds⟩ : Lf) k v)
    (fun W => C_StepLifeS _ _ _ _ _ _ _ _ W hi) (fun W => C_StepLifeI _ _ _ _ _ _ _ _ W) (fun W => (C_eqLife _ _ _ _ _ _ _ _ _ _ _ _ W).mono fun e w' hh => ⟨hh.1.trans (by simp [Lf.eq]), hh.2⟩)
set_option maxRecDepth 100000 in
theorem lifted (os : Os) (started : os.Started) (H : Type) (enc : TypeId × Value → H) :
    ReturnsInHanded {} Try.checked os 8 .any (Rows.fnExactStepLifeSpec.pre6 enc Try.prog Try.f8 Rows.fnExactStepLifeRow.domain false) (Rows.fnExactStepLifeSpec.post enc Try.prog Try.f8 false true false false) := by
  refine returnsInHanded_of_change (C := Try.checked) own started (by kernel_rfl) Try.func8
    (ChangeSpec.witness6 (enc := enc) (C := Try.checked) false ⟨#[], #[.agg #[.int .i64 0, .int .i64 0, .int .i64 0, .int .i64 0, .int .i64 0, .int .i64 0], .agg #[.int .i64 0, .int .i64 0]], []⟩ 8 (by kernel_rfl) (by kernel_rfl) (by kernel_rfl) (by kernel_rfl)) ?_
  intro W base args ds gs before hval0 hW hcnd _
  have hval : ∀ (j : Nat) t v, Try.f8.params[j]? = some t → args[j]? = some v → Value.okWide Try.prog W .any base t v := hval0
  have hW' := hW
  obtain ⟨p, q, hA0, hV, rfl, hfz, hnd⟩ := hW
  have hA : DataW.TrodAll enc Try.prog W 0 (fun _ => true) true Try.f8.params.toList args.toList ds p := hA0
  rw [Try.params8] at hA hval
  obtain ⟨v0, vs0, d0, ds0, p0, q0, hargs, rfl, rfl, h0, r0⟩ := trodAll_cons hA
  obtain ⟨v1, vs1, d1, ds1, p1, q1, rfl, rfl, rfl, h1, r1⟩ := trodAll_cons r0
  obtain ⟨rfl, rfl, rfl⟩ := trodAll_nil r1
  obtain rfl : args = #[v0, v1] := by cases args; simp_all
  obtain ⟨rfl, rfl⟩ := trodVars_none hV
  have k0 := h0
  have lt0 : ∀ x ∈ p0, x.block < W.heap.size := by obtain ⟨m, hm⟩ := k0; exact DataW.trod_lt m _ _ _ hm
  have k1 := h1
  have lt1 : ∀ x ∈ p1, x.block < W.heap.size := by obtain ⟨m, hm⟩ := k1; exact DataW.trod_lt m _ _ _ hm
  obtain ⟨x0_0, x0_1, x0_2, x0_3, x0_4, x0_5, y0_0, y0_1, y0_2, y0_3, y0_4, y0_5, _, rfl, _, _, t0_0, t0_1, t0_2, t0_3, t0_4, t0_5⟩ := open_agg6 Try.underlying23 (by kernel_rfl) (by kernel_rfl) (hval 0 23 v0 rfl rfl) h0
  obtain ⟨n0_0, e, _, b0_0⟩ := DataW.trod_int Try.underlying3 t0_0; simp only [List.cons.injEq, and_true] at e; subst e
  obtain ⟨n0_1, e, _, b0_1⟩ := DataW.trod_int Try.underlying3 t0_1; simp only [List.cons.injEq, and_true] at e; subst e
  obtain ⟨n0_2, e, _, b0_2⟩ := DataW.trod_int Try.underlying3 t0_2; simp only [List.cons.injEq, and_true] at e; subst e
  obtain ⟨n0_3, e, _, b0_3⟩ := DataW.trod_int Try.underlying3 t0_3; simp only [List.cons.injEq, and_true] at e; subst e
  obtain ⟨n0_4, e, _, b0_4⟩ := DataW.trod_int Try.underlying3 t0_4; simp only [List.cons.injEq, and_true] at e; subst e
  obtain ⟨n0_5, e, _, b0_5⟩ := DataW.trod_int Try.underlying3 t0_5; simp only [List.cons.injEq, and_true] at e; subst e
  obtain ⟨x1_0, x1_1, y1_0, y1_1, _, rfl, _, _, t1_0, t1_1⟩ := open_agg2 Try.underlying39 (by kernel_rfl) (by kernel_rfl) (hval 1 39 v1 rfl rfl) h1
  obtain ⟨n1_0, e, _, b1_0⟩ := DataW.trod_int Try.underlying3 t1_0; simp only [List.cons.injEq, and_true] at e; subst e
  obtain ⟨n1_1, e, _, b1_1⟩ := DataW.trod_int Try.underlying3 t1_1; simp only [List.cons.injEq, and_true] at e; subst e
  clear hA0 hval0
  refine (walk n0_0 n0_1 n0_2 n0_3 n0_4 n0_5 n1_0 n1_1 W (i64_of_wf b0_0) (i64_of_wf b0_1) (i64_of_wf b0_2) (i64_of_wf b0_3) (i64_of_wf b0_4) (i64_of_wf b0_5) (i64_of_wf b1_0) (i64_of_wf b1_1)).mono fun e W' ⟨he, bel⟩ => ?_
  subst he
  exact ⟨_, rfl, _, _, _, [], _, [], hW', trodAll_mk1 (shut_bool Try.underlying4 _), (trodAll_cons_mk (Below.trod laidOut (by kernel_rfl) (of_decide_eq_true (by kernel_rfl)) k0 bel lt0) (trodAll_cons_mk (Below.trod laidOut (by kernel_rfl) (of_decide_eq_true (by kernel_rfl)) k1 bel lt1) trodAll_mk0)), rfl, bel.frame _, fun h => by cases h⟩

theorem proved : Rows.FnExactStepLifeSaid :=
  OpenClaim.holds_of_wide 8 Try.f8 rfl rfl rfl rfl rfl rfl rfl ⟨rfl, rfl, rfl, rfl, rfl⟩ rfl rfl rfl rfl rfl (by kernel_rfl) Try.func8 (by kernel_rfl)
    (of_decide_eq_true (by kernel_rfl)) (by unfold Func.isWrapper; first | (rw [if_pos (by decide +kernel)]; kernel_rfl) | (rw [if_neg (by decide +kernel)]; exact ⟨rfl, rfl⟩))
    (fun os started H enc _ => lifted os started H enc)
#print axioms proved
end Go.Proofs.Ytpkgfpgccfnkpaa.lawFnExactStepLife
