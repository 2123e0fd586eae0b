/- The law FnExactRunLife returns true, whatever its arguments, and leaves them as they were. No condition. -/
import Derived.Test.YtpkgfpgccfnkpaaRunC
import Derived.Test.YtpkgfpgccfnkpaaRunD
namespace Go.Proofs.Ytpkgfpgccfnkpaa.lawFnExactRunLife
open Go.ChangeShapes Go.WideShapes Go.ChangeAt Go.RowKit Go.Deep Go.Joins
open Go.ChangeMaps (open_string shut_string)
set_option linter.unusedVariables false
set_option linter.unusedSimpArgs false
set_option maxHeartbeats 4000000 in
theorem walk0 (day state act period closed holds : Int) (v : Value) (n : Nat) (K V : Nat → Int) (w : World) (h : SS w v n K V) (d1 s1 a1 p1 c1 h1 m1 : Int) (ok1 : Bool)
    (CS : ∀ U W, SS W U n K V → Calls Try.prog 27 #[.agg #[.int .i64 day, .int .i64 state, .int .i64 act, .int .i64 period, .int .i64 closed, .int .i64 holds], U] W fun e w' => e = .returned (.tuple #[.agg #[.int .i64 d1, .int .i64 s1, .int .i64 a1, .int .i64 p1, .int .i64 c1, .int .i64 h1], .int .i64 m1, .bool ok1]) ∧ Below W.heap.size W w')
    (CI : ∀ U W, SS W U n K V → Calls Try.prog 29 #[.agg #[.int .i64 day, .int .i64 state, .int .i64 act, .int .i64 period, .int .i64 closed, .int .i64 holds], U] W fun e w' => e = .returned (.tuple #[.agg #[.int .i64 d1, .int .i64 s1, .int .i64 a1, .int .i64 p1, .int .i64 c1, .int .i64 h1], .int .i64 m1, .bool ok1]) ∧ Below W.heap.size W w')
    (CE : ∀ W, Calls Try.prog 18 #[.agg #[.int .i64 d1, .int .i64 s1, .int .i64 a1, .int .i64 p1, .int .i64 c1, .int .i64 h1], .agg #[.int .i64 d1, .int .i64 s1, .int .i64 a1, .int .i64 p1, .int .i64 c1, .int .i64 h1]] W fun e w' => e = .returned (.bool true) ∧ Below W.heap.size W w') :
    Calls Try.prog 9 #[.agg #[.int .i64 day, .int .i64 state, .int .i64 act, .int .i64 period, .int .i64 closed, .int .i64 holds], v] w fun e w' => e = .returned (.bool true) ∧ Below w.heap.size w w' := by
  have HC := Lib.hid (And.intro CS (And.intro CI CE))
  clear CS CI CE
  obtain ⟨w0, hw0⟩ : ∃ w0, w0 = w.alloc (.cells #[.int .i64 day, .int .i64 state, .int .i64 act, .int .i64 period, .int .i64 closed, .int .i64 holds] 23) := ⟨_, rfl⟩
  have B0 : Below w.heap.size w w0 := by rw [hw0]; (repeat (first | with_reducible exact Below.refl _ _ | with_reducible exact below_regrown _ _ _ | with_reducible refine bel_step0 (by assumption) ?_ | with_reducible refine bel_alloc0 ?_ _ | with_reducible refine bel_regrown0 ?_ _ _ | with_reducible refine bel_regrown ?_ (by first | omega | (simp; done) | (simp; omega)) _ _ | with_reducible refine below_drewN ?_ _ | with_reducible refine Below.drew ?_ | with_reducible refine Below.alloc ?_ (by first | omega | (simp; done) | (simp; omega)) _ | with_reducible refine Below.setCell ?_ (by first | omega | (simp; done) | (simp; omega)) _ | with_reducible refine bel_step (by assumption) (by first | omega | (simp; done) | (simp; omega)) ?_ | with_reducible refine bel_grown (by assumption) (by first | omega | (simp; done) | (simp; omega)) (by first | omega | (simp; done) | (simp; omega)) ?_))
  have r0 : w0.rowIs w.heap.size 23 6 (c6 (⟨day, state, act, period, closed, holds⟩ : Lf)) := by rw [hw0]; exact row6_alloc w _ (⟨day, state, act, period, closed, holds⟩ : Lf)
  have l0 := r0.lt
  have HW0 := Lib.hid hw0
  clear hw0
  by_cases hbig : szSs 1048576 n < 0
  · go_enter Try.func9, Try.ntmps9
    go_wp2_with fail
    rw [← HW0.out]
    refine (C_szLifeStepS _ _ _ _ _ _ (h.below B0) (by omega) (by omega)).mono ?_; rintro e w1 ⟨rfl, rfl⟩
    go_wp2_with fail
    go_ret
    exact ⟨rfl, B0⟩
  have hbig0 : 0 ≤ szSs 1048576 n := by omega
  have hn : n ≤ 1048576 := by have := szSs_small hbig0; omega
  go_enter Try.func9, Try.ntmps9
  go_wp2_with fail
  rw [← HW0.out]
  refine (C_szLifeStepS _ _ _ _ _ _ (h.below B0) (by omega) (by omega)).mono ?_; rintro e w1 ⟨rfl, rfl⟩
  have x0 := (r0).cell (i := 0) (by omega); have x1 := (r0).cell (i := 1) (by omega); have x2 := (r0).cell (i := 2) (by omega); have x3 := (r0).cell (i := 3) (by omega); have x4 := (r0).cell (i := 4) (by omega); have x5 := (r0).cell (i := 5) (by omega); simp only [c6, if_true, if_false, Nat.reduceEqDiff, reduceCtorEq] at x0 x1 x2 x3 x4 x5
  go_wp2_with fail
  clear x0 x1 x2 x3 x4 x5
  refine (C_toLife _ _ _ _ _ _ _).mono ?_; rintro e w2 ⟨rfl, hb2⟩
  have B2 := bel_step0 hb2 B0
  have r2 := r0.of_block (hb2.block _ l0)
  go_wp2_with fail
  refine (C_toLifeStepS _ _ _ _ _ (h.below B2) hn).mono ?_; rintro e w3 ⟨v3, rfl, s3, hb3⟩
  have B3 := bel_step0 hb3 B2
  have r3 := r2.of_block (hb3.block _ r2.lt)
  go_wp2_with fail
  refine (HC.out.1 _ _ s3).mono ?_; rintro e w4 ⟨rfl, hb4⟩
  have B4 := bel_step0 hb4 B3
  have r4 := r3.of_block (hb4.block _ r3.lt)
  obtain ⟨w5, hw5⟩ : ∃ w5, w5 = w4.alloc (.cells #[.int .i64 d1, .int .i64 s1, .int .i64 a1, .int .i64 p1, .int .i64 c1, .int .i64 h1] 25) := ⟨_, rfl⟩
  obtain ⟨g, hg⟩ : ∃ g, g = w4.heap.size := ⟨_, rfl⟩
  have B5 : Below w.heap.size w w5 := by rw [hw5]; (repeat (first | with_reducible exact Below.refl _ _ | with_reducible exact below_regrown _ _ _ | with_reducible refine bel_step0 (by assumption) ?_ | with_reducible refine bel_alloc0 ?_ _ | with_reducible refine bel_regrown0 ?_ _ _ | with_reducible refine bel_regrown ?_ (by first | omega | (simp; done) | (simp; omega)) _ _ | with_reducible refine below_drewN ?_ _ | with_reducible refine Below.drew ?_ | with_reducible refine Below.alloc ?_ (by first | omega | (simp; done) | (simp; omega)) _ | with_reducible refine Below.setCell ?_ (by first | omega | (simp; done) | (simp; omega)) _ | with_reducible refine bel_step (by assumption) (by first | omega | (simp; done) | (simp; omega)) ?_ | with_reducible refine bel_grown (by assumption) (by first | omega | (simp; done) | (simp; omega)) (by first | omega | (simp; done) | (simp; omega)) ?_))
  have r5 : w5.rowIs w.heap.size 23 6 (c6 (⟨day, state, act, period, closed, holds⟩ : Lf)) := by rw [hw5]; exact r4.of_block (Below.heap_alloc _ _ _ r4.lt)
  have q5 : w5.rowIs g 25 6 (c6 ⟨d1, s1, a1, p1, c1, h1⟩) := by rw [hw5, hg]; exact row6_alloc w4 _ ⟨d1, s1, a1, p1, c1, h1⟩
  have HW5 := Lib.hid hw5
  have HG := Lib.hid hg
  clear hw5 hg
  go_wp2_with fail
  rw [← HW5.out, ← HG.out]
  refine (C_toLifeStepS _ _ _ _ _ (h.below B5) hn).mono ?_; rintro e w6 ⟨v6, rfl, s6, hb6⟩
  have B6 := bel_step0 hb6 B5
  have r6 := r5.of_block (hb6.block _ r5.lt)
  have q6 := q5.of_block (hb6.block _ q5.lt)
  have x0 := (r6).cell (i := 0) (by omega); have x1 := (r6).cell (i := 1) (by omega); have x2 := (r6).cell (i := 2) (by omega); have x3 := (r6).cell (i := 3) (by omega); have x4 := (r6).cell (i := 4) (by omega); have x5 := (r6).cell (i := 5) (by omega); simp only [c6, if_true, if_false, Nat.reduceEqDiff, reduceCtorEq] at x0 x1 x2 x3 x4 x5
  go_wp2_with fail
  clear x0 x1 x2 x3 x4 x5
  refine (C_toLife _ _ _ _ _ _ _).mono ?_; rintro e w7 ⟨rfl, hb7⟩
  have B7 := bel_step0 hb7 B6
  have q7 := q6.of_block (hb7.block _ q6.lt)
  have s7 := s6.below hb7
  go_wp2_with fail
  refine (HC.out.2.1 _ _ s7).mono ?_; rintro e w8 ⟨rfl, hb8⟩
  have B8 := bel_step0 hb8 B7
  have q8 := q7.of_block (hb8.block _ q7.lt)
  have s8 := s7.below hb8
  have q9 : ∀ o, (w8.alloc o).rowIs g 25 6 (c6 ⟨d1, s1, a1, p1, c1, h1⟩) := fun o => q8.of_block (Below.heap_alloc _ _ _ q8.lt)
  have y0 := fun o => (q9 o).cell (i := 0) (by omega)
  have y1 := fun o => (q9 o).cell (i := 1) (by omega)
  have y2 := fun o => (q9 o).cell (i := 2) (by omega)
  have y3 := fun o => (q9 o).cell (i := 3) (by omega)
  have y4 := fun o => (q9 o).cell (i := 4) (by omega)
  have y5 := fun o => (q9 o).cell (i := 5) (by omega)
  simp only [c6, if_true, if_false, Nat.reduceEqDiff, reduceCtorEq] at y0 y1 y2 y3 y4 y5
  have hgl := q8.lt
  go_wp2_with fail
  clear y0 y1 y2 y3 y4 y5
  refine (HC.out.2.2 _).mono ?_; rintro e w9 ⟨rfl, hb9⟩
  have hb89 : Below w8.heap.size w8 w9 := ((Below.refl _ _).alloc (Nat.le_refl _) _).trans (hb9.mono (by simp))
  have B9 := bel_step0 hb89 B8
  have s9 := s8.below hb89
  go_wp2_with fail
  refine (C_toLifeStepS _ _ _ _ _ (h.below B9) hn).mono ?_; rintro e w10 ⟨v10, rfl, s10, hb10⟩
  have B10 := bel_step0 hb10 B9
  have t10 := s9.below hb10
  go_wp2_with fail
  refine (C_eqLifeStepS _ _ _ _ _ _ t10 s10).mono ?_; rintro e w11 ⟨rfl, hb11⟩
  have B11 := bel_step0 hb11 B10
  go_wp2_with fail
  go_ret
  exact ⟨rfl, B11⟩
theorem walk (day state act period closed holds : Int) (v : Value) (x : Nat × (Nat → Int × Int)) (w : World) (_ : I64 day) (_ : I64 state) (_ : I64 act) (_ : I64 period) (_ : I64 closed) (_ : I64 holds) (h : SS w v x.1 (fun j => (x.2 j).1) (fun j => (x.2 j).2) ∧ ∀ j, j < x.1 → I64 (x.2 j).2) :
    Calls Try.prog 9 #[.agg #[.int .i64 day, .int .i64 state, .int .i64 act, .int .i64 period, .int .i64 closed, .int .i64 holds], v] w fun e w' => e = .returned (.bool true) ∧ Below w.heap.size w w' := by
  obtain ⟨n, R⟩ := x
  obtain ⟨h, hi⟩ := h
  simp only at h hi
  obtain ⟨K, hK⟩ : ∃ K, (fun j => (R j).1) = K := ⟨_, rfl⟩
  obtain ⟨V, hV⟩ : ∃ V, (fun j => (R j).2) = V := ⟨_, rfl⟩
  have hi2 : ∀ j, j < n → I64 (V j) := fun j hj => by rw [← hV]; exact hi j hj
  rw [hK, hV] at h
  exact walk0 day state act period closed holds v n K V w h (runL (⟨day, state, act, period, closed, holds⟩ : Lf) n K V).day (runL (⟨day, state, act, period, closed, holds⟩ : Lf) n K V).state (runL (⟨day, state, act, period, closed, holds⟩ : Lf) n K V).act (runL (⟨day, state, act, period, closed, holds⟩ : Lf) n K V).period (runL (⟨day, state, act, period, closed, holds⟩ : Lf) n K V).closed (runL (⟨day, state, act, period, closed, holds⟩ : Lf) n K V).holds (runN (⟨day, state, act, period, closed, holds⟩ : Lf) n K V) (runOk (⟨day, state, act, period, closed, holds⟩ : Lf) n)
    (fun U W hU => C_RunLifeS _ _ _ _ _ _ U n K V W hU hi2) (fun U W hU => C_RunLifeI _ _ _ _ _ _ U n K V W hU) (fun W => (C_eqLife _ _ _ _ _ _ _ _ _ _ _ _ W).mono fun e w' hh => ⟨hh.1.trans (by simp [Lf.eq]), hh.2⟩)
set_option maxRecDepth 100000 in
theorem lifted (os : Os) (started : os.Started) (H : Type) (enc : TypeId × Value → H) :
    ReturnsInHanded {} Try.checked os 9 .any (Rows.fnExactRunLifeSpec.pre6 enc Try.prog Try.f9 Rows.fnExactRunLifeRow.domain false) (Rows.fnExactRunLifeSpec.post enc Try.prog Try.f9 false true false false) := by
  refine returnsInHanded_of_change (C := Try.checked) own started (by kernel_rfl) Try.func9
    (ChangeSpec.witness6 (enc := enc) (C := Try.checked) false ⟨#[], #[.agg #[.int .i64 0, .int .i64 0, .int .i64 0, .int .i64 0, .int .i64 0, .int .i64 0], .slice none 0 0], []⟩ 8 (by kernel_rfl) (by kernel_rfl) (by kernel_rfl) (by kernel_rfl)) ?_
  intro W base args ds gs before hval0 hW hcnd _
  have hval : ∀ (j : Nat) t v, Try.f9.params[j]? = some t → args[j]? = some v → Value.okWide Try.prog W .any base t v := hval0
  have hW' := hW
  obtain ⟨p, q, hA0, hV, rfl, hfz, hnd⟩ := hW
  have hA : DataW.TrodAll enc Try.prog W 0 (fun _ => true) true Try.f9.params.toList args.toList ds p := hA0
  rw [Try.params9] at hA hval
  obtain ⟨v0, vs0, d0, ds0, p0, q0, hargs, rfl, rfl, h0, r0⟩ := trodAll_cons hA
  obtain ⟨v1, vs1, d1, ds1, p1, q1, rfl, rfl, rfl, h1, r1⟩ := trodAll_cons r0
  obtain ⟨rfl, rfl, rfl⟩ := trodAll_nil r1
  obtain rfl : args = #[v0, v1] := by cases args; simp_all
  obtain ⟨rfl, rfl⟩ := trodVars_none hV
  have k0 := h0
  have lt0 : ∀ x ∈ p0, x.block < W.heap.size := by obtain ⟨m, hm⟩ := k0; exact DataW.trod_lt m _ _ _ hm
  have k1 := h1
  have lt1 : ∀ x ∈ p1, x.block < W.heap.size := by obtain ⟨m, hm⟩ := k1; exact DataW.trod_lt m _ _ _ hm
  obtain ⟨x0_0, x0_1, x0_2, x0_3, x0_4, x0_5, y0_0, y0_1, y0_2, y0_3, y0_4, y0_5, _, rfl, _, _, t0_0, t0_1, t0_2, t0_3, t0_4, t0_5⟩ := open_agg6 Try.underlying23 (by kernel_rfl) (by kernel_rfl) (hval 0 23 v0 rfl rfl) h0
  obtain ⟨n0_0, e, _, b0_0⟩ := DataW.trod_int Try.underlying3 t0_0; simp only [List.cons.injEq, and_true] at e; subst e
  obtain ⟨n0_1, e, _, b0_1⟩ := DataW.trod_int Try.underlying3 t0_1; simp only [List.cons.injEq, and_true] at e; subst e
  obtain ⟨n0_2, e, _, b0_2⟩ := DataW.trod_int Try.underlying3 t0_2; simp only [List.cons.injEq, and_true] at e; subst e
  obtain ⟨n0_3, e, _, b0_3⟩ := DataW.trod_int Try.underlying3 t0_3; simp only [List.cons.injEq, and_true] at e; subst e
  obtain ⟨n0_4, e, _, b0_4⟩ := DataW.trod_int Try.underlying3 t0_4; simp only [List.cons.injEq, and_true] at e; subst e
  obtain ⟨n0_5, e, _, b0_5⟩ := DataW.trod_int Try.underlying3 t0_5; simp only [List.cons.injEq, and_true] at e; subst e
  obtain ⟨n1, b1⟩ := view_SlawsLifeStep (hval 1 44 v1 rfl rfl) h1
  clear hA0 hval0
  refine (walk n0_0 n0_1 n0_2 n0_3 n0_4 n0_5 v1 n1 W (i64_of_wf b0_0) (i64_of_wf b0_1) (i64_of_wf b0_2) (i64_of_wf b0_3) (i64_of_wf b0_4) (i64_of_wf b0_5) b1).mono fun e W' ⟨he, bel⟩ => ?_
  subst he
  exact ⟨_, rfl, _, _, _, [], _, [], hW', trodAll_mk1 (shut_bool Try.underlying4 _), (trodAll_cons_mk (Below.trod laidOut (by kernel_rfl) (of_decide_eq_true (by kernel_rfl)) k0 bel lt0) (trodAll_cons_mk (Below.trod laidOut (by kernel_rfl) (of_decide_eq_true (by kernel_rfl)) k1 bel lt1) trodAll_mk0)), rfl, bel.frame _, fun h => by cases h⟩

theorem proved : Rows.FnExactRunLifeSaid :=
  OpenClaim.holds_of_wide 9 Try.f9 rfl rfl rfl rfl rfl rfl rfl ⟨rfl, rfl, rfl, rfl, rfl⟩ rfl rfl rfl rfl rfl (by kernel_rfl) Try.func9 (by kernel_rfl)
    (of_decide_eq_true (by kernel_rfl)) (by unfold Func.isWrapper; first | (rw [if_pos (by decide +kernel)]; kernel_rfl) | (rw [if_neg (by decide +kernel)]; exact ⟨rfl, rfl⟩))
    (fun os started H enc _ => lifted os started H enc)
#print axioms proved
end Go.Proofs.Ytpkgfpgccfnkpaa.lawFnExactRunLife
