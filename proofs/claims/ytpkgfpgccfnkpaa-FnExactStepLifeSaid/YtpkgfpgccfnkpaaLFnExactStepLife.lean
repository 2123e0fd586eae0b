/- The law FnExactStepLife returns true, whatever its arguments, and leaves them as they were. No condition. -/
import Derived.Test.YtpkgfpgccfnkpaaLifeI
import Derived.Test.YtpkgfpgccfnkpaaOpen
namespace Go.Proofs.Ytpkgfpgccfnkpaa.lawFnExactStepLife
open Go.ChangeShapes Go.WideShapes Go.ChangeAt Go.RowKit Go.Deep Go.Joins
open Go.ChangeMaps (open_string shut_string)
set_option linter.unusedVariables false
set_option maxHeartbeats 1000000 in
theorem walk (day state act period closed holds : Int) (k v : Int) (w : World) (_ : I64 day) (_ : I64 state) (_ : I64 act) (_ : I64 period) (_ : I64 closed) (_ : I64 holds) (_ : I64 k) (hi : I64 v) :
    Calls Try.prog 8 #[.agg #[.int .i64 day, .int .i64 state, .int .i64 act, .int .i64 period, .int .i64 closed, .int .i64 holds], .agg #[.int .i64 k, .int .i64 v]] w fun e w' => e = .returned (.bool true) ∧ Below w.heap.size w w' := by
  have HI := Lib.hid hi
  clear hi
  go_enter Try.func8, Try.ntmps8
  go_wp2_with (first | (go_at_call 12; refine (C_toLife _ _ _ _ _ _ _).mono ?_; rintro e w' ⟨rfl, hb'⟩; obtain ⟨hc', hf'⟩ := bcell hb'; have hz' := bsize hb'; (try simp at hz'); have ht' := (by first | exact lt_le5 hz' | exact lt_le4 hz' | exact lt_le3 hz' | exact lt_le2 hz' | exact lt_le1 hz' | exact lt_le0 hz' : ∀ n, n < _ → n < w'.heap.size); (first | (obtain ⟨hs1, hs2, hs3, hs4, hs5⟩ := sz5 hz') | (obtain ⟨hs1, hs2, hs3, hs4⟩ := sz4 hz') | (obtain ⟨hs1, hs2, hs3⟩ := sz3 hz') | (obtain ⟨hs1, hs2⟩ := sz2 hz') | (have hs1 := sz1 hz') | skip); (try have hq0 : w.heap.size < w'.heap.size := by omega); (try have hq1 : w.heap.size + 1 < w'.heap.size := by omega); (try have hq2 : w.heap.size + 1 + 1 < w'.heap.size := by omega); (try have hq3 : w.heap.size + 1 + 1 + 1 < w'.heap.size := by omega)) | (go_at_call 24; refine (C_toLifeStep _ _ _).mono ?_; rintro e w' ⟨rfl, hb'⟩; obtain ⟨hc', hf'⟩ := bcell hb'; have hz' := bsize hb'; (try simp at hz'); have ht' := (by first | exact lt_le5 hz' | exact lt_le4 hz' | exact lt_le3 hz' | exact lt_le2 hz' | exact lt_le1 hz' | exact lt_le0 hz' : ∀ n, n < _ → n < w'.heap.size); (first | (obtain ⟨hs1, hs2, hs3, hs4, hs5⟩ := sz5 hz') | (obtain ⟨hs1, hs2, hs3, hs4⟩ := sz4 hz') | (obtain ⟨hs1, hs2, hs3⟩ := sz3 hz') | (obtain ⟨hs1, hs2⟩ := sz2 hz') | (have hs1 := sz1 hz') | skip); (try have hq0 : w.heap.size < w'.heap.size := by omega); (try have hq1 : w.heap.size + 1 < w'.heap.size := by omega); (try have hq2 : w.heap.size + 1 + 1 < w'.heap.size := by omega); (try have hq3 : w.heap.size + 1 + 1 + 1 < w'.heap.size := by omega)) | (go_at_call 23; refine (C_StepLifeS _ _ _ _ _ _ _ _ _ HI.out).mono ?_; rintro e w' ⟨rfl, hb'⟩; obtain ⟨hc', hf'⟩ := bcell hb'; have hz' := bsize hb'; (try simp at hz'); have ht' := (by first | exact lt_le5 hz' | exact lt_le4 hz' | exact lt_le3 hz' | exact lt_le2 hz' | exact lt_le1 hz' | exact lt_le0 hz' : ∀ n, n < _ → n < w'.heap.size); (first | (obtain ⟨hs1, hs2, hs3, hs4, hs5⟩ := sz5 hz') | (obtain ⟨hs1, hs2, hs3, hs4⟩ := sz4 hz') | (obtain ⟨hs1, hs2, hs3⟩ := sz3 hz') | (obtain ⟨hs1, hs2⟩ := sz2 hz') | (have hs1 := sz1 hz') | skip); (try have hq0 : w.heap.size < w'.heap.size := by omega); (try have hq1 : w.heap.size + 1 < w'.heap.size := by omega); (try have hq2 : w.heap.size + 1 + 1 < w'.heap.size := by omega); (try have hq3 : w.heap.size + 1 + 1 + 1 < w'.heap.size := by omega)) | (go_at_call 25; refine (C_StepLifeI _ _ _ _ _ _ _ _ _).mono ?_; rintro e w' ⟨rfl, hb'⟩; obtain ⟨hc', hf'⟩ := bcell hb'; have hz' := bsize hb'; (try simp at hz'); have ht' := (by first | exact lt_le5 hz' | exact lt_le4 hz' | exact lt_le3 hz' | exact lt_le2 hz' | exact lt_le1 hz' | exact lt_le0 hz' : ∀ n, n < _ → n < w'.heap.size); (first | (obtain ⟨hs1, hs2, hs3, hs4, hs5⟩ := sz5 hz') | (obtain ⟨hs1, hs2, hs3, hs4⟩ := sz4 hz') | (obtain ⟨hs1, hs2, hs3⟩ := sz3 hz') | (obtain ⟨hs1, hs2⟩ := sz2 hz') | (have hs1 := sz1 hz') | skip); (try have hq0 : w.heap.size < w'.heap.size := by omega); (try have hq1 : w.heap.size + 1 < w'.heap.size := by omega); (try have hq2 : w.heap.size + 1 + 1 < w'.heap.size := by omega); (try have hq3 : w.heap.size + 1 + 1 + 1 < w'.heap.size := by omega)) | (go_at_call 18; refine (C_eqLife _ _ _ _ _ _ _ _ _ _ _ _ _).mono ?_; rintro e w' ⟨rfl, hb'⟩; obtain ⟨hc', hf'⟩ := bcell hb'; have hz' := bsize hb'; (try simp at hz'); have ht' := (by first | exact lt_le5 hz' | exact lt_le4 hz' | exact lt_le3 hz' | exact lt_le2 hz' | exact lt_le1 hz' | exact lt_le0 hz' : ∀ n, n < _ → n < w'.heap.size); (first | (obtain ⟨hs1, hs2, hs3, hs4, hs5⟩ := sz5 hz') | (obtain ⟨hs1, hs2, hs3, hs4⟩ := sz4 hz') | (obtain ⟨hs1, hs2, hs3⟩ := sz3 hz') | (obtain ⟨hs1, hs2⟩ := sz2 hz') | (have hs1 := sz1 hz') | skip); (try have hq0 : w.heap.size < w'.heap.size := by omega); (try have hq1 : w.heap.size + 1 < w'.heap.size := by omega); (try have hq2 : w.heap.size + 1 + 1 < w'.heap.size := by omega); (try have hq3 : w.heap.size + 1 + 1 + 1 < w'.heap.size := by omega)))
  all_goals (first | go_ret | go_ret2 | go_ret3)
  all_goals refine ⟨?_, ?_⟩
  all_goals (go_light; first | ((repeat (first | with_reducible exact Below.refl _ _ | with_reducible refine below_drewN ?_ _ | with_reducible refine Below.drew ?_ | with_reducible refine Below.alloc ?_ (by first | omega | (simp; done) | (simp; omega)) _ | with_reducible refine Below.setCell ?_ (by first | omega | (simp; done) | (simp; omega)) _ | with_reducible refine bel_step (by assumption) (by first | omega | (simp; done) | (simp; omega)) ?_ | with_reducible refine bel_grown (by assumption) (by first | omega | (simp; done) | (simp; omega)) (by first | omega | (simp; done) | (simp; omega)) ?_)); done) | (skip; (try unfold Lf.eq at *); simp_all; done) | (skip; (try unfold Lf.eq at *); simp_all; omega) | (skip; (try unfold Lf.eq at *); simp_all; (repeat' split) <;> first | rfl | omega | (simp_all; done) | (simp_all; omega)))

set_option maxRecDepth 100000 in
theorem lifted (os : Os) (started : os.Started) (H : Type) (enc : TypeId × Value → H) :
    ReturnsInHanded {} Try.checked os 8 .any (Rows.fnExactStepLifeSpec.pre6 enc Try.prog Try.f8 Rows.fnExactStepLifeRow.domain false) (Rows.fnExactStepLifeSpec.post enc Try.prog Try.f8 false true false false) := by
  refine returnsInHanded_of_change (C := Try.checked) own started (by kernel_rfl) Try.func8
    (ChangeSpec.witness6 (enc := enc) (C := Try.checked) false ⟨#[], #[.agg #[.int .i64 0, .int .i64 0, .int .i64 0, .int .i64 0, .int .i64 0, .int .i64 0], .agg #[.int .i64 0, .int .i64 0]], []⟩ 8 (by kernel_rfl) (by kernel_rfl) (by kernel_rfl) (by kernel_rfl)) ?_
  intro W base args ds gs before hval0 hW hcnd _
  have hval : ∀ (j : Nat) t v, Try.f8.params[j]? = some t → args[j]? = some v → Value.okWide Try.prog W .any base t v := hval0
  have hW' := hW
  obtain ⟨p, q, hA0, hV, rfl, hfz, hnd⟩ := hW
  have hA : DataW.TrodAll enc Try.prog W 0 (fun _ => true) true Try.f8.params.toList args.toList ds p := hA0
  rw [Try.params8] at hA hval
  obtain ⟨v0, vs0, d0, ds0, p0, q0, hargs, rfl, rfl, h0, r0⟩ := trodAll_cons hA
  obtain ⟨v1, vs1, d1, ds1, p1, q1, rfl, rfl, rfl, h1, r1⟩ := trodAll_cons r0
  obtain ⟨rfl, rfl, rfl⟩ := trodAll_nil r1
  obtain rfl : args = #[v0, v1] := by cases args; simp_all
  obtain ⟨rfl, rfl⟩ := trodVars_none hV
  have k0 := h0
  have lt0 : ∀ x ∈ p0, x.block < W.heap.size := by obtain ⟨m, hm⟩ := k0; exact DataW.trod_lt m _ _ _ hm
  have k1 := h1
  have lt1 : ∀ x ∈ p1, x.block < W.heap.size := by obtain ⟨m, hm⟩ := k1; exact DataW.trod_lt m _ _ _ hm
  obtain ⟨x0_0, x0_1, x0_2, x0_3, x0_4, x0_5, y0_0, y0_1, y0_2, y0_3, y0_4, y0_5, _, rfl, _, _, t0_0, t0_1, t0_2, t0_3, t0_4, t0_5⟩ := open_agg6 Try.underlying23 (by kernel_rfl) (by kernel_rfl) (hval 0 23 v0 rfl rfl) h0
  obtain ⟨n0_0, e, _, b0_0⟩ := DataW.trod_int Try.underlying3 t0_0; simp only [List.cons.injEq, and_true] at e; subst e
  obtain ⟨n0_1, e, _, b0_1⟩ := DataW.trod_int Try.underlying3 t0_1; simp only [List.cons.injEq, and_true] at e; subst e
  obtain ⟨n0_2, e, _, b0_2⟩ := DataW.trod_int Try.underlying3 t0_2; simp only [List.cons.injEq, and_true] at e; subst e
  obtain ⟨n0_3, e, _, b0_3⟩ := DataW.trod_int Try.underlying3 t0_3; simp only [List.cons.injEq, and_true] at e; subst e
  obtain ⟨n0_4, e, _, b0_4⟩ := DataW.trod_int Try.underlying3 t0_4; simp only [List.cons.injEq, and_true] at e; subst e
  obtain ⟨n0_5, e, _, b0_5⟩ := DataW.trod_int Try.underlying3 t0_5; simp only [List.cons.injEq, and_true] at e; subst e
  obtain ⟨x1_0, x1_1, y1_0, y1_1, _, rfl, _, _, t1_0, t1_1⟩ := open_agg2 Try.underlying39 (by kernel_rfl) (by kernel_rfl) (hval 1 39 v1 rfl rfl) h1
  obtain ⟨n1_0, e, _, b1_0⟩ := DataW.trod_int Try.underlying3 t1_0; simp only [List.cons.injEq, and_true] at e; subst e
  obtain ⟨n1_1, e, _, b1_1⟩ := DataW.trod_int Try.underlying3 t1_1; simp only [List.cons.injEq, and_true] at e; subst e
  clear hA0 hval0
  refine (walk n0_0 n0_1 n0_2 n0_3 n0_4 n0_5 n1_0 n1_1 W (i64_of_wf b0_0) (i64_of_wf b0_1) (i64_of_wf b0_2) (i64_of_wf b0_3) (i64_of_wf b0_4) (i64_of_wf b0_5) (i64_of_wf b1_0) (i64_of_wf b1_1)).mono fun e W' ⟨he, bel⟩ => ?_
  subst he
  exact ⟨_, rfl, _, _, _, [], _, [], hW', trodAll_mk1 (shut_bool Try.underlying4 _), (trodAll_cons_mk (Below.trod laidOut (by kernel_rfl) (of_decide_eq_true (by kernel_rfl)) k0 bel lt0) (trodAll_cons_mk (Below.trod laidOut (by kernel_rfl) (of_decide_eq_true (by kernel_rfl)) k1 bel lt1) trodAll_mk0)), rfl, bel.frame _, fun h => by cases h⟩

theorem proved : Rows.FnExactStepLifeSaid :=
  OpenClaim.holds_of_wide 8 Try.f8 rfl rfl rfl rfl rfl rfl rfl ⟨rfl, rfl, rfl, rfl, rfl⟩ rfl rfl rfl rfl rfl (by kernel_rfl) Try.func8 (by kernel_rfl)
    (of_decide_eq_true (by kernel_rfl)) (by unfold Func.isWrapper; first | (rw [if_pos (by decide +kernel)]; kernel_rfl) | (rw [if_neg (by decide +kernel)]; exact ⟨rfl, rfl⟩))
    (fun os started H enc _ => lifted os started H enc)
#print axioms proved
end Go.Proofs.Ytpkgfpgccfnkpaa.lawFnExactStepLife
