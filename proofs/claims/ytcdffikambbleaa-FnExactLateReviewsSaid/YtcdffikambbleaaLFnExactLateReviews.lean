/- The law FnExactLateReviews returns true, whatever its arguments, and leaves them as they were. No condition. -/
import Derived.Test.YtcdffikambbleaaRevV
import Derived.Test.YtcdffikambbleaaRevH
import Derived.Test.YtcdffikambbleaaRvEF
namespace Go.Proofs.Ytcdffikambbleaa.lawFnExactLateReviews
open Go.ChangeShapes Go.WideShapes Go.ChangeAt Go.RowKit Go.Deep Go.Joins
open Go.ChangeMaps (open_string shut_string)
set_option linter.unusedVariables false
set_option linter.unusedSimpArgs false
theorem eqRs_refl (n : Nat) (R : Nat → Rv) : eqRs n n R R = true := by
  unfold eqRs
  simp only [decide_true, Bool.true_and]
  refine allB_iff.2 fun j _ => ?_
  unfold Rv.eqB eqI
  simp only [beq_self_eq_true, decide_true, Bool.true_and]
  exact allB_iff.2 fun _ _ => rfl
theorem C_eqReviewS_same (v v' : Value) (n : Nat) (R : Nat → Rv) (w : World) (h : RRs w v n R) (h' : RRs w v' n R) :
    Calls Try.prog 25 #[v, v'] w fun e w' => e = .returned (.bool true) ∧ Below w.heap.size w w' :=
  (C_eqReviewS v v' n n R R w h h').mono fun e w' hh => ⟨hh.1.trans (by rw [eqRs_refl]), hh.2⟩
theorem C_eqIntS_same (v v' : Value) (n : Nat) (f : Nat → Int) (w : World) (h : SI w v n f) (h' : SI w v' n f) :
    Calls Try.prog 37 #[v, v'] w fun e w' => e = .returned (.bool true) ∧ Below w.heap.size w w' :=
  (C_eqIntS v v' n n f f w h h').mono fun e w' hh => ⟨hh.1.trans (by rw [show eqI n n f f = true by unfold eqI; simp only [beq_self_eq_true, decide_true, Bool.true_and]; exact allB_iff.2 fun _ _ => rfl]), hh.2⟩
set_option maxHeartbeats 2000000 in
theorem walk (v : Value) (x : Nat × (Nat → Rv)) (y : Int) (w : World) (h : RRs w v x.1 x.2) (_ : I64 y) :
    Calls Try.prog 13 #[v, .int .i64 y] w fun e w' => e = .returned (.bool true) ∧ Below w.heap.size w w' := by
  obtain ⟨n, R⟩ := x
  simp only at h
  by_cases hbig : szRs 1048576 n R < 0
  · go_enter Try.func13, Try.ntmps13
    go_wp2_with (first | (go_at_call 21; refine (C_szReviewS _ _ _ _ _ (by first | assumption | (refine SI.below ?_ (by assumption); (repeat (first | with_reducible exact Below.refl _ _ | with_reducible exact below_regrown _ _ _ | with_reducible refine bel_step0 (by assumption) ?_ | with_reducible refine bel_alloc0 ?_ _ | with_reducible refine bel_regrown0 ?_ _ _ | with_reducible refine bel_regrown ?_ (by first | omega | (simp; done) | (simp; omega)) _ _ | with_reducible refine below_drewN ?_ _ | with_reducible refine Below.drew ?_ | with_reducible refine Below.alloc ?_ (by first | omega | (simp; done) | (simp; omega)) _ | with_reducible refine Below.setCell ?_ (by first | omega | (simp; done) | (simp; omega)) _ | with_reducible refine bel_step (by assumption) (by first | omega | (simp; done) | (simp; omega)) ?_ | with_reducible refine bel_grown (by assumption) (by first | omega | (simp; done) | (simp; omega)) (by first | omega | (simp; done) | (simp; omega)) ?_)); done) | (refine RR.below ?_ (by assumption); (repeat (first | with_reducible exact Below.refl _ _ | with_reducible exact below_regrown _ _ _ | with_reducible refine bel_step0 (by assumption) ?_ | with_reducible refine bel_alloc0 ?_ _ | with_reducible refine bel_regrown0 ?_ _ _ | with_reducible refine bel_regrown ?_ (by first | omega | (simp; done) | (simp; omega)) _ _ | with_reducible refine below_drewN ?_ _ | with_reducible refine Below.drew ?_ | with_reducible refine Below.alloc ?_ (by first | omega | (simp; done) | (simp; omega)) _ | with_reducible refine Below.setCell ?_ (by first | omega | (simp; done) | (simp; omega)) _ | with_reducible refine bel_step (by assumption) (by first | omega | (simp; done) | (simp; omega)) ?_ | with_reducible refine bel_grown (by assumption) (by first | omega | (simp; done) | (simp; omega)) (by first | omega | (simp; done) | (simp; omega)) ?_)); done) | (refine RRs.below ?_ (by assumption); (repeat (first | with_reducible exact Below.refl _ _ | with_reducible exact below_regrown _ _ _ | with_reducible refine bel_step0 (by assumption) ?_ | with_reducible refine bel_alloc0 ?_ _ | with_reducible refine bel_regrown0 ?_ _ _ | with_reducible refine bel_regrown ?_ (by first | omega | (simp; done) | (simp; omega)) _ _ | with_reducible refine below_drewN ?_ _ | with_reducible refine Below.drew ?_ | with_reducible refine Below.alloc ?_ (by first | omega | (simp; done) | (simp; omega)) _ | with_reducible refine Below.setCell ?_ (by first | omega | (simp; done) | (simp; omega)) _ | with_reducible refine bel_step (by assumption) (by first | omega | (simp; done) | (simp; omega)) ?_ | with_reducible refine bel_grown (by assumption) (by first | omega | (simp; done) | (simp; omega)) (by first | omega | (simp; done) | (simp; omega)) ?_)); done) | (refine RA.below ?_ (by assumption); (repeat (first | with_reducible exact Below.refl _ _ | with_reducible exact below_regrown _ _ _ | with_reducible refine bel_step0 (by assumption) ?_ | with_reducible refine bel_alloc0 ?_ _ | with_reducible refine bel_regrown0 ?_ _ _ | with_reducible refine bel_regrown ?_ (by first | omega | (simp; done) | (simp; omega)) _ _ | with_reducible refine below_drewN ?_ _ | with_reducible refine Below.drew ?_ | with_reducible refine Below.alloc ?_ (by first | omega | (simp; done) | (simp; omega)) _ | with_reducible refine Below.setCell ?_ (by first | omega | (simp; done) | (simp; omega)) _ | with_reducible refine bel_step (by assumption) (by first | omega | (simp; done) | (simp; omega)) ?_ | with_reducible refine bel_grown (by assumption) (by first | omega | (simp; done) | (simp; omega)) (by first | omega | (simp; done) | (simp; omega)) ?_)); done)) (by omega) (by omega)).mono ?_; rintro e w' ⟨rfl, hb'⟩))
    go_ret
    exact ⟨rfl, by (repeat (first | with_reducible exact Below.refl _ _ | with_reducible exact below_regrown _ _ _ | with_reducible refine bel_step0 (by assumption) ?_ | with_reducible refine bel_alloc0 ?_ _ | with_reducible refine bel_regrown0 ?_ _ _ | with_reducible refine bel_regrown ?_ (by first | omega | (simp; done) | (simp; omega)) _ _ | with_reducible refine below_drewN ?_ _ | with_reducible refine Below.drew ?_ | with_reducible refine Below.alloc ?_ (by first | omega | (simp; done) | (simp; omega)) _ | with_reducible refine Below.setCell ?_ (by first | omega | (simp; done) | (simp; omega)) _ | with_reducible refine bel_step (by assumption) (by first | omega | (simp; done) | (simp; omega)) ?_ | with_reducible refine bel_grown (by assumption) (by first | omega | (simp; done) | (simp; omega)) (by first | omega | (simp; done) | (simp; omega)) ?_))⟩
  have hbig0 : 0 ≤ szRs 1048576 n R := by omega
  obtain ⟨hn, hsm⟩ := szRs_small hbig0
  have HSM := Lib.hid hsm; clear hsm hbig
  obtain ⟨xs, hxs⟩ : ∃ xs, late n R y = xs := ⟨_, rfl⟩
  have hlen : xs.length ≤ n := by
    rw [← hxs]; unfold late; split
    · rw [List.length_map, srtE_len]; exact lateP_le _ _ _
    · simp
  have HX := Lib.hid hxs; clear hxs
  obtain ⟨m, hm⟩ : ∃ m, xs.length = m := ⟨_, rfl⟩
  have hmn : m ≤ 1048576 := by omega
  have HM := Lib.hid hm; clear hm hlen
  go_enter Try.func13, Try.ntmps13
  go_wp2_with fail
  refine (C_szReviewS _ _ _ _ _ h (by omega) (by omega)).mono ?_; rintro e w1 ⟨rfl, hb1⟩
  have B1 : Below w.heap.size w w1 := hb1
  go_wp2_with fail
  refine (C_toReviewS _ _ _ _ (h.below B1) hn HSM.out).mono ?_; rintro e w2 ⟨v2, rfl, hv2, hb2⟩
  have B2 := bel_step0 hb2 B1
  go_wp2_with fail
  refine (C_LateReviewsS _ _ _ _ _ hv2.rrs).mono ?_; rintro e w3 ⟨v3, rfl, ho3, hb3⟩
  have B3 := bel_step0 hb3 B2
  rw [HX.out] at ho3
  have s3 := ho3.wi.si
  rw [HM.out] at s3
  go_wp2_with fail
  refine (C_toReviewS _ _ _ _ (h.below B3) hn HSM.out).mono ?_; rintro e w4 ⟨v4, rfl, hv4, hb4⟩
  have B4 := bel_step0 hb4 B3
  go_wp2_with fail
  refine (C_LateReviewsI _ _ _ _ _ hv4.rrs).mono ?_; rintro e w5 ⟨v5, rfl, ho5, hb5⟩
  have B5 := bel_step0 hb5 B4
  have F5 := bel_step0 hb5 hb4
  rw [HX.out] at ho5
  have t5 := ho5.wi
  rw [HM.out] at t5
  have x5 := hv4.below hb5
  go_wp2_with fail
  refine (C_eqIntS_same _ _ _ _ _ t5.si (s3.below F5)).mono ?_; rintro e w6 ⟨rfl, hb6⟩
  have B6 := bel_step0 hb6 B5
  have F6 := bel_step0 hb6 F5
  have t6 := t5.below hb6
  have x6 := x5.below hb6
  go_wp2_with fail
  refine (C_toReviewS _ _ _ _ (h.below B6) hn HSM.out).mono ?_; rintro e w7 ⟨v7, rfl, hv7, hb7⟩
  have B7 := bel_step0 hb7 B6
  have F7 := bel_step0 hb7 F6
  have t7 := t6.below hb7
  have x7 := x6.below hb7
  go_wp2_with fail
  refine (C_eqReviewS_same _ _ _ _ _ x7.rrs hv7.rrs).mono ?_; rintro e w8 ⟨rfl, hb8⟩
  have B8 := bel_step0 hb8 B7
  have F8 := bel_step0 hb8 F7
  have t8 := t7.below hb8
  have x8 := x7.below hb8
  go_wp2_with fail
  refine (C_markReviewS _ _ _ _ _ _ x8).mono ?_; rintro e w9 ⟨k9, rfl, hk9, hc9⟩
  have B9 := bel_chg hc9 B3.size B8
  have F9 := bel_chg hc9 (Nat.le_refl _) F8
  have t9 := t8.chg hc9 (.inr (Nat.le_refl _))
  go_wp2_with fail
  refine (C_eqIntS_same _ _ _ _ _ t9.si (s3.below F9)).mono ?_; rintro e w10 ⟨rfl, hb10⟩
  have B10 := bel_step0 hb10 B9
  have F10 := bel_step0 hb10 F9
  have t10 := t9.below hb10
  go_wp2_with fail
  refine (C_markIntS _ _ _ _ _ _ _ t10 (by omega) (by omega)).mono ?_; rintro e w11 ⟨rfl, t11, hc11⟩
  have B11 := bel_chg hc11 B4.size B10
  have F11 := bel_chg hc11 hb4.size F10
  go_wp2_with fail
  refine (C_heldIntS _ _ _ _ t11.si (by omega) (by omega)).mono ?_; rintro e w11' ⟨rfl, rfl⟩
  go_wp2_with fail
  refine (C_toReviewS _ _ _ _ (h.below B11) hn HSM.out).mono ?_; rintro e w12 ⟨v12, rfl, hv12, hb12⟩
  have B12 := bel_step0 hb12 B11
  have F12 := bel_step0 hb12 F11
  have t12 := t11.below hb12
  go_wp2_with fail
  refine (C_LateReviewsI _ _ _ _ _ hv12.rrs).mono ?_; rintro e w13 ⟨v13, rfl, ho13, hb13⟩
  have B13 := bel_step0 hb13 B12
  have F13 := bel_step0 hb13 F12
  have t13 := t12.below hb13
  rw [HX.out] at ho13
  have s13 := ho13.wi.si
  rw [HM.out] at s13
  go_wp2_with fail
  refine (C_eqIntS_same _ _ _ _ _ s13 (s3.below F13)).mono ?_; rintro e w14 ⟨rfl, hb14⟩
  have B14 := bel_step0 hb14 B13
  have t14 := t13.below hb14
  go_wp2_with fail
  refine (C_heldIntS _ _ _ _ t14.si (by omega) (by omega)).mono ?_; rintro e w14' ⟨rfl, rfl⟩
  go_wp2_with fail
  go_ret
  exact ⟨rfl, B14⟩

set_option maxRecDepth 100000 in
theorem lifted (os : Os) (started : os.Started) (H : Type) (enc : TypeId × Value → H) :
    ReturnsInHanded {} Try.checked os 13 .any (Rows.fnExactLateReviewsSpec.pre6 enc Try.prog Try.f13 Rows.fnExactLateReviewsRow.domain false) (Rows.fnExactLateReviewsSpec.post enc Try.prog Try.f13 false true false false) := by
  refine returnsInHanded_of_change (C := Try.checked) own started (by kernel_rfl) Try.func13
    (ChangeSpec.witness6 (enc := enc) (C := Try.checked) false ⟨#[], #[.slice none 0 0, .int .i64 0], []⟩ 8 (by kernel_rfl) (by kernel_rfl) (by kernel_rfl) (by kernel_rfl)) ?_
  intro W base args ds gs before hval0 hW hcnd _
  have hval : ∀ (j : Nat) t v, Try.f13.params[j]? = some t → args[j]? = some v → Value.okWide Try.prog W .any base t v := hval0
  have hW' := hW
  obtain ⟨p, q, hA0, hV, rfl, hfz, hnd⟩ := hW
  have hA : DataW.TrodAll enc Try.prog W 0 (fun _ => true) true Try.f13.params.toList args.toList ds p := hA0
  rw [Try.params13] at hA hval
  obtain ⟨v0, vs0, d0, ds0, p0, q0, hargs, rfl, rfl, h0, r0⟩ := trodAll_cons hA
  obtain ⟨v1, vs1, d1, ds1, p1, q1, rfl, rfl, rfl, h1, r1⟩ := trodAll_cons r0
  obtain ⟨rfl, rfl, rfl⟩ := trodAll_nil r1
  obtain rfl : args = #[v0, v1] := by cases args; simp_all
  obtain ⟨rfl, rfl⟩ := trodVars_none hV
  have k0 := h0
  have lt0 : ∀ x ∈ p0, x.block < W.heap.size := by obtain ⟨m, hm⟩ := k0; exact DataW.trod_lt m _ _ _ hm
  have k1 := h1
  have lt1 : ∀ x ∈ p1, x.block < W.heap.size := by obtain ⟨m, hm⟩ := k1; exact DataW.trod_lt m _ _ _ hm
  obtain ⟨n0, b0⟩ := view_SlawsReview (hval 0 31 v0 rfl rfl) h0
  obtain ⟨n1, rfl, _, _, b1⟩ := open_int Try.underlying3 (hval 1 3 v1 rfl rfl) h1
  clear hA0 hval0
  refine (walk v0 n0 n1 W b0 (i64_of_wf b1)).mono fun e W' ⟨he, bel⟩ => ?_
  subst he
  exact ⟨_, rfl, _, _, _, [], _, [], hW', trodAll_mk1 (shut_bool Try.underlying4 _), (trodAll_cons_mk (Below.trod laidOut (by kernel_rfl) (of_decide_eq_true (by kernel_rfl)) k0 bel lt0) (trodAll_cons_mk (Below.trod laidOut (by kernel_rfl) (of_decide_eq_true (by kernel_rfl)) k1 bel lt1) trodAll_mk0)), rfl, bel.frame _, fun h => by cases h⟩

theorem proved : Rows.FnExactLateReviewsSaid :=
  OpenClaim.holds_of_wide 13 Try.f13 rfl rfl rfl rfl rfl rfl rfl ⟨rfl, rfl, rfl, rfl, rfl⟩ rfl rfl rfl rfl rfl (by kernel_rfl) Try.func13 (by kernel_rfl)
    (of_decide_eq_true (by kernel_rfl)) (by unfold Func.isWrapper; first | (rw [if_pos (by decide +kernel)]; kernel_rfl) | (rw [if_neg (by decide +kernel)]; exact ⟨rfl, rfl⟩))
    (fun os started H enc _ => lifted os started H enc)
#print axioms proved
end Go.Proofs.Ytcdffikambbleaa.lawFnExactLateReviews
