/- What the reference's steps of lives compute, more of them. No condition. -/
import Derived.Test.YtpkgfpgccfnkpaaLifeE
namespace Go.Proofs.Ytpkgfpgccfnkpaa
set_option linter.unusedVariables false
open Go.RowKit
theorem wait_ok {day state act period closed holds v : Int} (h : (⟨day, state, act, period, closed, holds⟩ : Lf).ok = true) (hv : 1 ≤ v) : (rawL (⟨day, state, act, period, closed, holds⟩ : Lf) 1 v).ok = decide (day + v ≤ 20000) := by
  rw [Bool.eq_iff_iff]
  simp [rawL, Lf.ok, within] at h ⊢
  by_cases h0 : state = 0
  · simp [h0] at h ⊢; omega
  · simp [h0] at h ⊢; omega
theorem longer_no {day state act period closed holds v : Int} (h : 20000 < period + v) : (rawL (⟨day, state, act, period, closed, holds⟩ : Lf) 6 v).ok = false := by
  rw [Bool.eq_false_iff]
  simp [rawL, Lf.ok, within]
  omega
theorem big_no {day state act period closed holds v k : Int} (h : (⟨day, state, act, period, closed, holds⟩ : Lf).ok = true) (hk : k = 1 ∨ k = 6) (hv : 20000 < v) : canL (⟨day, state, act, period, closed, holds⟩ : Lf) k v = false := by
  rcases hk with rfl | rfl <;> simp [canL, stepOkI, within] <;> omega

theorem can1 {day state act period closed holds v : Int} (h : (⟨day, state, act, period, closed, holds⟩ : Lf).ok = true) (hv : 1 ≤ v) : canL (⟨day, state, act, period, closed, holds⟩ : Lf) 1 v = decide (v ≤ 20000 - day) := by
  have hb := Lf.bounds h
  by_cases hb : v ≤ 20000
  · rw [canL_eq h (by simp [stepOkI, within]; omega), wait_ok h hv, Bool.eq_iff_iff]
    simp [fitsL]; omega
  · rw [big_no h (Or.inl rfl) (by omega)]; simp; omega
theorem can6 {day state act period closed holds v : Int} (h : (⟨day, state, act, period, closed, holds⟩ : Lf).ok = true) (hv : 1 ≤ v) : canL (⟨day, state, act, period, closed, holds⟩ : Lf) 6 v = (decide (v ≤ 20000 - period) && (decide (state ≤ 1) && (rawL (⟨day, state, act, period, closed, holds⟩ : Lf) 6 v).ok)) := by
  obtain ⟨a1, a2, a3, a4, a5, a6, a7, a8, a9, a10, a11, a12⟩ := Lf.bounds h
  by_cases hb : v ≤ 20000 - period
  · rw [canL_eq h (by simp [stepOkI, within]; omega)]
    have e : fitsL (⟨day, state, act, period, closed, holds⟩ : Lf) 6 = decide (state ≤ 1) := by rw [Bool.eq_iff_iff]; simp [fitsL]; omega
    rw [e]; simp [hb]
  · by_cases hc : v ≤ 20000
    · rw [canL_eq h (by simp [stepOkI, within]; omega), longer_no (by omega)]; simp <;> omega
    · rw [big_no h (Or.inr rfl) (by omega)]; simp <;> omega
set_option maxHeartbeats 2000000 in
theorem C_l21Make1 (day state act period closed holds : Int) (v : Int) (w : World) (hok : (⟨day, state, act, period, closed, holds⟩ : Lf).ok = true) (hi : I64 v) (hv : 1 ≤ v) :
    Calls Try.prog 43 #[.agg #[.int .i64 day, .int .i64 state, .int .i64 act, .int .i64 period, .int .i64 closed, .int .i64 holds], .agg #[.int .i64 1, .int .i64 v]] w fun e w' => ∃ R : Lf, e = .returned (.tuple #[.agg #[.int .i64 (R).day, .int .i64 (R).state, .int .i64 (R).act, .int .i64 (R).period, .int .i64 (R).closed, .int .i64 (R).holds], .bool (canL (⟨day, state, act, period, closed, holds⟩ : Lf) 1 v)]) ∧ (canL (⟨day, state, act, period, closed, holds⟩ : Lf) 1 v = true → R = rawL (⟨day, state, act, period, closed, holds⟩ : Lf) 1 v) ∧ Below w.heap.size w w' := by
  obtain ⟨a1, a2, a3, a4, a5, a6, a7, a8, a9, a10, a11, a12⟩ := Lf.bounds hok
  unfold I64 at hi
  obtain ⟨i1, i2⟩ := hi
  rw [can1 hok hv]; by_cases hx : v ≤ 20000 - day
  all_goals (have HOK := Lib.hid hok; clear hok)
  all_goals go_enter Try.func43, Try.ntmps43
  all_goals go_wp2
  all_goals go_region
  all_goals (go_wp2_with (first | (go_at_call 54; refine (C_l21Final _ _ ⟨a3, a4⟩).mono ?_; rintro e w' ⟨rfl, rfl⟩) | (go_at_call 41; refine (C_l21WhyX _ _ _ _ _ _ _ HOK.out).mono ?_; rintro e w' ⟨rfl, rfl⟩)))
  all_goals (first | (go_region_with (go_at_call 35; refine (C_l21Good _ _ _ _ _ _ _).mono ?_; rintro e w' ⟨rfl, hb'⟩; obtain ⟨hc', hf'⟩ := bcell hb'; (try simp only [World.size_drew] at hc' hf'); have hz' := bsize hb'; (try simp at hz'); have ht' := (by first | exact lt_le5 hz' | exact lt_le4 hz' | exact lt_le3 hz' | exact lt_le2 hz' | exact lt_le1 hz' | exact lt_le0 hz' : ∀ n, n < _ → n < w'.heap.size); (first | (obtain ⟨hs1, hs2, hs3, hs4, hs5⟩ := sz5 hz') | (obtain ⟨hs1, hs2, hs3, hs4⟩ := sz4 hz') | (obtain ⟨hs1, hs2, hs3⟩ := sz3 hz') | (obtain ⟨hs1, hs2⟩ := sz2 hz') | (have hs1 := sz1 hz') | skip); (try have hq0 : w.heap.size < w'.heap.size := by omega); (try have hq1 : w.heap.size + 1 < w'.heap.size := by omega); (try have hq2 : w.heap.size + 1 + 1 < w'.heap.size := by omega); (try have hq3 : w.heap.size + 1 + 1 + 1 < w'.heap.size := by omega))) | go_region | skip)
  all_goals (try go_wp2)
  all_goals (go_light; refine bodyPost_ret (by simp (maxDischargeDepth := 3) [results, Try.results43, go_sem, *]; try rfl) rfl ?_)
  all_goals refine ⟨⟨_, _, _, _, _, _⟩, ret_lf ?_, ?_, ?_⟩
  all_goals (go_light; first | ((repeat (first | with_reducible exact Below.refl _ _ | with_reducible exact below_regrown _ _ _ | with_reducible refine bel_step0 (by assumption) ?_ | with_reducible refine bel_alloc0 ?_ _ | with_reducible refine bel_regrown0 ?_ _ _ | with_reducible refine bel_regrown ?_ (by first | omega | (simp; done) | (simp; omega)) _ _ | with_reducible refine below_drewN ?_ _ | with_reducible refine Below.drew ?_ | with_reducible refine Below.alloc ?_ (by first | omega | (simp; done) | (simp; omega)) _ | with_reducible refine Below.setCell ?_ (by first | omega | (simp; done) | (simp; omega)) _ | with_reducible refine bel_step (by assumption) (by first | omega | (simp; done) | (simp; omega)) ?_ | with_reducible refine bel_grown (by assumption) (by first | omega | (simp; done) | (simp; omega)) (by first | omega | (simp; done) | (simp; omega)) ?_)); done) | (skip; (try unfold fitsL at *); (try unfold rawL at *); simp_all; done) | (skip; (try unfold fitsL at *); (try unfold rawL at *); simp_all; omega) | (skip; (try unfold fitsL at *); (try unfold rawL at *); simp_all; (repeat' split) <;> first | rfl | omega | (simp_all; done) | (simp_all; omega)))
set_option maxHeartbeats 2000000 in
theorem C_l21Make6 (day state act period closed holds : Int) (v : Int) (w : World) (hok : (⟨day, state, act, period, closed, holds⟩ : Lf).ok = true) (hi : I64 v) (hv : 1 ≤ v) :
    Calls Try.prog 43 #[.agg #[.int .i64 day, .int .i64 state, .int .i64 act, .int .i64 period, .int .i64 closed, .int .i64 holds], .agg #[.int .i64 6, .int .i64 v]] w fun e w' => ∃ R : Lf, e = .returned (.tuple #[.agg #[.int .i64 (R).day, .int .i64 (R).state, .int .i64 (R).act, .int .i64 (R).period, .int .i64 (R).closed, .int .i64 (R).holds], .bool (canL (⟨day, state, act, period, closed, holds⟩ : Lf) 6 v)]) ∧ (canL (⟨day, state, act, period, closed, holds⟩ : Lf) 6 v = true → R = rawL (⟨day, state, act, period, closed, holds⟩ : Lf) 6 v) ∧ Below w.heap.size w w' := by
  obtain ⟨a1, a2, a3, a4, a5, a6, a7, a8, a9, a10, a11, a12⟩ := Lf.bounds hok
  unfold I64 at hi
  obtain ⟨i1, i2⟩ := hi
  rw [can6 hok hv]; by_cases hx : v ≤ 20000 - period; all_goals by_cases hst : state ≤ 1
  all_goals (have HOK := Lib.hid hok; clear hok)
  all_goals go_enter Try.func43, Try.ntmps43
  all_goals go_wp2
  all_goals go_region
  all_goals (go_wp2_with (first | (go_at_call 54; refine (C_l21Final _ _ ⟨a3, a4⟩).mono ?_; rintro e w' ⟨rfl, rfl⟩) | (go_at_call 41; refine (C_l21WhyX _ _ _ _ _ _ _ HOK.out).mono ?_; rintro e w' ⟨rfl, rfl⟩)))
  all_goals (first | (go_region_with (go_at_call 35; refine (C_l21Good _ _ _ _ _ _ _).mono ?_; rintro e w' ⟨rfl, hb'⟩; obtain ⟨hc', hf'⟩ := bcell hb'; (try simp only [World.size_drew] at hc' hf'); have hz' := bsize hb'; (try simp at hz'); have ht' := (by first | exact lt_le5 hz' | exact lt_le4 hz' | exact lt_le3 hz' | exact lt_le2 hz' | exact lt_le1 hz' | exact lt_le0 hz' : ∀ n, n < _ → n < w'.heap.size); (first | (obtain ⟨hs1, hs2, hs3, hs4, hs5⟩ := sz5 hz') | (obtain ⟨hs1, hs2, hs3, hs4⟩ := sz4 hz') | (obtain ⟨hs1, hs2, hs3⟩ := sz3 hz') | (obtain ⟨hs1, hs2⟩ := sz2 hz') | (have hs1 := sz1 hz') | skip); (try have hq0 : w.heap.size < w'.heap.size := by omega); (try have hq1 : w.heap.size + 1 < w'.heap.size := by omega); (try have hq2 : w.heap.size + 1 + 1 < w'.heap.size := by omega); (try have hq3 : w.heap.size + 1 + 1 + 1 < w'.heap.size := by omega))) | go_region | skip)
  all_goals (try go_wp2)
  all_goals (go_light; refine bodyPost_ret (by simp (maxDischargeDepth := 3) [results, Try.results43, go_sem, *]; try rfl) rfl ?_)
  all_goals refine ⟨⟨_, _, _, _, _, _⟩, ret_lf ?_, ?_, ?_⟩
  all_goals (go_light; first | ((repeat (first | with_reducible exact Below.refl _ _ | with_reducible exact below_regrown _ _ _ | with_reducible refine bel_step0 (by assumption) ?_ | with_reducible refine bel_alloc0 ?_ _ | with_reducible refine bel_regrown0 ?_ _ _ | with_reducible refine bel_regrown ?_ (by first | omega | (simp; done) | (simp; omega)) _ _ | with_reducible refine below_drewN ?_ _ | with_reducible refine Below.drew ?_ | with_reducible refine Below.alloc ?_ (by first | omega | (simp; done) | (simp; omega)) _ | with_reducible refine Below.setCell ?_ (by first | omega | (simp; done) | (simp; omega)) _ | with_reducible refine bel_step (by assumption) (by first | omega | (simp; done) | (simp; omega)) ?_ | with_reducible refine bel_grown (by assumption) (by first | omega | (simp; done) | (simp; omega)) (by first | omega | (simp; done) | (simp; omega)) ?_)); done) | (skip; (try unfold fitsL at *); (try unfold rawL at *); simp_all; done) | (skip; (try unfold fitsL at *); (try unfold rawL at *); simp_all; omega) | (skip; (try unfold fitsL at *); (try unfold rawL at *); simp_all; (repeat' split) <;> first | rfl | omega | (simp_all; done) | (simp_all; omega)))
end Go.Proofs.Ytpkgfpgccfnkpaa
