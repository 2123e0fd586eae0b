/- What the reference's steps of lives compute. No condition. -/
import Derived.Test.YtpkgfpgccfnkpaaLifeD
namespace Go.Proofs.Ytpkgfpgccfnkpaa
set_option linter.unusedVariables false
open Go.RowKit

theorem ret_lf {a b c d e f : Int} {x y : Bool} (h : x = y) : Ending.returned (.tuple #[.agg #[.int .i64 a, .int .i64 b, .int .i64 c, .int .i64 d, .int .i64 e, .int .i64 f], .bool x]) =
    Ending.returned (.tuple #[.agg #[.int .i64 (Lf.mk a b c d e f).day, .int .i64 (Lf.mk a b c d e f).state, .int .i64 (Lf.mk a b c d e f).act, .int .i64 (Lf.mk a b c d e f).period, .int .i64 (Lf.mk a b c d e f).closed, .int .i64 (Lf.mk a b c d e f).holds], .bool y]) := by rw [h]
theorem canL_eq {l : Lf} {k v : Int} (hok : l.ok = true) (hs : stepOkI k v = true) : canL l k v = (fitsL l k && (rawL l k v).ok) := by simp [canL, hok, hs]
theorem ready_of {day state act period closed holds v : Int} (h : (⟨day, state, act, period, closed, holds⟩ : Lf).ok = true) : (fitsL (⟨day, state, act, period, closed, holds⟩ : Lf) 7 && (rawL (⟨day, state, act, period, closed, holds⟩ : Lf) 7 v).ok) = (ready (⟨day, state, act, period, closed, holds⟩ : Lf) && (rawL (⟨day, state, act, period, closed, holds⟩ : Lf) 7 v).ok) := by
  obtain ⟨a1, a2, a3, a4, a5, a6, a7, a8, a9, a10, a11, a12⟩ := Lf.bounds h
  cases hr : (rawL (⟨day, state, act, period, closed, holds⟩ : Lf) 7 v).ok
  · simp
  · simp only [Bool.and_true]
    rw [Bool.eq_iff_iff]
    have n1 : ¬ (1 + act = 0) := by omega
    have n2 : ¬ (1 + act = 1) := by omega
    simp [rawL, Lf.ok, within, n1, n2] at hr
    by_cases h0 : state = 0
    · simp [fitsL, ready, h0]
    · simp [Lf.ok, within, h0] at h
      simp [fitsL, ready]
      omega

set_option maxHeartbeats 2000000 in
theorem C_l21Make2 (day state act period closed holds : Int) (v : Int) (w : World) (hok : (⟨day, state, act, period, closed, holds⟩ : Lf).ok = true) (hs : stepOkI 2 v = true) :
    Calls Try.prog 43 #[.agg #[.int .i64 day, .int .i64 state, .int .i64 act, .int .i64 period, .int .i64 closed, .int .i64 holds], .agg #[.int .i64 2, .int .i64 v]] w fun e w' => ∃ R : Lf, e = .returned (.tuple #[.agg #[.int .i64 (R).day, .int .i64 (R).state, .int .i64 (R).act, .int .i64 (R).period, .int .i64 (R).closed, .int .i64 (R).holds], .bool (canL (⟨day, state, act, period, closed, holds⟩ : Lf) 2 v)]) ∧ (canL (⟨day, state, act, period, closed, holds⟩ : Lf) 2 v = true → R = rawL (⟨day, state, act, period, closed, holds⟩ : Lf) 2 v) ∧ Below w.heap.size w w' := by
  obtain ⟨a1, a2, a3, a4, a5, a6, a7, a8, a9, a10, a11, a12⟩ := Lf.bounds hok
  rw [canL_eq hok hs]
  by_cases hst : (state == 0) = true
  all_goals (have HOK := Lib.hid hok; clear hs hok)
  all_goals go_enter Try.func43, Try.ntmps43
  all_goals go_wp2
  all_goals go_region
  all_goals (go_wp2_with (first | (go_at_call 54; refine (C_l21Final _ _ ⟨a3, a4⟩).mono ?_; rintro e w' ⟨rfl, rfl⟩) | (go_at_call 41; refine (C_l21Why _ _ _ _ _ _ _ hok).mono ?_; rintro e w' ⟨rfl, hb'⟩; obtain ⟨hc', hf'⟩ := bcell hb'; (try simp only [World.size_drew] at hc' hf'); have hz' := bsize hb'; (try simp at hz'); have ht' := (by first | exact lt_le5 hz' | exact lt_le4 hz' | exact lt_le3 hz' | exact lt_le2 hz' | exact lt_le1 hz' | exact lt_le0 hz' : ∀ n, n < _ → n < w'.heap.size); (first | (obtain ⟨hs1, hs2, hs3, hs4, hs5⟩ := sz5 hz') | (obtain ⟨hs1, hs2, hs3, hs4⟩ := sz4 hz') | (obtain ⟨hs1, hs2, hs3⟩ := sz3 hz') | (obtain ⟨hs1, hs2⟩ := sz2 hz') | (have hs1 := sz1 hz') | skip); (try have hq0 : w.heap.size < w'.heap.size := by omega); (try have hq1 : w.heap.size + 1 < w'.heap.size := by omega); (try have hq2 : w.heap.size + 1 + 1 < w'.heap.size := by omega); (try have hq3 : w.heap.size + 1 + 1 + 1 < w'.heap.size := by omega))))
  all_goals (first | (go_region_with (go_at_call 35; refine (C_l21Good _ _ _ _ _ _ _).mono ?_; rintro e w' ⟨rfl, hb'⟩; obtain ⟨hc', hf'⟩ := bcell hb'; (try simp only [World.size_drew] at hc' hf'); have hz' := bsize hb'; (try simp at hz'); have ht' := (by first | exact lt_le5 hz' | exact lt_le4 hz' | exact lt_le3 hz' | exact lt_le2 hz' | exact lt_le1 hz' | exact lt_le0 hz' : ∀ n, n < _ → n < w'.heap.size); (first | (obtain ⟨hs1, hs2, hs3, hs4, hs5⟩ := sz5 hz') | (obtain ⟨hs1, hs2, hs3, hs4⟩ := sz4 hz') | (obtain ⟨hs1, hs2, hs3⟩ := sz3 hz') | (obtain ⟨hs1, hs2⟩ := sz2 hz') | (have hs1 := sz1 hz') | skip); (try have hq0 : w.heap.size < w'.heap.size := by omega); (try have hq1 : w.heap.size + 1 < w'.heap.size := by omega); (try have hq2 : w.heap.size + 1 + 1 < w'.heap.size := by omega); (try have hq3 : w.heap.size + 1 + 1 + 1 < w'.heap.size := by omega))) | go_region | skip)
  all_goals (try go_wp2)
  all_goals (go_light; refine bodyPost_ret (by simp (maxDischargeDepth := 3) [results, Try.results43, go_sem, *]; try rfl) rfl ?_)
  all_goals refine ⟨⟨_, _, _, _, _, _⟩, ret_lf ?_, ?_, ?_⟩
  all_goals (go_light; first | ((repeat (first | with_reducible exact Below.refl _ _ | with_reducible exact below_regrown _ _ _ | with_reducible refine bel_step0 (by assumption) ?_ | with_reducible refine bel_alloc0 ?_ _ | with_reducible refine bel_regrown0 ?_ _ _ | with_reducible refine bel_regrown ?_ (by first | omega | (simp; done) | (simp; omega)) _ _ | with_reducible refine below_drewN ?_ _ | with_reducible refine Below.drew ?_ | with_reducible refine Below.alloc ?_ (by first | omega | (simp; done) | (simp; omega)) _ | with_reducible refine Below.setCell ?_ (by first | omega | (simp; done) | (simp; omega)) _ | with_reducible refine bel_step (by assumption) (by first | omega | (simp; done) | (simp; omega)) ?_ | with_reducible refine bel_grown (by assumption) (by first | omega | (simp; done) | (simp; omega)) (by first | omega | (simp; done) | (simp; omega)) ?_)); done) | (skip; (try unfold fitsL at *); (try unfold rawL at *); simp_all; done) | (skip; (try unfold fitsL at *); (try unfold rawL at *); simp_all; omega) | (skip; (try unfold fitsL at *); (try unfold rawL at *); simp_all; (repeat' split) <;> first | rfl | omega | (simp_all; done) | (simp_all; omega)))
set_option maxHeartbeats 2000000 in
theorem C_l21Make3 (day state act period closed holds : Int) (v : Int) (w : World) (hok : (⟨day, state, act, period, closed, holds⟩ : Lf).ok = true) (hs : stepOkI 3 v = true) :
    Calls Try.prog 43 #[.agg #[.int .i64 day, .int .i64 state, .int .i64 act, .int .i64 period, .int .i64 closed, .int .i64 holds], .agg #[.int .i64 3, .int .i64 v]] w fun e w' => ∃ R : Lf, e = .returned (.tuple #[.agg #[.int .i64 (R).day, .int .i64 (R).state, .int .i64 (R).act, .int .i64 (R).period, .int .i64 (R).closed, .int .i64 (R).holds], .bool (canL (⟨day, state, act, period, closed, holds⟩ : Lf) 3 v)]) ∧ (canL (⟨day, state, act, period, closed, holds⟩ : Lf) 3 v = true → R = rawL (⟨day, state, act, period, closed, holds⟩ : Lf) 3 v) ∧ Below w.heap.size w w' := by
  obtain ⟨a1, a2, a3, a4, a5, a6, a7, a8, a9, a10, a11, a12⟩ := Lf.bounds hok
  rw [canL_eq hok hs]
  by_cases hst : (state == 1) = true
  all_goals (have HOK := Lib.hid hok; clear hs hok)
  all_goals go_enter Try.func43, Try.ntmps43
  all_goals go_wp2
  all_goals go_region
  all_goals (go_wp2_with (first | (go_at_call 54; refine (C_l21Final _ _ ⟨a3, a4⟩).mono ?_; rintro e w' ⟨rfl, rfl⟩) | (go_at_call 41; refine (C_l21Why _ _ _ _ _ _ _ hok).mono ?_; rintro e w' ⟨rfl, hb'⟩; obtain ⟨hc', hf'⟩ := bcell hb'; (try simp only [World.size_drew] at hc' hf'); have hz' := bsize hb'; (try simp at hz'); have ht' := (by first | exact lt_le5 hz' | exact lt_le4 hz' | exact lt_le3 hz' | exact lt_le2 hz' | exact lt_le1 hz' | exact lt_le0 hz' : ∀ n, n < _ → n < w'.heap.size); (first | (obtain ⟨hs1, hs2, hs3, hs4, hs5⟩ := sz5 hz') | (obtain ⟨hs1, hs2, hs3, hs4⟩ := sz4 hz') | (obtain ⟨hs1, hs2, hs3⟩ := sz3 hz') | (obtain ⟨hs1, hs2⟩ := sz2 hz') | (have hs1 := sz1 hz') | skip); (try have hq0 : w.heap.size < w'.heap.size := by omega); (try have hq1 : w.heap.size + 1 < w'.heap.size := by omega); (try have hq2 : w.heap.size + 1 + 1 < w'.heap.size := by omega); (try have hq3 : w.heap.size + 1 + 1 + 1 < w'.heap.size := by omega))))
  all_goals (first | (go_region_with (go_at_call 35; refine (C_l21Good _ _ _ _ _ _ _).mono ?_; rintro e w' ⟨rfl, hb'⟩; obtain ⟨hc', hf'⟩ := bcell hb'; (try simp only [World.size_drew] at hc' hf'); have hz' := bsize hb'; (try simp at hz'); have ht' := (by first | exact lt_le5 hz' | exact lt_le4 hz' | exact lt_le3 hz' | exact lt_le2 hz' | exact lt_le1 hz' | exact lt_le0 hz' : ∀ n, n < _ → n < w'.heap.size); (first | (obtain ⟨hs1, hs2, hs3, hs4, hs5⟩ := sz5 hz') | (obtain ⟨hs1, hs2, hs3, hs4⟩ := sz4 hz') | (obtain ⟨hs1, hs2, hs3⟩ := sz3 hz') | (obtain ⟨hs1, hs2⟩ := sz2 hz') | (have hs1 := sz1 hz') | skip); (try have hq0 : w.heap.size < w'.heap.size := by omega); (try have hq1 : w.heap.size + 1 < w'.heap.size := by omega); (try have hq2 : w.heap.size + 1 + 1 < w'.heap.size := by omega); (try have hq3 : w.heap.size + 1 + 1 + 1 < w'.heap.size := by omega))) | go_region | skip)
  all_goals (try go_wp2)
  all_goals (go_light; refine bodyPost_ret (by simp (maxDischargeDepth := 3) [results, Try.results43, go_sem, *]; try rfl) rfl ?_)
  all_goals refine ⟨⟨_, _, _, _, _, _⟩, ret_lf ?_, ?_, ?_⟩
  all_goals (go_light; first | ((repeat (first | with_reducible exact Below.refl _ _ | with_reducible exact below_regrown _ _ _ | with_reducible refine bel_step0 (by assumption) ?_ | with_reducible refine bel_alloc0 ?_ _ | with_reducible refine bel_regrown0 ?_ _ _ | with_reducible refine bel_regrown ?_ (by first | omega | (simp; done) | (simp; omega)) _ _ | with_reducible refine below_drewN ?_ _ | with_reducible refine Below.drew ?_ | with_reducible refine Below.alloc ?_ (by first | omega | (simp; done) | (simp; omega)) _ | with_reducible refine Below.setCell ?_ (by first | omega | (simp; done) | (simp; omega)) _ | with_reducible refine bel_step (by assumption) (by first | omega | (simp; done) | (simp; omega)) ?_ | with_reducible refine bel_grown (by assumption) (by first | omega | (simp; done) | (simp; omega)) (by first | omega | (simp; done) | (simp; omega)) ?_)); done) | (skip; (try unfold fitsL at *); (try unfold rawL at *); simp_all; done) | (skip; (try unfold fitsL at *); (try unfold rawL at *); simp_all; omega) | (skip; (try unfold fitsL at *); (try unfold rawL at *); simp_all; (repeat' split) <;> first | rfl | omega | (simp_all; done) | (simp_all; omega)))
end Go.Proofs.Ytpkgfpgccfnkpaa
