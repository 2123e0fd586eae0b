/- What the functions on lives compute, one contract for each. No condition. -/
import Derived.Test.YtpkgfpgccfnkpaaLifeA
namespace Go.Proofs.Ytpkgfpgccfnkpaa
set_option linter.unusedVariables false
open Go.RowKit


theorem C_toLife (day state act period closed holds : Int) (w : World) :
    Calls Try.prog 12 #[.agg #[.int .i64 day, .int .i64 state, .int .i64 act, .int .i64 period, .int .i64 closed, .int .i64 holds]] w fun e w' => e = .returned (.agg #[.int .i64 day, .int .i64 state, .int .i64 act, .int .i64 period, .int .i64 closed, .int .i64 holds]) ∧ Below w.heap.size w w' := by
  go_enter Try.func12, Try.ntmps12
  go_wp2
  (go_light; refine bodyPost_ret (by simp (maxDischargeDepth := 3) [results, Try.results12, go_sem, *]; try rfl) rfl ?_)
  refine ⟨rfl, ?_⟩
  (repeat (first | with_reducible exact Below.refl _ _ | with_reducible exact below_regrown _ _ _ | with_reducible refine bel_step0 (by assumption) ?_ | with_reducible refine bel_alloc0 ?_ _ | with_reducible refine bel_regrown0 ?_ _ _ | with_reducible refine bel_regrown ?_ (by first | omega | (simp; done) | (simp; omega)) _ _ | with_reducible refine below_drewN ?_ _ | with_reducible refine Below.drew ?_ | with_reducible refine Below.alloc ?_ (by first | omega | (simp; done) | (simp; omega)) _ | with_reducible refine Below.setCell ?_ (by first | omega | (simp; done) | (simp; omega)) _ | with_reducible refine bel_step (by assumption) (by first | omega | (simp; done) | (simp; omega)) ?_ | with_reducible refine bel_grown (by assumption) (by first | omega | (simp; done) | (simp; omega)) (by first | omega | (simp; done) | (simp; omega)) ?_))


def Lf.eq (a b : Lf) : Bool := a.day == b.day && a.state == b.state && a.act == b.act && a.period == b.period && a.closed == b.closed && a.holds == b.holds
theorem C_eqLife (day state act period closed holds : Int) (day' state' act' period' closed' holds' : Int) (w : World) :
    Calls Try.prog 18 #[.agg #[.int .i64 day, .int .i64 state, .int .i64 act, .int .i64 period, .int .i64 closed, .int .i64 holds], .agg #[.int .i64 day', .int .i64 state', .int .i64 act', .int .i64 period', .int .i64 closed', .int .i64 holds']] w fun e w' => e = .returned (.bool ((⟨day, state, act, period, closed, holds⟩ : Lf).eq ⟨day', state', act', period', closed', holds'⟩)) ∧ Below w.heap.size w w' := by
  go_enter Try.func18, Try.ntmps18
  go_wp2
  all_goals (first | go_ret | go_ret2 | go_ret3)
  all_goals refine ⟨ret_bool ?_, ?_⟩
  all_goals (go_light; first | ((repeat (first | with_reducible exact Below.refl _ _ | with_reducible exact below_regrown _ _ _ | with_reducible refine bel_step0 (by assumption) ?_ | with_reducible refine bel_alloc0 ?_ _ | with_reducible refine bel_regrown0 ?_ _ _ | with_reducible refine bel_regrown ?_ (by first | omega | (simp; done) | (simp; omega)) _ _ | with_reducible refine below_drewN ?_ _ | with_reducible refine Below.drew ?_ | with_reducible refine Below.alloc ?_ (by first | omega | (simp; done) | (simp; omega)) _ | with_reducible refine Below.setCell ?_ (by first | omega | (simp; done) | (simp; omega)) _ | with_reducible refine bel_step (by assumption) (by first | omega | (simp; done) | (simp; omega)) ?_ | with_reducible refine bel_grown (by assumption) (by first | omega | (simp; done) | (simp; omega)) (by first | omega | (simp; done) | (simp; omega)) ?_)); done) | (skip; (try unfold Lf.eq at *); simp_all; done) | (skip; (try unfold Lf.eq at *); simp_all; omega) | (skip; (try unfold Lf.eq at *); simp_all; (repeat' split) <;> first | rfl | omega | (simp_all; done) | (simp_all; omega)))


theorem C_l1Most (a b : Int) (w : World) :
    Calls Try.prog 40 #[.int .i64 a, .int .i64 b] w fun e w' => e = .returned (.int .i64 (max a b)) ∧ w = w' := by
  go_enter Try.func40, Try.ntmps40
  go_wp2
  all_goals (go_ret; exact ⟨ret_int (by omega), rfl⟩)


theorem Lf.bounds {day state act period closed holds : Int} : (⟨day, state, act, period, closed, holds⟩ : Lf).ok = true → 0 ≤ day ∧ day ≤ 20000 ∧ 1 ≤ act ∧ act ≤ 3 ∧ 0 ≤ period ∧ period ≤ 20000 ∧ -1 ≤ closed ∧ closed ≤ 20000 ∧ 0 ≤ state ∧ state ≤ 4 ∧ 0 ≤ holds ∧ holds ≤ 9 := by
  intro h
  simp [Lf.ok, within] at h
  obtain ⟨h1, h2⟩ := h
  split at h2 <;> omega

def daysToEnd (l : Lf) : Int := if l.ok && l.state == 1 then max (l.closed + l.period - l.day) 0 else 0
set_option maxHeartbeats 1000000 in
theorem C_DaysToEndI (day state act period closed holds : Int) (w : World) :
    Calls Try.prog 15 #[.agg #[.int .i64 day, .int .i64 state, .int .i64 act, .int .i64 period, .int .i64 closed, .int .i64 holds]] w fun e w' => e = .returned (.tuple #[.int .i64 (daysToEnd (⟨day, state, act, period, closed, holds⟩ : Lf)), .bool ((⟨day, state, act, period, closed, holds⟩ : Lf).ok && state == 1)]) ∧ Below w.heap.size w w' := by
  cases hok : (⟨day, state, act, period, closed, holds⟩ : Lf).ok
  all_goals try (have hd := Lf.bounds hok; obtain ⟨a1, a2, a3, a4, a5, a6, a7, a8, a9, a10, a11, a12⟩ := hd)
  all_goals
    go_enter Try.func15, Try.ntmps15
  go_wp2_with (go_at_call 13; refine (C_IsLife _ _ _ _ _ _ _).mono ?_; rintro e w' ⟨rfl, hb'⟩; obtain ⟨hc', hf'⟩ := bcell hb'; (try simp only [World.size_drew] at hc' hf'); have hz' := bsize hb'; (try simp at hz'); have ht' := (by first | exact lt_le5 hz' | exact lt_le4 hz' | exact lt_le3 hz' | exact lt_le2 hz' | exact lt_le1 hz' | exact lt_le0 hz' : ∀ n, n < _ → n < w'.heap.size); (first | (obtain ⟨hs1, hs2, hs3, hs4, hs5⟩ := sz5 hz') | (obtain ⟨hs1, hs2, hs3, hs4⟩ := sz4 hz') | (obtain ⟨hs1, hs2, hs3⟩ := sz3 hz') | (obtain ⟨hs1, hs2⟩ := sz2 hz') | (have hs1 := sz1 hz') | skip); (try have hq0 : w.heap.size < w'.heap.size := by omega); (try have hq1 : w.heap.size + 1 < w'.heap.size := by omega); (try have hq2 : w.heap.size + 1 + 1 < w'.heap.size := by omega); (try have hq3 : w.heap.size + 1 + 1 + 1 < w'.heap.size := by omega))
  all_goals (first | go_ret | go_ret2 | go_ret3)
  all_goals refine ⟨?_, ?_⟩
  all_goals (go_light; first | ((repeat (first | with_reducible exact Below.refl _ _ | with_reducible exact below_regrown _ _ _ | with_reducible refine bel_step0 (by assumption) ?_ | with_reducible refine bel_alloc0 ?_ _ | with_reducible refine bel_regrown0 ?_ _ _ | with_reducible refine bel_regrown ?_ (by first | omega | (simp; done) | (simp; omega)) _ _ | with_reducible refine below_drewN ?_ _ | with_reducible refine Below.drew ?_ | with_reducible refine Below.alloc ?_ (by first | omega | (simp; done) | (simp; omega)) _ | with_reducible refine Below.setCell ?_ (by first | omega | (simp; done) | (simp; omega)) _ | with_reducible refine bel_step (by assumption) (by first | omega | (simp; done) | (simp; omega)) ?_ | with_reducible refine bel_grown (by assumption) (by first | omega | (simp; done) | (simp; omega)) (by first | omega | (simp; done) | (simp; omega)) ?_)); done) | (skip; (try unfold daysToEnd at *); simp_all; done) | (skip; (try unfold daysToEnd at *); simp_all; omega) | (skip; (try unfold daysToEnd at *); simp_all; (repeat' split) <;> first | rfl | omega | (simp_all; done) | (simp_all; omega)))

set_option maxHeartbeats 1000000 in
theorem C_DaysToEndS (day state act period closed holds : Int) (w : World) :
    Calls Try.prog 14 #[.agg #[.int .i64 day, .int .i64 state, .int .i64 act, .int .i64 period, .int .i64 closed, .int .i64 holds]] w fun e w' => e = .returned (.tuple #[.int .i64 (daysToEnd (⟨day, state, act, period, closed, holds⟩ : Lf)), .bool ((⟨day, state, act, period, closed, holds⟩ : Lf).ok && state == 1)]) ∧ Below w.heap.size w w' := by
  cases hok : (⟨day, state, act, period, closed, holds⟩ : Lf).ok
  all_goals try (have hd := Lf.bounds hok; obtain ⟨a1, a2, a3, a4, a5, a6, a7, a8, a9, a10, a11, a12⟩ := hd)
  all_goals
    go_enter Try.func14, Try.ntmps14
  go_wp2_with (first | (go_at_call 35; refine (C_l21Good _ _ _ _ _ _ _).mono ?_; rintro e w' ⟨rfl, hb'⟩; obtain ⟨hc', hf'⟩ := bcell hb'; (try simp only [World.size_drew] at hc' hf'); have hz' := bsize hb'; (try simp at hz'); have ht' := (by first | exact lt_le5 hz' | exact lt_le4 hz' | exact lt_le3 hz' | exact lt_le2 hz' | exact lt_le1 hz' | exact lt_le0 hz' : ∀ n, n < _ → n < w'.heap.size); (first | (obtain ⟨hs1, hs2, hs3, hs4, hs5⟩ := sz5 hz') | (obtain ⟨hs1, hs2, hs3, hs4⟩ := sz4 hz') | (obtain ⟨hs1, hs2, hs3⟩ := sz3 hz') | (obtain ⟨hs1, hs2⟩ := sz2 hz') | (have hs1 := sz1 hz') | skip); (try have hq0 : w.heap.size < w'.heap.size := by omega); (try have hq1 : w.heap.size + 1 < w'.heap.size := by omega); (try have hq2 : w.heap.size + 1 + 1 < w'.heap.size := by omega); (try have hq3 : w.heap.size + 1 + 1 + 1 < w'.heap.size := by omega)) | (go_at_call 40; refine (C_l1Most _ _ _).mono ?_; rintro e w' ⟨rfl, rfl⟩))
  all_goals (first | go_ret | go_ret2 | go_ret3)
  all_goals refine ⟨?_, ?_⟩
  all_goals (go_light; first | ((repeat (first | with_reducible exact Below.refl _ _ | with_reducible exact below_regrown _ _ _ | with_reducible refine bel_step0 (by assumption) ?_ | with_reducible refine bel_alloc0 ?_ _ | with_reducible refine bel_regrown0 ?_ _ _ | with_reducible refine bel_regrown ?_ (by first | omega | (simp; done) | (simp; omega)) _ _ | with_reducible refine below_drewN ?_ _ | with_reducible refine Below.drew ?_ | with_reducible refine Below.alloc ?_ (by first | omega | (simp; done) | (simp; omega)) _ | with_reducible refine Below.setCell ?_ (by first | omega | (simp; done) | (simp; omega)) _ | with_reducible refine bel_step (by assumption) (by first | omega | (simp; done) | (simp; omega)) ?_ | with_reducible refine bel_grown (by assumption) (by first | omega | (simp; done) | (simp; omega)) (by first | omega | (simp; done) | (simp; omega)) ?_)); done) | (skip; (try unfold daysToEnd at *); simp_all; done) | (skip; (try unfold daysToEnd at *); simp_all; omega) | (skip; (try unfold daysToEnd at *); simp_all; (repeat' split) <;> first | rfl | omega | (simp_all; done) | (simp_all; omega)))


def whyNot (l : Lf) : ByteArray := if l.state > 1 then ⟨#[101, 110, 100, 101, 100]⟩ else if l.state == 0 then ⟨#[111, 112, 101, 110]⟩ else if l.closed + l.period > l.day then ⟨#[101, 97, 114, 108, 121]⟩ else if l.act == 3 && decide (l.holds > 0) then ⟨#[104, 101, 108, 100]⟩ else ⟨#[114, 101, 97, 100, 121]⟩
def ready (l : Lf) : Bool := !decide (l.state > 1) && l.state != 0 && !decide (l.closed + l.period > l.day) && !(l.act == 3 && decide (l.holds > 0))
def whyNotEnd (l : Lf) : ByteArray := if l.ok then whyNot l else ⟨#[]⟩
theorem whyNot_cases (l : Lf) : (whyNot l = ⟨#[101, 110, 100, 101, 100]⟩ ∧ ready l = false) ∨ (whyNot l = ⟨#[111, 112, 101, 110]⟩ ∧ ready l = false) ∨ (whyNot l = ⟨#[101, 97, 114, 108, 121]⟩ ∧ ready l = false) ∨ (whyNot l = ⟨#[104, 101, 108, 100]⟩ ∧ ready l = false) ∨ (whyNot l = ⟨#[114, 101, 97, 100, 121]⟩ ∧ ready l = true) := by
  unfold whyNot ready
  by_cases h1 : l.state > 1
  · simp [h1]
  · by_cases h2 : l.state = 0
    · simp [h2]
    · by_cases h3 : l.closed + l.period > l.day
      · simp [h1, h2, h3]
      · by_cases h4 : l.act = 3 <;> by_cases h5 : l.holds > 0 <;> simp [h1, h2, h3, h4, h5]

set_option maxHeartbeats 1000000 in
theorem C_l21Why (day state act period closed holds : Int) (w : World) (hok : (⟨day, state, act, period, closed, holds⟩ : Lf).ok = true) :
    Calls Try.prog 41 #[.agg #[.int .i64 day, .int .i64 state, .int .i64 act, .int .i64 period, .int .i64 closed, .int .i64 holds]] w fun e w' => e = .returned (.string (whyNot (⟨day, state, act, period, closed, holds⟩ : Lf))) ∧ Below w.heap.size w w' := by
  have hd := Lf.bounds hok
  obtain ⟨a1, a2, a3, a4, a5, a6, a7, a8, a9, a10, a11, a12⟩ := hd
  clear hok
  go_enter Try.func41, Try.ntmps41
  go_wp2
  all_goals (first | go_ret | go_ret2 | go_ret3)
  all_goals refine ⟨?_, ?_⟩
  all_goals (go_light; first | ((repeat (first | with_reducible exact Below.refl _ _ | with_reducible exact below_regrown _ _ _ | with_reducible refine bel_step0 (by assumption) ?_ | with_reducible refine bel_alloc0 ?_ _ | with_reducible refine bel_regrown0 ?_ _ _ | with_reducible refine bel_regrown ?_ (by first | omega | (simp; done) | (simp; omega)) _ _ | with_reducible refine below_drewN ?_ _ | with_reducible refine Below.drew ?_ | with_reducible refine Below.alloc ?_ (by first | omega | (simp; done) | (simp; omega)) _ | with_reducible refine Below.setCell ?_ (by first | omega | (simp; done) | (simp; omega)) _ | with_reducible refine bel_step (by assumption) (by first | omega | (simp; done) | (simp; omega)) ?_ | with_reducible refine bel_grown (by assumption) (by first | omega | (simp; done) | (simp; omega)) (by first | omega | (simp; done) | (simp; omega)) ?_)); done) | (skip; (try unfold whyNot at *); simp_all; done) | (skip; (try unfold whyNot at *); simp_all; omega) | (skip; (try unfold whyNot at *); simp_all; (repeat' split) <;> first | rfl | omega | (simp_all; done) | (simp_all; omega)))

set_option maxHeartbeats 1000000 in
theorem C_WhyNotEndI (day state act period closed holds : Int) (w : World) :
    Calls Try.prog 20 #[.agg #[.int .i64 day, .int .i64 state, .int .i64 act, .int .i64 period, .int .i64 closed, .int .i64 holds]] w fun e w' => e = .returned (.tuple #[.string (whyNotEnd (⟨day, state, act, period, closed, holds⟩ : Lf)), .bool (⟨day, state, act, period, closed, holds⟩ : Lf).ok]) ∧ Below w.heap.size w w' := by
  cases hok : (⟨day, state, act, period, closed, holds⟩ : Lf).ok
  all_goals try (have hd := Lf.bounds hok; obtain ⟨a1, a2, a3, a4, a5, a6, a7, a8, a9, a10, a11, a12⟩ := hd)
  all_goals
    go_enter Try.func20, Try.ntmps20
  go_wp2_with (go_at_call 13; refine (C_IsLife _ _ _ _ _ _ _).mono ?_; rintro e w' ⟨rfl, hb'⟩; obtain ⟨hc', hf'⟩ := bcell hb'; (try simp only [World.size_drew] at hc' hf'); have hz' := bsize hb'; (try simp at hz'); have ht' := (by first | exact lt_le5 hz' | exact lt_le4 hz' | exact lt_le3 hz' | exact lt_le2 hz' | exact lt_le1 hz' | exact lt_le0 hz' : ∀ n, n < _ → n < w'.heap.size); (first | (obtain ⟨hs1, hs2, hs3, hs4, hs5⟩ := sz5 hz') | (obtain ⟨hs1, hs2, hs3, hs4⟩ := sz4 hz') | (obtain ⟨hs1, hs2, hs3⟩ := sz3 hz') | (obtain ⟨hs1, hs2⟩ := sz2 hz') | (have hs1 := sz1 hz') | skip); (try have hq0 : w.heap.size < w'.heap.size := by omega); (try have hq1 : w.heap.size + 1 < w'.heap.size := by omega); (try have hq2 : w.heap.size + 1 + 1 < w'.heap.size := by omega); (try have hq3 : w.heap.size + 1 + 1 + 1 < w'.heap.size := by omega))
  all_goals (first | go_ret | go_ret2 | go_ret3)
  all_goals refine ⟨?_, ?_⟩
  all_goals (go_light; first | ((repeat (first | with_reducible exact Below.refl _ _ | with_reducible exact below_regrown _ _ _ | with_reducible refine bel_step0 (by assumption) ?_ | with_reducible refine bel_alloc0 ?_ _ | with_reducible refine bel_regrown0 ?_ _ _ | with_reducible refine bel_regrown ?_ (by first | omega | (simp; done) | (simp; omega)) _ _ | with_reducible refine below_drewN ?_ _ | with_reducible refine Below.drew ?_ | with_reducible refine Below.alloc ?_ (by first | omega | (simp; done) | (simp; omega)) _ | with_reducible refine Below.setCell ?_ (by first | omega | (simp; done) | (simp; omega)) _ | with_reducible refine bel_step (by assumption) (by first | omega | (simp; done) | (simp; omega)) ?_ | with_reducible refine bel_grown (by assumption) (by first | omega | (simp; done) | (simp; omega)) (by first | omega | (simp; done) | (simp; omega)) ?_)); done) | (skip; (try unfold whyNotEnd at *); (try unfold whyNot at *); simp_all; done) | (skip; (try unfold whyNotEnd at *); (try unfold whyNot at *); simp_all; omega) | (skip; (try unfold whyNotEnd at *); (try unfold whyNot at *); simp_all; (repeat' split) <;> first | rfl | omega | (simp_all; done) | (simp_all; omega)))

set_option maxHeartbeats 1000000 in
theorem C_WhyNotEndS (day state act period closed holds : Int) (w : World) :
    Calls Try.prog 19 #[.agg #[.int .i64 day, .int .i64 state, .int .i64 act, .int .i64 period, .int .i64 closed, .int .i64 holds]] w fun e w' => e = .returned (.tuple #[.string (whyNotEnd (⟨day, state, act, period, closed, holds⟩ : Lf)), .bool (⟨day, state, act, period, closed, holds⟩ : Lf).ok]) ∧ Below w.heap.size w w' := by
  cases hok : (⟨day, state, act, period, closed, holds⟩ : Lf).ok
  all_goals
    go_enter Try.func19, Try.ntmps19
  go_wp2_with (first | (go_at_call 35; refine (C_l21Good _ _ _ _ _ _ _).mono ?_; rintro e w' ⟨rfl, hb'⟩; obtain ⟨hc', hf'⟩ := bcell hb'; (try simp only [World.size_drew] at hc' hf'); have hz' := bsize hb'; (try simp at hz'); have ht' := (by first | exact lt_le5 hz' | exact lt_le4 hz' | exact lt_le3 hz' | exact lt_le2 hz' | exact lt_le1 hz' | exact lt_le0 hz' : ∀ n, n < _ → n < w'.heap.size); (first | (obtain ⟨hs1, hs2, hs3, hs4, hs5⟩ := sz5 hz') | (obtain ⟨hs1, hs2, hs3, hs4⟩ := sz4 hz') | (obtain ⟨hs1, hs2, hs3⟩ := sz3 hz') | (obtain ⟨hs1, hs2⟩ := sz2 hz') | (have hs1 := sz1 hz') | skip); (try have hq0 : w.heap.size < w'.heap.size := by omega); (try have hq1 : w.heap.size + 1 < w'.heap.size := by omega); (try have hq2 : w.heap.size + 1 + 1 < w'.heap.size := by omega); (try have hq3 : w.heap.size + 1 + 1 + 1 < w'.heap.size := by omega)) | (go_at_call 41; refine (C_l21Why _ _ _ _ _ _ _ hok).mono ?_; rintro e w' ⟨rfl, hb'⟩; obtain ⟨hc', hf'⟩ := bcell hb'; (try simp only [World.size_drew] at hc' hf'); have hz' := bsize hb'; (try simp at hz'); have ht' := (by first | exact lt_le5 hz' | exact lt_le4 hz' | exact lt_le3 hz' | exact lt_le2 hz' | exact lt_le1 hz' | exact lt_le0 hz' : ∀ n, n < _ → n < w'.heap.size); (first | (obtain ⟨hs1, hs2, hs3, hs4, hs5⟩ := sz5 hz') | (obtain ⟨hs1, hs2, hs3, hs4⟩ := sz4 hz') | (obtain ⟨hs1, hs2, hs3⟩ := sz3 hz') | (obtain ⟨hs1, hs2⟩ := sz2 hz') | (have hs1 := sz1 hz') | skip); (try have hq0 : w.heap.size < w'.heap.size := by omega); (try have hq1 : w.heap.size + 1 < w'.heap.size := by omega); (try have hq2 : w.heap.size + 1 + 1 < w'.heap.size := by omega); (try have hq3 : w.heap.size + 1 + 1 + 1 < w'.heap.size := by omega)))
  all_goals (first | go_ret | go_ret2 | go_ret3)
  all_goals refine ⟨?_, ?_⟩
  all_goals (go_light; first | ((repeat (first | with_reducible exact Below.refl _ _ | with_reducible exact below_regrown _ _ _ | with_reducible refine bel_step0 (by assumption) ?_ | with_reducible refine bel_alloc0 ?_ _ | with_reducible refine bel_regrown0 ?_ _ _ | with_reducible refine bel_regrown ?_ (by first | omega | (simp; done) | (simp; omega)) _ _ | with_reducible refine below_drewN ?_ _ | with_reducible refine Below.drew ?_ | with_reducible refine Below.alloc ?_ (by first | omega | (simp; done) | (simp; omega)) _ | with_reducible refine Below.setCell ?_ (by first | omega | (simp; done) | (simp; omega)) _ | with_reducible refine bel_step (by assumption) (by first | omega | (simp; done) | (simp; omega)) ?_ | with_reducible refine bel_grown (by assumption) (by first | omega | (simp; done) | (simp; omega)) (by first | omega | (simp; done) | (simp; omega)) ?_)); done) | (skip; (try unfold whyNotEnd at *); simp_all; done) | (skip; (try unfold whyNotEnd at *); simp_all; omega) | (skip; (try unfold whyNotEnd at *); simp_all; (repeat' split) <;> first | rfl | omega | (simp_all; done) | (simp_all; omega)))


end Go.Proofs.Ytpkgfpgccfnkpaa
