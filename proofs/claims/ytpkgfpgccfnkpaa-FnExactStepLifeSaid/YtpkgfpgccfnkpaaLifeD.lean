/- What the steps of lives compute, one contract for each function. No condition. -/
import Derived.Test.YtpkgfpgccfnkpaaLifeC
namespace Go.Proofs.Ytpkgfpgccfnkpaa
set_option linter.unusedVariables false
open Go.RowKit

def stepOkI (k v : Int) : Bool := if k == 1 || k == 6 then within v 1 20000 else within k 1 7 && v == 0
def stepOkS (k v : Int) : Bool := if k == 1 || k == 6 then decide (v ≥ 1) else within k 2 7 && v == 0
theorem C_isLifeStep (k v : Int) (w : World) :
    Calls Try.prog 44 #[.agg #[.int .i64 k, .int .i64 v]] w fun e w' => e = .returned (.bool (stepOkI k v)) ∧ Below w.heap.size w w' := by
  go_enter Try.func44, Try.ntmps44
  go_wp2_with (go_at_call 37; refine (C_within _ _ _ _).mono ?_; rintro e w' ⟨rfl, rfl⟩)
  all_goals (first | go_ret | go_ret2 | go_ret3)
  all_goals refine ⟨ret_bool ?_, ?_⟩
  all_goals (go_light; first | ((repeat (first | with_reducible exact Below.refl _ _ | with_reducible exact below_regrown _ _ _ | with_reducible refine bel_step0 (by assumption) ?_ | with_reducible refine bel_alloc0 ?_ _ | with_reducible refine bel_regrown0 ?_ _ _ | with_reducible refine bel_regrown ?_ (by first | omega | (simp; done) | (simp; omega)) _ _ | with_reducible refine below_drewN ?_ _ | with_reducible refine Below.drew ?_ | with_reducible refine Below.alloc ?_ (by first | omega | (simp; done) | (simp; omega)) _ | with_reducible refine Below.setCell ?_ (by first | omega | (simp; done) | (simp; omega)) _ | with_reducible refine bel_step (by assumption) (by first | omega | (simp; done) | (simp; omega)) ?_ | with_reducible refine bel_grown (by assumption) (by first | omega | (simp; done) | (simp; omega)) (by first | omega | (simp; done) | (simp; omega)) ?_)); done) | (skip; (try unfold stepOkI at *); simp_all; done) | (skip; (try unfold stepOkI at *); simp_all; omega) | (skip; (try unfold stepOkI at *); simp_all; (repeat' split) <;> first | rfl | omega | (simp_all; done) | (simp_all; omega)))

theorem C_l21Step (k v : Int) (w : World) :
    Calls Try.prog 42 #[.agg #[.int .i64 k, .int .i64 v]] w fun e w' => e = .returned (.bool (stepOkS k v)) ∧ Below w.heap.size w w' := by
  go_enter Try.func42, Try.ntmps42
  go_wp2_with (go_at_call 53; refine (C_l1In _ _ _ _).mono ?_; rintro e w' ⟨rfl, rfl⟩)
  all_goals (first | go_ret | go_ret2 | go_ret3)
  all_goals refine ⟨ret_bool ?_, ?_⟩
  all_goals (go_light; first | ((repeat (first | with_reducible exact Below.refl _ _ | with_reducible exact below_regrown _ _ _ | with_reducible refine bel_step0 (by assumption) ?_ | with_reducible refine bel_alloc0 ?_ _ | with_reducible refine bel_regrown0 ?_ _ _ | with_reducible refine bel_regrown ?_ (by first | omega | (simp; done) | (simp; omega)) _ _ | with_reducible refine below_drewN ?_ _ | with_reducible refine Below.drew ?_ | with_reducible refine Below.alloc ?_ (by first | omega | (simp; done) | (simp; omega)) _ | with_reducible refine Below.setCell ?_ (by first | omega | (simp; done) | (simp; omega)) _ | with_reducible refine bel_step (by assumption) (by first | omega | (simp; done) | (simp; omega)) ?_ | with_reducible refine bel_grown (by assumption) (by first | omega | (simp; done) | (simp; omega)) (by first | omega | (simp; done) | (simp; omega)) ?_)); done) | (skip; (try unfold stepOkS at *); simp_all; done) | (skip; (try unfold stepOkS at *); simp_all; omega) | (skip; (try unfold stepOkS at *); simp_all; (repeat' split) <;> first | rfl | omega | (simp_all; done) | (simp_all; omega)))


/-- A step, before the outcome is looked at. -/
def rawL (l : Lf) (k v : Int) : Lf :=
  if k == 1 then { l with day := l.day + v } else if k == 2 then { l with state := 1, closed := l.day } else if k == 3 then { l with state := 0, closed := -1 } else if k == 4 then { l with holds := l.holds + 1 }
  else if k == 5 then { l with holds := l.holds - 1 } else if k == 6 then { l with period := l.period + v } else { l with state := 1 + l.act }
def fitsL (l : Lf) (k : Int) : Bool :=
  if k == 1 then true else if k == 2 then l.state == 0 else if k == 3 then l.state == 1 else if k == 7 then l.state == 1 else (l.state == 0 || l.state == 1)
def canL (l : Lf) (k v : Int) : Bool := l.ok && stepOkI k v && fitsL l k && (rawL l k v).ok
def stepL (l : Lf) (k v : Int) : Lf := if canL l k v then rawL l k v else zeroL

theorem C_toLifeStep (k v : Int) (w : World) :
    Calls Try.prog 24 #[.agg #[.int .i64 k, .int .i64 v]] w fun e w' => e = .returned (.agg #[.int .i64 k, .int .i64 v]) ∧ Below w.heap.size w w' := by
  go_enter Try.func24, Try.ntmps24
  go_wp2
  (go_light; refine bodyPost_ret (by simp (maxDischargeDepth := 3) [results, Try.results24, go_sem, *]; try rfl) rfl ?_)
  refine ⟨rfl, ?_⟩
  (repeat (first | with_reducible exact Below.refl _ _ | with_reducible exact below_regrown _ _ _ | with_reducible refine bel_step0 (by assumption) ?_ | with_reducible refine bel_alloc0 ?_ _ | with_reducible refine bel_regrown0 ?_ _ _ | with_reducible refine bel_regrown ?_ (by first | omega | (simp; done) | (simp; omega)) _ _ | with_reducible refine below_drewN ?_ _ | with_reducible refine Below.drew ?_ | with_reducible refine Below.alloc ?_ (by first | omega | (simp; done) | (simp; omega)) _ | with_reducible refine Below.setCell ?_ (by first | omega | (simp; done) | (simp; omega)) _ | with_reducible refine bel_step (by assumption) (by first | omega | (simp; done) | (simp; omega)) ?_ | with_reducible refine bel_grown (by assumption) (by first | omega | (simp; done) | (simp; omega)) (by first | omega | (simp; done) | (simp; omega)) ?_))


set_option maxHeartbeats 1000000 in
theorem C_StepLifeI0 (day state act period closed holds : Int) (k v : Int) (w : World) (hbad : ((⟨day, state, act, period, closed, holds⟩ : Lf).ok && stepOkI k v) = false) :
    Calls Try.prog 25 #[.agg #[.int .i64 day, .int .i64 state, .int .i64 act, .int .i64 period, .int .i64 closed, .int .i64 holds], .agg #[.int .i64 k, .int .i64 v]] w fun e w' => e = .returned (.tuple #[.agg #[.int .i64 (stepL (⟨day, state, act, period, closed, holds⟩ : Lf) k v).day, .int .i64 (stepL (⟨day, state, act, period, closed, holds⟩ : Lf) k v).state, .int .i64 (stepL (⟨day, state, act, period, closed, holds⟩ : Lf) k v).act, .int .i64 (stepL (⟨day, state, act, period, closed, holds⟩ : Lf) k v).period, .int .i64 (stepL (⟨day, state, act, period, closed, holds⟩ : Lf) k v).closed, .int .i64 (stepL (⟨day, state, act, period, closed, holds⟩ : Lf) k v).holds], .bool (canL (⟨day, state, act, period, closed, holds⟩ : Lf) k v)]) ∧ Below w.heap.size w w' := by
  have h1 : canL (⟨day, state, act, period, closed, holds⟩ : Lf) k v = false := by simp [canL, hbad]
  have h2 : stepL (⟨day, state, act, period, closed, holds⟩ : Lf) k v = zeroL := by simp [stepL, h1]
  rw [h1, h2]
  clear h1 h2
  cases hok : (⟨day, state, act, period, closed, holds⟩ : Lf).ok
  · clear hbad
    go_enter Try.func25, Try.ntmps25
    go_wp2_with (first | (go_at_call 13; refine (C_IsLife _ _ _ _ _ _ _).mono ?_; rintro e w' ⟨rfl, hb'⟩; obtain ⟨hc', hf'⟩ := bcell hb'; (try simp only [World.size_drew] at hc' hf'); have hz' := bsize hb'; (try simp at hz'); have ht' := (by first | exact lt_le5 hz' | exact lt_le4 hz' | exact lt_le3 hz' | exact lt_le2 hz' | exact lt_le1 hz' | exact lt_le0 hz' : ∀ n, n < _ → n < w'.heap.size); (first | (obtain ⟨hs1, hs2, hs3, hs4, hs5⟩ := sz5 hz') | (obtain ⟨hs1, hs2, hs3, hs4⟩ := sz4 hz') | (obtain ⟨hs1, hs2, hs3⟩ := sz3 hz') | (obtain ⟨hs1, hs2⟩ := sz2 hz') | (have hs1 := sz1 hz') | skip); (try have hq0 : w.heap.size < w'.heap.size := by omega); (try have hq1 : w.heap.size + 1 < w'.heap.size := by omega); (try have hq2 : w.heap.size + 1 + 1 < w'.heap.size := by omega); (try have hq3 : w.heap.size + 1 + 1 + 1 < w'.heap.size := by omega)) | (go_at_call 44; refine (C_isLifeStep _ _ _).mono ?_; rintro e w' ⟨rfl, hb'⟩; obtain ⟨hc', hf'⟩ := bcell hb'; (try simp only [World.size_drew] at hc' hf'); have hz' := bsize hb'; (try simp at hz'); have ht' := (by first | exact lt_le5 hz' | exact lt_le4 hz' | exact lt_le3 hz' | exact lt_le2 hz' | exact lt_le1 hz' | exact lt_le0 hz' : ∀ n, n < _ → n < w'.heap.size); (first | (obtain ⟨hs1, hs2, hs3, hs4, hs5⟩ := sz5 hz') | (obtain ⟨hs1, hs2, hs3, hs4⟩ := sz4 hz') | (obtain ⟨hs1, hs2, hs3⟩ := sz3 hz') | (obtain ⟨hs1, hs2⟩ := sz2 hz') | (have hs1 := sz1 hz') | skip); (try have hq0 : w.heap.size < w'.heap.size := by omega); (try have hq1 : w.heap.size + 1 < w'.heap.size := by omega); (try have hq2 : w.heap.size + 1 + 1 < w'.heap.size := by omega); (try have hq3 : w.heap.size + 1 + 1 + 1 < w'.heap.size := by omega)))
    all_goals (go_light; refine bodyPost_ret (by simp (maxDischargeDepth := 3) [results, Try.results25, go_sem, *]; try rfl) rfl ?_)
    all_goals refine ⟨rfl, ?_⟩
    all_goals (repeat (first | with_reducible exact Below.refl _ _ | with_reducible exact below_regrown _ _ _ | with_reducible refine bel_step0 (by assumption) ?_ | with_reducible refine bel_alloc0 ?_ _ | with_reducible refine bel_regrown0 ?_ _ _ | with_reducible refine bel_regrown ?_ (by first | omega | (simp; done) | (simp; omega)) _ _ | with_reducible refine below_drewN ?_ _ | with_reducible refine Below.drew ?_ | with_reducible refine Below.alloc ?_ (by first | omega | (simp; done) | (simp; omega)) _ | with_reducible refine Below.setCell ?_ (by first | omega | (simp; done) | (simp; omega)) _ | with_reducible refine bel_step (by assumption) (by first | omega | (simp; done) | (simp; omega)) ?_ | with_reducible refine bel_grown (by assumption) (by first | omega | (simp; done) | (simp; omega)) (by first | omega | (simp; done) | (simp; omega)) ?_))
  · have hs : stepOkI k v = false := by simpa [hok] using hbad
    clear hbad
    go_enter Try.func25, Try.ntmps25
    go_wp2_with (first | (go_at_call 13; refine (C_IsLife _ _ _ _ _ _ _).mono ?_; rintro e w' ⟨rfl, hb'⟩; obtain ⟨hc', hf'⟩ := bcell hb'; (try simp only [World.size_drew] at hc' hf'); have hz' := bsize hb'; (try simp at hz'); have ht' := (by first | exact lt_le5 hz' | exact lt_le4 hz' | exact lt_le3 hz' | exact lt_le2 hz' | exact lt_le1 hz' | exact lt_le0 hz' : ∀ n, n < _ → n < w'.heap.size); (first | (obtain ⟨hs1, hs2, hs3, hs4, hs5⟩ := sz5 hz') | (obtain ⟨hs1, hs2, hs3, hs4⟩ := sz4 hz') | (obtain ⟨hs1, hs2, hs3⟩ := sz3 hz') | (obtain ⟨hs1, hs2⟩ := sz2 hz') | (have hs1 := sz1 hz') | skip); (try have hq0 : w.heap.size < w'.heap.size := by omega); (try have hq1 : w.heap.size + 1 < w'.heap.size := by omega); (try have hq2 : w.heap.size + 1 + 1 < w'.heap.size := by omega); (try have hq3 : w.heap.size + 1 + 1 + 1 < w'.heap.size := by omega)) | (go_at_call 44; refine (C_isLifeStep _ _ _).mono ?_; rintro e w' ⟨rfl, hb'⟩; obtain ⟨hc', hf'⟩ := bcell hb'; (try simp only [World.size_drew] at hc' hf'); have hz' := bsize hb'; (try simp at hz'); have ht' := (by first | exact lt_le5 hz' | exact lt_le4 hz' | exact lt_le3 hz' | exact lt_le2 hz' | exact lt_le1 hz' | exact lt_le0 hz' : ∀ n, n < _ → n < w'.heap.size); (first | (obtain ⟨hs1, hs2, hs3, hs4, hs5⟩ := sz5 hz') | (obtain ⟨hs1, hs2, hs3, hs4⟩ := sz4 hz') | (obtain ⟨hs1, hs2, hs3⟩ := sz3 hz') | (obtain ⟨hs1, hs2⟩ := sz2 hz') | (have hs1 := sz1 hz') | skip); (try have hq0 : w.heap.size < w'.heap.size := by omega); (try have hq1 : w.heap.size + 1 < w'.heap.size := by omega); (try have hq2 : w.heap.size + 1 + 1 < w'.heap.size := by omega); (try have hq3 : w.heap.size + 1 + 1 + 1 < w'.heap.size := by omega)))
    all_goals (go_light; refine bodyPost_ret (by simp (maxDischargeDepth := 3) [results, Try.results25, go_sem, *]; try rfl) rfl ?_)
    all_goals refine ⟨rfl, ?_⟩
    all_goals (repeat (first | with_reducible exact Below.refl _ _ | with_reducible exact below_regrown _ _ _ | with_reducible refine bel_step0 (by assumption) ?_ | with_reducible refine bel_alloc0 ?_ _ | with_reducible refine bel_regrown0 ?_ _ _ | with_reducible refine bel_regrown ?_ (by first | omega | (simp; done) | (simp; omega)) _ _ | with_reducible refine below_drewN ?_ _ | with_reducible refine Below.drew ?_ | with_reducible refine Below.alloc ?_ (by first | omega | (simp; done) | (simp; omega)) _ | with_reducible refine Below.setCell ?_ (by first | omega | (simp; done) | (simp; omega)) _ | with_reducible refine bel_step (by assumption) (by first | omega | (simp; done) | (simp; omega)) ?_ | with_reducible refine bel_grown (by assumption) (by first | omega | (simp; done) | (simp; omega)) (by first | omega | (simp; done) | (simp; omega)) ?_))

/-- A life behind a pointer: its six cells, none frozen. -/
structure AtL (w : World) (b : Nat) (l : Lf) : Prop where
  c0 : w.cell? ⟨b, 0, none⟩ = some (.int .i64 l.day)
  c1 : w.cell? ⟨b, 1, none⟩ = some (.int .i64 l.state)
  c2 : w.cell? ⟨b, 2, none⟩ = some (.int .i64 l.act)
  c3 : w.cell? ⟨b, 3, none⟩ = some (.int .i64 l.period)
  c4 : w.cell? ⟨b, 4, none⟩ = some (.int .i64 l.closed)
  c5 : w.cell? ⟨b, 5, none⟩ = some (.int .i64 l.holds)
  fz : ∀ i, w.frozen? ⟨b, i, none⟩ = false
  lt : b < w.heap.size

set_option maxHeartbeats 1000000 in
theorem C_stepLife2 (day state act period closed holds : Int) (v : Int) (b : Nat) (w : World) (hok : (⟨day, state, act, period, closed, holds⟩ : Lf).ok = true) (hs : stepOkI 2 v = true) (ha : AtL w b (⟨day, state, act, period, closed, holds⟩ : Lf)) :
    Calls Try.prog 45 #[.pointer (some ⟨b, 0, none⟩), .agg #[.int .i64 2, .int .i64 v]] w fun e w' => e = .returned (.bool (fitsL (⟨day, state, act, period, closed, holds⟩ : Lf) 2)) ∧ w.grownBy w' (some b) ∧ AtL w' b (rawL (⟨day, state, act, period, closed, holds⟩ : Lf) 2 v) := by
  obtain ⟨a1, a2, a3, a4, a5, a6, a7, a8, a9, a10, a11, a12⟩ := Lf.bounds hok
  skip
  obtain ⟨c0, c1, c2, c3, c4, c5, fz, lt⟩ := ha
  have hne : ¬ (b = w.heap.size) := by omega
  clear hok hs
  go_enter Try.func45, Try.ntmps45
  go_wp2_with (go_at_call 39; refine (C_endState _ _ ⟨a3, a4⟩).mono ?_; rintro e w' ⟨rfl, rfl⟩)
  skip
  all_goals (first | go_ret | go_ret2 | go_ret3)
  all_goals refine ⟨?_, ?_, ?_⟩
  all_goals go_light
  all_goals first | ((repeat (first | with_reducible exact World.grownBy.refl _ _ | with_reducible refine only_drewN ?_ _ | with_reducible refine only_drew ?_ | with_reducible refine only_alloc ?_ _ | with_reducible refine only_setCell ?_ (by first | exact Or.inl rfl | (refine Or.inr ?_; simp; done) | (refine Or.inr ?_; omega)) _)); done) | (refine ⟨?_, ?_, ?_, ?_, ?_, ?_, ?_, ?_⟩ <;> first | (simp [go_sem, rawL, *]; done) | (intro i; simp [go_sem, *]; done) | (simp; omega)) | (skip; (try unfold fitsL at *); simp_all; done)
set_option maxHeartbeats 1000000 in
theorem C_stepLife3 (day state act period closed holds : Int) (v : Int) (b : Nat) (w : World) (hok : (⟨day, state, act, period, closed, holds⟩ : Lf).ok = true) (hs : stepOkI 3 v = true) (ha : AtL w b (⟨day, state, act, period, closed, holds⟩ : Lf)) :
    Calls Try.prog 45 #[.pointer (some ⟨b, 0, none⟩), .agg #[.int .i64 3, .int .i64 v]] w fun e w' => e = .returned (.bool (fitsL (⟨day, state, act, period, closed, holds⟩ : Lf) 3)) ∧ w.grownBy w' (some b) ∧ AtL w' b (rawL (⟨day, state, act, period, closed, holds⟩ : Lf) 3 v) := by
  obtain ⟨a1, a2, a3, a4, a5, a6, a7, a8, a9, a10, a11, a12⟩ := Lf.bounds hok
  skip
  obtain ⟨c0, c1, c2, c3, c4, c5, fz, lt⟩ := ha
  have hne : ¬ (b = w.heap.size) := by omega
  clear hok hs
  go_enter Try.func45, Try.ntmps45
  go_wp2_with (go_at_call 39; refine (C_endState _ _ ⟨a3, a4⟩).mono ?_; rintro e w' ⟨rfl, rfl⟩)
  skip
  all_goals (first | go_ret | go_ret2 | go_ret3)
  all_goals refine ⟨?_, ?_, ?_⟩
  all_goals go_light
  all_goals first | ((repeat (first | with_reducible exact World.grownBy.refl _ _ | with_reducible refine only_drewN ?_ _ | with_reducible refine only_drew ?_ | with_reducible refine only_alloc ?_ _ | with_reducible refine only_setCell ?_ (by first | exact Or.inl rfl | (refine Or.inr ?_; simp; done) | (refine Or.inr ?_; omega)) _)); done) | (refine ⟨?_, ?_, ?_, ?_, ?_, ?_, ?_, ?_⟩ <;> first | (simp [go_sem, rawL, *]; done) | (intro i; simp [go_sem, *]; done) | (simp; omega)) | (skip; (try unfold fitsL at *); simp_all; done)
set_option maxHeartbeats 1000000 in
theorem C_stepLife4 (day state act period closed holds : Int) (v : Int) (b : Nat) (w : World) (hok : (⟨day, state, act, period, closed, holds⟩ : Lf).ok = true) (hs : stepOkI 4 v = true) (ha : AtL w b (⟨day, state, act, period, closed, holds⟩ : Lf)) :
    Calls Try.prog 45 #[.pointer (some ⟨b, 0, none⟩), .agg #[.int .i64 4, .int .i64 v]] w fun e w' => e = .returned (.bool (fitsL (⟨day, state, act, period, closed, holds⟩ : Lf) 4)) ∧ w.grownBy w' (some b) ∧ AtL w' b (rawL (⟨day, state, act, period, closed, holds⟩ : Lf) 4 v) := by
  obtain ⟨a1, a2, a3, a4, a5, a6, a7, a8, a9, a10, a11, a12⟩ := Lf.bounds hok
  skip
  obtain ⟨c0, c1, c2, c3, c4, c5, fz, lt⟩ := ha
  have hne : ¬ (b = w.heap.size) := by omega
  clear hok hs
  go_enter Try.func45, Try.ntmps45
  go_wp2_with (go_at_call 39; refine (C_endState _ _ ⟨a3, a4⟩).mono ?_; rintro e w' ⟨rfl, rfl⟩)
  skip
  all_goals (first | go_ret | go_ret2 | go_ret3)
  all_goals refine ⟨?_, ?_, ?_⟩
  all_goals go_light
  all_goals first | ((repeat (first | with_reducible exact World.grownBy.refl _ _ | with_reducible refine only_drewN ?_ _ | with_reducible refine only_drew ?_ | with_reducible refine only_alloc ?_ _ | with_reducible refine only_setCell ?_ (by first | exact Or.inl rfl | (refine Or.inr ?_; simp; done) | (refine Or.inr ?_; omega)) _)); done) | (refine ⟨?_, ?_, ?_, ?_, ?_, ?_, ?_, ?_⟩ <;> first | (simp [go_sem, rawL, *]; done) | (intro i; simp [go_sem, *]; done) | (simp; omega)) | (skip; (try unfold fitsL at *); simp_all; done)
set_option maxHeartbeats 1000000 in
theorem C_stepLife5 (day state act period closed holds : Int) (v : Int) (b : Nat) (w : World) (hok : (⟨day, state, act, period, closed, holds⟩ : Lf).ok = true) (hs : stepOkI 5 v = true) (ha : AtL w b (⟨day, state, act, period, closed, holds⟩ : Lf)) :
    Calls Try.prog 45 #[.pointer (some ⟨b, 0, none⟩), .agg #[.int .i64 5, .int .i64 v]] w fun e w' => e = .returned (.bool (fitsL (⟨day, state, act, period, closed, holds⟩ : Lf) 5)) ∧ w.grownBy w' (some b) ∧ AtL w' b (rawL (⟨day, state, act, period, closed, holds⟩ : Lf) 5 v) := by
  obtain ⟨a1, a2, a3, a4, a5, a6, a7, a8, a9, a10, a11, a12⟩ := Lf.bounds hok
  skip
  obtain ⟨c0, c1, c2, c3, c4, c5, fz, lt⟩ := ha
  have hne : ¬ (b = w.heap.size) := by omega
  clear hok hs
  go_enter Try.func45, Try.ntmps45
  go_wp2_with (go_at_call 39; refine (C_endState _ _ ⟨a3, a4⟩).mono ?_; rintro e w' ⟨rfl, rfl⟩)
  skip
  all_goals (first | go_ret | go_ret2 | go_ret3)
  all_goals refine ⟨?_, ?_, ?_⟩
  all_goals go_light
  all_goals first | ((repeat (first | with_reducible exact World.grownBy.refl _ _ | with_reducible refine only_drewN ?_ _ | with_reducible refine only_drew ?_ | with_reducible refine only_alloc ?_ _ | with_reducible refine only_setCell ?_ (by first | exact Or.inl rfl | (refine Or.inr ?_; simp; done) | (refine Or.inr ?_; omega)) _)); done) | (refine ⟨?_, ?_, ?_, ?_, ?_, ?_, ?_, ?_⟩ <;> first | (simp [go_sem, rawL, *]; done) | (intro i; simp [go_sem, *]; done) | (simp; omega)) | (skip; (try unfold fitsL at *); simp_all; done)
set_option maxHeartbeats 1000000 in
theorem C_stepLife7 (day state act period closed holds : Int) (v : Int) (b : Nat) (w : World) (hok : (⟨day, state, act, period, closed, holds⟩ : Lf).ok = true) (hs : stepOkI 7 v = true) (ha : AtL w b (⟨day, state, act, period, closed, holds⟩ : Lf)) :
    Calls Try.prog 45 #[.pointer (some ⟨b, 0, none⟩), .agg #[.int .i64 7, .int .i64 v]] w fun e w' => e = .returned (.bool (fitsL (⟨day, state, act, period, closed, holds⟩ : Lf) 7)) ∧ w.grownBy w' (some b) ∧ AtL w' b (rawL (⟨day, state, act, period, closed, holds⟩ : Lf) 7 v) := by
  obtain ⟨a1, a2, a3, a4, a5, a6, a7, a8, a9, a10, a11, a12⟩ := Lf.bounds hok
  skip
  obtain ⟨c0, c1, c2, c3, c4, c5, fz, lt⟩ := ha
  have hne : ¬ (b = w.heap.size) := by omega
  clear hok hs
  go_enter Try.func45, Try.ntmps45
  go_wp2_with (go_at_call 39; refine (C_endState _ _ ⟨a3, a4⟩).mono ?_; rintro e w' ⟨rfl, rfl⟩)
  skip
  all_goals (first | go_ret | go_ret2 | go_ret3)
  all_goals refine ⟨?_, ?_, ?_⟩
  all_goals go_light
  all_goals first | ((repeat (first | with_reducible exact World.grownBy.refl _ _ | with_reducible refine only_drewN ?_ _ | with_reducible refine only_drew ?_ | with_reducible refine only_alloc ?_ _ | with_reducible refine only_setCell ?_ (by first | exact Or.inl rfl | (refine Or.inr ?_; simp; done) | (refine Or.inr ?_; omega)) _)); done) | (refine ⟨?_, ?_, ?_, ?_, ?_, ?_, ?_, ?_⟩ <;> first | (simp [go_sem, rawL, *]; done) | (intro i; simp [go_sem, *]; done) | (simp; omega)) | (skip; (try unfold fitsL at *); simp_all; done)
set_option maxHeartbeats 1000000 in
theorem C_stepLife1 (day state act period closed holds : Int) (v : Int) (b : Nat) (w : World) (hok : (⟨day, state, act, period, closed, holds⟩ : Lf).ok = true) (hs : stepOkI 1 v = true) (ha : AtL w b (⟨day, state, act, period, closed, holds⟩ : Lf)) :
    Calls Try.prog 45 #[.pointer (some ⟨b, 0, none⟩), .agg #[.int .i64 1, .int .i64 v]] w fun e w' => e = .returned (.bool (fitsL (⟨day, state, act, period, closed, holds⟩ : Lf) 1)) ∧ w.grownBy w' (some b) ∧ AtL w' b (rawL (⟨day, state, act, period, closed, holds⟩ : Lf) 1 v) := by
  obtain ⟨a1, a2, a3, a4, a5, a6, a7, a8, a9, a10, a11, a12⟩ := Lf.bounds hok
  have hv : 1 ≤ v ∧ v ≤ 20000 := within_iff.1 (by simpa [stepOkI] using hs); obtain ⟨v1, v2⟩ := hv
  obtain ⟨c0, c1, c2, c3, c4, c5, fz, lt⟩ := ha
  have hne : ¬ (b = w.heap.size) := by omega
  clear hok hs
  go_enter Try.func45, Try.ntmps45
  go_wp2_with (go_at_call 39; refine (C_endState _ _ ⟨a3, a4⟩).mono ?_; rintro e w' ⟨rfl, rfl⟩)
  all_goals go_region; all_goals go_wp2
  all_goals (first | go_ret | go_ret2 | go_ret3)
  all_goals refine ⟨?_, ?_, ?_⟩
  all_goals go_light
  all_goals first | ((repeat (first | with_reducible exact World.grownBy.refl _ _ | with_reducible refine only_drewN ?_ _ | with_reducible refine only_drew ?_ | with_reducible refine only_alloc ?_ _ | with_reducible refine only_setCell ?_ (by first | exact Or.inl rfl | (refine Or.inr ?_; simp; done) | (refine Or.inr ?_; omega)) _)); done) | (refine ⟨?_, ?_, ?_, ?_, ?_, ?_, ?_, ?_⟩ <;> first | (simp [go_sem, rawL, *]; done) | (intro i; simp [go_sem, *]; done) | (simp; omega)) | (skip; (try unfold fitsL at *); simp_all; done)
set_option maxHeartbeats 1000000 in
theorem C_stepLife6 (day state act period closed holds : Int) (v : Int) (b : Nat) (w : World) (hok : (⟨day, state, act, period, closed, holds⟩ : Lf).ok = true) (hs : stepOkI 6 v = true) (ha : AtL w b (⟨day, state, act, period, closed, holds⟩ : Lf)) :
    Calls Try.prog 45 #[.pointer (some ⟨b, 0, none⟩), .agg #[.int .i64 6, .int .i64 v]] w fun e w' => e = .returned (.bool (fitsL (⟨day, state, act, period, closed, holds⟩ : Lf) 6)) ∧ w.grownBy w' (some b) ∧ AtL w' b (rawL (⟨day, state, act, period, closed, holds⟩ : Lf) 6 v) := by
  obtain ⟨a1, a2, a3, a4, a5, a6, a7, a8, a9, a10, a11, a12⟩ := Lf.bounds hok
  have hv : 1 ≤ v ∧ v ≤ 20000 := within_iff.1 (by simpa [stepOkI] using hs); obtain ⟨v1, v2⟩ := hv
  obtain ⟨c0, c1, c2, c3, c4, c5, fz, lt⟩ := ha
  have hne : ¬ (b = w.heap.size) := by omega
  clear hok hs
  go_enter Try.func45, Try.ntmps45
  go_wp2_with (go_at_call 39; refine (C_endState _ _ ⟨a3, a4⟩).mono ?_; rintro e w' ⟨rfl, rfl⟩)
  all_goals go_region; all_goals go_wp2
  all_goals (first | go_ret | go_ret2 | go_ret3)
  all_goals refine ⟨?_, ?_, ?_⟩
  all_goals go_light
  all_goals first | ((repeat (first | with_reducible exact World.grownBy.refl _ _ | with_reducible refine only_drewN ?_ _ | with_reducible refine only_drew ?_ | with_reducible refine only_alloc ?_ _ | with_reducible refine only_setCell ?_ (by first | exact Or.inl rfl | (refine Or.inr ?_; simp; done) | (refine Or.inr ?_; omega)) _)); done) | (refine ⟨?_, ?_, ?_, ?_, ?_, ?_, ?_, ?_⟩ <;> first | (simp [go_sem, rawL, *]; done) | (intro i; simp [go_sem, *]; done) | (simp; omega)) | (skip; (try unfold fitsL at *); simp_all; done)

theorem stepOkI_cases {k v : Int} (h : stepOkI k v = true) : k = 1 ∨ k = 2 ∨ k = 3 ∨ k = 4 ∨ k = 5 ∨ k = 6 ∨ k = 7 := by
  unfold stepOkI at h
  by_cases h1 : k = 1
  · omega
  · by_cases h6 : k = 6
    · omega
    · simp [h1, h6, within] at h; omega

theorem C_stepLife (day state act period closed holds : Int) (k v : Int) (b : Nat) (w : World) (hok : (⟨day, state, act, period, closed, holds⟩ : Lf).ok = true) (hs : stepOkI k v = true) (ha : AtL w b (⟨day, state, act, period, closed, holds⟩ : Lf)) :
    Calls Try.prog 45 #[.pointer (some ⟨b, 0, none⟩), .agg #[.int .i64 k, .int .i64 v]] w fun e w' => e = .returned (.bool (fitsL (⟨day, state, act, period, closed, holds⟩ : Lf) k)) ∧ w.grownBy w' (some b) ∧ AtL w' b (rawL (⟨day, state, act, period, closed, holds⟩ : Lf) k v) := by
  rcases stepOkI_cases hs with rfl | rfl | rfl | rfl | rfl | rfl | rfl
  · exact C_stepLife1 _ _ _ _ _ _ v b w hok hs ha
  · exact C_stepLife2 _ _ _ _ _ _ v b w hok hs ha
  · exact C_stepLife3 _ _ _ _ _ _ v b w hok hs ha
  · exact C_stepLife4 _ _ _ _ _ _ v b w hok hs ha
  · exact C_stepLife5 _ _ _ _ _ _ v b w hok hs ha
  · exact C_stepLife6 _ _ _ _ _ _ v b w hok hs ha
  · exact C_stepLife7 _ _ _ _ _ _ v b w hok hs ha



set_option maxHeartbeats 2000000 in
theorem C_StepLifeI1 (day state act period closed holds : Int) (k v : Int) (w : World) (hok : (⟨day, state, act, period, closed, holds⟩ : Lf).ok = true) (hs : stepOkI k v = true) :
    Calls Try.prog 25 #[.agg #[.int .i64 day, .int .i64 state, .int .i64 act, .int .i64 period, .int .i64 closed, .int .i64 holds], .agg #[.int .i64 k, .int .i64 v]] w fun e w' => e = .returned (.tuple #[.agg #[.int .i64 (stepL (⟨day, state, act, period, closed, holds⟩ : Lf) k v).day, .int .i64 (stepL (⟨day, state, act, period, closed, holds⟩ : Lf) k v).state, .int .i64 (stepL (⟨day, state, act, period, closed, holds⟩ : Lf) k v).act, .int .i64 (stepL (⟨day, state, act, period, closed, holds⟩ : Lf) k v).period, .int .i64 (stepL (⟨day, state, act, period, closed, holds⟩ : Lf) k v).closed, .int .i64 (stepL (⟨day, state, act, period, closed, holds⟩ : Lf) k v).holds], .bool (canL (⟨day, state, act, period, closed, holds⟩ : Lf) k v)]) ∧ Below w.heap.size w w' := by
  have h1 : canL (⟨day, state, act, period, closed, holds⟩ : Lf) k v = (fitsL (⟨day, state, act, period, closed, holds⟩ : Lf) k && (rawL (⟨day, state, act, period, closed, holds⟩ : Lf) k v).ok) := by simp [canL, hok, hs]
  have h2 : stepL (⟨day, state, act, period, closed, holds⟩ : Lf) k v = if (fitsL (⟨day, state, act, period, closed, holds⟩ : Lf) k && (rawL (⟨day, state, act, period, closed, holds⟩ : Lf) k v).ok) then rawL (⟨day, state, act, period, closed, holds⟩ : Lf) k v else zeroL := by rw [← h1]; rfl
  rw [h1, h2]
  clear h1 h2
  have HOK := Lib.hid hok
  have HS := Lib.hid hs
  cases hfit : fitsL (⟨day, state, act, period, closed, holds⟩ : Lf) k
  · go_enter Try.func25, Try.ntmps25
    go_wp2_with (first | (go_at_call 13; refine (C_IsLife _ _ _ _ _ _ _).mono ?_; rintro e w' ⟨rfl, hb'⟩; obtain ⟨hc', hf'⟩ := bcell hb'; (try simp only [World.size_drew] at hc' hf'); have hz' := bsize hb'; (try simp at hz'); have ht' := (by first | exact lt_le5 hz' | exact lt_le4 hz' | exact lt_le3 hz' | exact lt_le2 hz' | exact lt_le1 hz' | exact lt_le0 hz' : ∀ n, n < _ → n < w'.heap.size); (first | (obtain ⟨hs1, hs2, hs3, hs4, hs5⟩ := sz5 hz') | (obtain ⟨hs1, hs2, hs3, hs4⟩ := sz4 hz') | (obtain ⟨hs1, hs2, hs3⟩ := sz3 hz') | (obtain ⟨hs1, hs2⟩ := sz2 hz') | (have hs1 := sz1 hz') | skip); (try have hq0 : w.heap.size < w'.heap.size := by omega); (try have hq1 : w.heap.size + 1 < w'.heap.size := by omega); (try have hq2 : w.heap.size + 1 + 1 < w'.heap.size := by omega); (try have hq3 : w.heap.size + 1 + 1 + 1 < w'.heap.size := by omega)) | (go_at_call 44; refine (C_isLifeStep _ _ _).mono ?_; rintro e w' ⟨rfl, hb'⟩; obtain ⟨hc', hf'⟩ := bcell hb'; (try simp only [World.size_drew] at hc' hf'); have hz' := bsize hb'; (try simp at hz'); have ht' := (by first | exact lt_le5 hz' | exact lt_le4 hz' | exact lt_le3 hz' | exact lt_le2 hz' | exact lt_le1 hz' | exact lt_le0 hz' : ∀ n, n < _ → n < w'.heap.size); (first | (obtain ⟨hs1, hs2, hs3, hs4, hs5⟩ := sz5 hz') | (obtain ⟨hs1, hs2, hs3, hs4⟩ := sz4 hz') | (obtain ⟨hs1, hs2, hs3⟩ := sz3 hz') | (obtain ⟨hs1, hs2⟩ := sz2 hz') | (have hs1 := sz1 hz') | skip); (try have hq0 : w.heap.size < w'.heap.size := by omega); (try have hq1 : w.heap.size + 1 < w'.heap.size := by omega); (try have hq2 : w.heap.size + 1 + 1 < w'.heap.size := by omega); (try have hq3 : w.heap.size + 1 + 1 + 1 < w'.heap.size := by omega)) | (go_at_call 45; refine (C_stepLife _ _ _ _ _ _ _ _ _ _ HOK.out HS.out (by refine ⟨?_, ?_, ?_, ?_, ?_, ?_, ?_, ?_⟩ <;> first | (simp [go_sem, *]; done) | (intro i; simp [go_sem, *]; done) | (simp; omega) | omega)).mono ?_; rintro e w' ⟨rfl, hb', hat⟩; obtain ⟨hc', hf'⟩ := gcell hb'; have hz' := gsize hb'; (try simp at hz'); have ht' := (by first | exact lt_le5 hz' | exact lt_le4 hz' | exact lt_le3 hz' | exact lt_le2 hz' | exact lt_le1 hz' | exact lt_le0 hz' : ∀ n, n < _ → n < w'.heap.size); (first | (obtain ⟨hs1, hs2, hs3, hs4, hs5⟩ := sz5 hz') | (obtain ⟨hs1, hs2, hs3, hs4⟩ := sz4 hz') | (obtain ⟨hs1, hs2, hs3⟩ := sz3 hz') | (obtain ⟨hs1, hs2⟩ := sz2 hz') | (have hs1 := sz1 hz') | skip); (try have hq0 : w.heap.size < w'.heap.size := by omega); (try have hq1 : w.heap.size + 1 < w'.heap.size := by omega); (try have hq2 : w.heap.size + 1 + 1 < w'.heap.size := by omega); (try have hq3 : w.heap.size + 1 + 1 + 1 < w'.heap.size := by omega); obtain ⟨d0, d1, d2, d3, d4, d5, dz, dl⟩ := hat))
    all_goals (go_light; refine bodyPost_ret (by simp (maxDischargeDepth := 3) [results, Try.results25, go_sem, *]; try rfl) rfl ?_)
    all_goals refine ⟨?_, ?_⟩
    all_goals (go_light; first | ((repeat (first | with_reducible exact Below.refl _ _ | with_reducible exact below_regrown _ _ _ | with_reducible refine bel_step0 (by assumption) ?_ | with_reducible refine bel_alloc0 ?_ _ | with_reducible refine bel_regrown0 ?_ _ _ | with_reducible refine bel_regrown ?_ (by first | omega | (simp; done) | (simp; omega)) _ _ | with_reducible refine below_drewN ?_ _ | with_reducible refine Below.drew ?_ | with_reducible refine Below.alloc ?_ (by first | omega | (simp; done) | (simp; omega)) _ | with_reducible refine Below.setCell ?_ (by first | omega | (simp; done) | (simp; omega)) _ | with_reducible refine bel_step (by assumption) (by first | omega | (simp; done) | (simp; omega)) ?_ | with_reducible refine bel_grown (by assumption) (by first | omega | (simp; done) | (simp; omega)) (by first | omega | (simp; done) | (simp; omega)) ?_)); done) | (skip; (try unfold zeroL at *); simp_all; done) | (skip; (try unfold zeroL at *); simp_all; omega) | (skip; (try unfold zeroL at *); simp_all; (repeat' split) <;> first | rfl | omega | (simp_all; done) | (simp_all; omega)))
  · cases hr : (rawL (⟨day, state, act, period, closed, holds⟩ : Lf) k v).ok
    all_goals (have hr' : Lf.ok ⟨(rawL (⟨day, state, act, period, closed, holds⟩ : Lf) k v).day, (rawL (⟨day, state, act, period, closed, holds⟩ : Lf) k v).state, (rawL (⟨day, state, act, period, closed, holds⟩ : Lf) k v).act, (rawL (⟨day, state, act, period, closed, holds⟩ : Lf) k v).period, (rawL (⟨day, state, act, period, closed, holds⟩ : Lf) k v).closed, (rawL (⟨day, state, act, period, closed, holds⟩ : Lf) k v).holds⟩ = _ := hr)
    all_goals go_enter Try.func25, Try.ntmps25
    all_goals go_wp2_with (first | (go_at_call 13; refine (C_IsLife _ _ _ _ _ _ _).mono ?_; rintro e w' ⟨rfl, hb'⟩; obtain ⟨hc', hf'⟩ := bcell hb'; (try simp only [World.size_drew] at hc' hf'); have hz' := bsize hb'; (try simp at hz'); have ht' := (by first | exact lt_le5 hz' | exact lt_le4 hz' | exact lt_le3 hz' | exact lt_le2 hz' | exact lt_le1 hz' | exact lt_le0 hz' : ∀ n, n < _ → n < w'.heap.size); (first | (obtain ⟨hs1, hs2, hs3, hs4, hs5⟩ := sz5 hz') | (obtain ⟨hs1, hs2, hs3, hs4⟩ := sz4 hz') | (obtain ⟨hs1, hs2, hs3⟩ := sz3 hz') | (obtain ⟨hs1, hs2⟩ := sz2 hz') | (have hs1 := sz1 hz') | skip); (try have hq0 : w.heap.size < w'.heap.size := by omega); (try have hq1 : w.heap.size + 1 < w'.heap.size := by omega); (try have hq2 : w.heap.size + 1 + 1 < w'.heap.size := by omega); (try have hq3 : w.heap.size + 1 + 1 + 1 < w'.heap.size := by omega)) | (go_at_call 44; refine (C_isLifeStep _ _ _).mono ?_; rintro e w' ⟨rfl, hb'⟩; obtain ⟨hc', hf'⟩ := bcell hb'; (try simp only [World.size_drew] at hc' hf'); have hz' := bsize hb'; (try simp at hz'); have ht' := (by first | exact lt_le5 hz' | exact lt_le4 hz' | exact lt_le3 hz' | exact lt_le2 hz' | exact lt_le1 hz' | exact lt_le0 hz' : ∀ n, n < _ → n < w'.heap.size); (first | (obtain ⟨hs1, hs2, hs3, hs4, hs5⟩ := sz5 hz') | (obtain ⟨hs1, hs2, hs3, hs4⟩ := sz4 hz') | (obtain ⟨hs1, hs2, hs3⟩ := sz3 hz') | (obtain ⟨hs1, hs2⟩ := sz2 hz') | (have hs1 := sz1 hz') | skip); (try have hq0 : w.heap.size < w'.heap.size := by omega); (try have hq1 : w.heap.size + 1 < w'.heap.size := by omega); (try have hq2 : w.heap.size + 1 + 1 < w'.heap.size := by omega); (try have hq3 : w.heap.size + 1 + 1 + 1 < w'.heap.size := by omega)) | (go_at_call 45; refine (C_stepLife _ _ _ _ _ _ _ _ _ _ HOK.out HS.out (by refine ⟨?_, ?_, ?_, ?_, ?_, ?_, ?_, ?_⟩ <;> first | (simp [go_sem, *]; done) | (intro i; simp [go_sem, *]; done) | (simp; omega) | omega)).mono ?_; rintro e w' ⟨rfl, hb', hat⟩; obtain ⟨hc', hf'⟩ := gcell hb'; have hz' := gsize hb'; (try simp at hz'); have ht' := (by first | exact lt_le5 hz' | exact lt_le4 hz' | exact lt_le3 hz' | exact lt_le2 hz' | exact lt_le1 hz' | exact lt_le0 hz' : ∀ n, n < _ → n < w'.heap.size); (first | (obtain ⟨hs1, hs2, hs3, hs4, hs5⟩ := sz5 hz') | (obtain ⟨hs1, hs2, hs3, hs4⟩ := sz4 hz') | (obtain ⟨hs1, hs2, hs3⟩ := sz3 hz') | (obtain ⟨hs1, hs2⟩ := sz2 hz') | (have hs1 := sz1 hz') | skip); (try have hq0 : w.heap.size < w'.heap.size := by omega); (try have hq1 : w.heap.size + 1 < w'.heap.size := by omega); (try have hq2 : w.heap.size + 1 + 1 < w'.heap.size := by omega); (try have hq3 : w.heap.size + 1 + 1 + 1 < w'.heap.size := by omega); obtain ⟨d0, d1, d2, d3, d4, d5, dz, dl⟩ := hat))
    all_goals (go_light; refine bodyPost_ret (by simp (maxDischargeDepth := 3) [results, Try.results25, go_sem, *]; try rfl) rfl ?_)
    all_goals refine ⟨?_, ?_⟩
    all_goals (go_light; first | ((repeat (first | with_reducible exact Below.refl _ _ | with_reducible exact below_regrown _ _ _ | with_reducible refine bel_step0 (by assumption) ?_ | with_reducible refine bel_alloc0 ?_ _ | with_reducible refine bel_regrown0 ?_ _ _ | with_reducible refine bel_regrown ?_ (by first | omega | (simp; done) | (simp; omega)) _ _ | with_reducible refine below_drewN ?_ _ | with_reducible refine Below.drew ?_ | with_reducible refine Below.alloc ?_ (by first | omega | (simp; done) | (simp; omega)) _ | with_reducible refine Below.setCell ?_ (by first | omega | (simp; done) | (simp; omega)) _ | with_reducible refine bel_step (by assumption) (by first | omega | (simp; done) | (simp; omega)) ?_ | with_reducible refine bel_grown (by assumption) (by first | omega | (simp; done) | (simp; omega)) (by first | omega | (simp; done) | (simp; omega)) ?_)); done) | (skip; (try unfold zeroL at *); simp_all; done) | (skip; (try unfold zeroL at *); simp_all; omega) | (skip; (try unfold zeroL at *); simp_all; (repeat' split) <;> first | rfl | omega | (simp_all; done) | (simp_all; omega)))

theorem C_StepLifeI (day state act period closed holds : Int) (k v : Int) (w : World) :
    Calls Try.prog 25 #[.agg #[.int .i64 day, .int .i64 state, .int .i64 act, .int .i64 period, .int .i64 closed, .int .i64 holds], .agg #[.int .i64 k, .int .i64 v]] w fun e w' => e = .returned (.tuple #[.agg #[.int .i64 (stepL (⟨day, state, act, period, closed, holds⟩ : Lf) k v).day, .int .i64 (stepL (⟨day, state, act, period, closed, holds⟩ : Lf) k v).state, .int .i64 (stepL (⟨day, state, act, period, closed, holds⟩ : Lf) k v).act, .int .i64 (stepL (⟨day, state, act, period, closed, holds⟩ : Lf) k v).period, .int .i64 (stepL (⟨day, state, act, period, closed, holds⟩ : Lf) k v).closed, .int .i64 (stepL (⟨day, state, act, period, closed, holds⟩ : Lf) k v).holds], .bool (canL (⟨day, state, act, period, closed, holds⟩ : Lf) k v)]) ∧ Below w.heap.size w w' := by
  cases hok : (⟨day, state, act, period, closed, holds⟩ : Lf).ok
  · exact C_StepLifeI0 _ _ _ _ _ _ k v w (by simp [hok])
  · cases hs : stepOkI k v
    · exact C_StepLifeI0 _ _ _ _ _ _ k v w (by simp [hs])
    · exact C_StepLifeI1 _ _ _ _ _ _ k v w hok hs

end Go.Proofs.Ytpkgfpgccfnkpaa
