/- What the functions on lives compute, one contract for each. No condition. -/
import Derived.Test.YtpkgfpgccfnkpaaBase
namespace Go.Proofs.Ytpkgfpgccfnkpaa
set_option linter.unusedVariables false
open Go.RowKit

structure Lf where
  day : Int
  state : Int
  act : Int
  period : Int
  closed : Int
  holds : Int

def Lf.val (l : Lf) : Value := .agg #[.int .i64 l.day, .int .i64 l.state, .int .i64 l.act, .int .i64 l.period, .int .i64 l.closed, .int .i64 l.holds]

def Lf.ok (l : Lf) : Bool :=
  within l.day 0 20000 && within l.state 0 4 && within l.act 1 3 && within l.period 0 20000 && within l.holds 0 9 &&
  (if l.state == 0 then l.closed == -1 else within l.closed 0 l.day && (l.state == 1 || (l.state == 1 + l.act && decide (l.closed + l.period ≤ l.day) && (l.state != 4 || l.holds == 0))))

theorem C_endState (n : Int) (w : World) (h : 1 ≤ n ∧ n ≤ 3) :
    Calls Try.prog 39 #[.int .i64 n] w fun e w' => e = .returned (.int .i64 (1 + n)) ∧ w = w' := by
  obtain ⟨h1, h2⟩ := h
  go_enter Try.func39, Try.ntmps39
  go_wp2
  go_ret
  exact ⟨rfl, rfl⟩

theorem C_l21Final (n : Int) (w : World) (h : 1 ≤ n ∧ n ≤ 3) :
    Calls Try.prog 54 #[.int .i64 n] w fun e w' => e = .returned (.int .i64 (1 + n)) ∧ w = w' := by
  obtain ⟨h1, h2⟩ := h
  go_enter Try.func54, Try.ntmps54
  go_wp2
  go_ret
  exact ⟨ret_int (by omega), rfl⟩


set_option maxHeartbeats 1000000 in
theorem C_IsLife (day state act period closed holds : Int) (w : World) :
    Calls Try.prog 13 #[.agg #[.int .i64 day, .int .i64 state, .int .i64 act, .int .i64 period, .int .i64 closed, .int .i64 holds]] w fun e w' => e = .returned (.bool (Lf.ok ⟨day, state, act, period, closed, holds⟩)) ∧ Below w.heap.size w w' := by
  go_enter Try.func13, Try.ntmps13
  go_wp2_with (first | (go_at_call 37; refine (C_within _ _ _ _).mono ?_; rintro e w' ⟨rfl, rfl⟩) | (go_at_call 36; refine (C_isDay _ _).mono ?_; rintro e w' ⟨rfl, rfl⟩) | (go_at_call 38; refine (C_isAct _ _).mono ?_; rintro e w' ⟨rfl, rfl⟩))
  all_goals (try (go_ret; refine ⟨ret_bool ?_, (Below.refl _ _).alloc (Nat.le_refl _) _⟩; simp_all [Lf.ok]; done))
  obtain ⟨a1, a2⟩ := within_iff.1 (show within day 0 20000 = true by assumption)
  obtain ⟨a3, a4⟩ := within_iff.1 (show within act 1 3 = true by assumption)
  obtain ⟨a5, a6⟩ := within_iff.1 (show within period 0 20000 = true by assumption)
  obtain ⟨a7, a8⟩ := within_iff.1 (show within closed 0 day = true by simpa using (show (!within closed 0 day) = false by assumption))
  refine wp_region_quiet_lit (by kernel_rfl) (by kernel_rfl) ?_
  repeat (any_goals (first | go_big_quiet_step (first | (go_at_call 39; refine Calls.quiet_of_same ((C_endState _ _ ⟨a3, a4⟩).mono fun _ _ h => ⟨h.1, h.2.symm⟩))) | quiet_step (first | (go_at_call 39; refine Calls.quiet_of_same ((C_endState _ _ ⟨a3, a4⟩).mono fun _ _ h => ⟨h.1, h.2.symm⟩))) | (refine wpQuiet_step (fun K hK => ?_); go_simp; split <;> (refine hK _ ?_; clear hK K))))
  all_goals (refine wpQuiet_nil ?_; intro _ hw'; obtain ⟨nq, hw''⟩ := hw'; subst hw'')
  all_goals go_wp2
  all_goals go_ret
  all_goals refine ⟨ret_bool ?_, below_drewN ((Below.refl _ _).alloc (Nat.le_refl _) _) _⟩
  all_goals (simp_all [Lf.ok]; try omega)

set_option maxHeartbeats 1000000 in
theorem C_l21Good (day state act period closed holds : Int) (w : World) :
    Calls Try.prog 35 #[.agg #[.int .i64 day, .int .i64 state, .int .i64 act, .int .i64 period, .int .i64 closed, .int .i64 holds]] w fun e w' => e = .returned (.bool (Lf.ok ⟨day, state, act, period, closed, holds⟩)) ∧ Below w.heap.size w w' := by
  go_enter Try.func35, Try.ntmps35
  go_wp2_with (first | (go_at_call 53; refine (C_l1In _ _ _ _).mono ?_; rintro e w' ⟨rfl, rfl⟩) | (go_at_call 52; refine (C_l2Day _ _).mono ?_; rintro e w' ⟨rfl, rfl⟩))
  all_goals (try (go_ret; refine ⟨ret_bool ?_, (Below.refl _ _).alloc (Nat.le_refl _) _⟩; simp_all [Lf.ok]; done))
  obtain ⟨a1, a2⟩ := within_iff.1 (show within day 0 20000 = true by assumption)
  obtain ⟨a3, a4⟩ := within_iff.1 (show within act 1 3 = true by assumption)
  obtain ⟨a5, a6⟩ := within_iff.1 (show within period 0 20000 = true by assumption)
  obtain ⟨a7, a8⟩ := within_iff.1 (show within closed 0 day = true by simpa using (show (!within closed 0 day) = false by assumption))
  refine wp_region_quiet_lit (by kernel_rfl) (by kernel_rfl) ?_
  repeat (any_goals (first | go_big_quiet_step (first | (go_at_call 54; refine Calls.quiet_of_same ((C_l21Final _ _ ⟨a3, a4⟩).mono fun _ _ h => ⟨h.1, h.2.symm⟩))) | quiet_step (first | (go_at_call 54; refine Calls.quiet_of_same ((C_l21Final _ _ ⟨a3, a4⟩).mono fun _ _ h => ⟨h.1, h.2.symm⟩))) | (refine wpQuiet_step (fun K hK => ?_); go_simp; split <;> (refine hK _ ?_; clear hK K))))
  all_goals (refine wpQuiet_nil ?_; intro _ hw'; obtain ⟨nq, hw''⟩ := hw'; subst hw'')
  all_goals go_wp2
  all_goals go_ret
  all_goals refine ⟨ret_bool ?_, below_drewN ((Below.refl _ _).alloc (Nat.le_refl _) _) _⟩
  all_goals (simp_all [Lf.ok]; try omega)


end Go.Proofs.Ytpkgfpgccfnkpaa
