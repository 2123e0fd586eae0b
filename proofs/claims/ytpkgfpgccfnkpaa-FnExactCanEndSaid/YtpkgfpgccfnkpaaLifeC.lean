/- What further functions on lives compute, one contract for each. No condition. -/
import Derived.Test.YtpkgfpgccfnkpaaLifeB
namespace Go.Proofs.Ytpkgfpgccfnkpaa
open Go.RowKit
theorem C_IsLifeS (day state act period closed holds : Int) (w : World) :
    Calls Try.prog 11 #[.agg #[.int .i64 day, .int .i64 state, .int .i64 act, .int .i64 period, .int .i64 closed, .int .i64 holds]] w fun e w' => e = .returned (.bool (⟨day, state, act, period, closed, holds⟩ : Lf).ok) ∧ Below w.heap.size w w' := by
  go_enter Try.func11, Try.ntmps11
  go_wp2_with (go_at_call 35; refine (C_l21Good _ _ _ _ _ _ _).mono ?_; rintro e w' ⟨rfl, hb'⟩; obtain ⟨hc', hf'⟩ := bcell hb'; have hz' := bsize hb'; (try simp at hz'); have ht' := (by first | exact lt_le3 hz' | exact lt_le2 hz' | exact lt_le1 hz' | exact lt_le0 hz' : ∀ n, n < _ → n < w'.heap.size); (try have hs1 := Nat.lt_of_succ_le hz'); (try have hs2 := Nat.lt_of_succ_lt hs1); (try have hs3 := Nat.lt_of_succ_lt hs2))
  all_goals go_ret
  all_goals refine ⟨?_, ?_⟩
  all_goals go_light
  all_goals first | ((repeat (first | with_reducible exact Below.refl _ _ | with_reducible refine below_drewN ?_ _ | with_reducible refine Below.drew ?_ | with_reducible refine Below.alloc ?_ (by first | omega | (simp; done) | (simp; omega)) _ | with_reducible refine Below.setCell ?_ (by first | omega | (simp; done) | (simp; omega)) _ | with_reducible refine bel_step (by assumption) (by first | omega | (simp; done) | (simp; omega)) ?_)); done) | (skip; (try unfold Lf.ok at *); simp_all; done) | (skip; (try unfold Lf.ok at *); simp_all; omega) | (skip; (try unfold Lf.ok at *); simp_all; (repeat' split) <;> first | rfl | omega | (simp_all; done) | (simp_all; omega))


def zeroL : Lf := ⟨0, 0, 0, 0, 0, 0⟩
def newL (act period : Int) : Lf := ⟨0, 0, act, period, -1, 0⟩
def newR (act period : Int) : Lf := if (newL act period).ok then newL act period else zeroL
theorem C_NewLifeI (act period : Int) (w : World) :
    Calls Try.prog 17 #[.int .i64 act, .int .i64 period] w fun e w' => e = .returned (.tuple #[.agg #[.int .i64 (newR act period).day, .int .i64 (newR act period).state, .int .i64 (newR act period).act, .int .i64 (newR act period).period, .int .i64 (newR act period).closed, .int .i64 (newR act period).holds], .bool (newL act period).ok]) ∧ Below w.heap.size w w' := by
  rw [show newR act period = if (newL act period).ok then newL act period else zeroL from rfl]
  cases hok : (newL act period).ok
  all_goals (revert hok; unfold newL; intro hok)
  all_goals go_enter Try.func17, Try.ntmps17
  all_goals go_wp2_with (go_at_call 13; refine (C_IsLife _ _ _ _ _ _ _).mono ?_; rintro e w' ⟨rfl, hb'⟩; obtain ⟨hc', hf'⟩ := bcell hb'; have hz' := bsize hb'; (try simp at hz'); have ht' := (by first | exact lt_le3 hz' | exact lt_le2 hz' | exact lt_le1 hz' | exact lt_le0 hz' : ∀ n, n < _ → n < w'.heap.size); (try have hs1 := Nat.lt_of_succ_le hz'); (try have hs2 := Nat.lt_of_succ_lt hs1); (try have hs3 := Nat.lt_of_succ_lt hs2))
  all_goals (go_light; refine bodyPost_ret (by simp [results, Try.results17, go_sem, *]; try rfl) rfl ?_)
  all_goals refine ⟨?_, ?_⟩
  all_goals go_light
  all_goals first | ((repeat (first | with_reducible exact Below.refl _ _ | with_reducible refine below_drewN ?_ _ | with_reducible refine Below.drew ?_ | with_reducible refine Below.alloc ?_ (by first | omega | (simp; done) | (simp; omega)) _ | with_reducible refine Below.setCell ?_ (by first | omega | (simp; done) | (simp; omega)) _ | with_reducible refine bel_step (by assumption) (by first | omega | (simp; done) | (simp; omega)) ?_)); done) | (skip; (try unfold newL at *); (try unfold zeroL at *); simp_all; done) | (skip; (try unfold newL at *); (try unfold zeroL at *); simp_all; omega) | (skip; (try unfold newL at *); (try unfold zeroL at *); simp_all; (repeat' split) <;> first | rfl | omega | (simp_all; done) | (simp_all; omega))

theorem C_NewLifeS (act period : Int) (w : World) :
    Calls Try.prog 16 #[.int .i64 act, .int .i64 period] w fun e w' => e = .returned (.tuple #[.agg #[.int .i64 (newR act period).day, .int .i64 (newR act period).state, .int .i64 (newR act period).act, .int .i64 (newR act period).period, .int .i64 (newR act period).closed, .int .i64 (newR act period).holds], .bool (newL act period).ok]) ∧ Below w.heap.size w w' := by
  rw [show newR act period = if (newL act period).ok then newL act period else zeroL from rfl]
  cases hok : (newL act period).ok
  all_goals (revert hok; unfold newL; intro hok)
  all_goals go_enter Try.func16, Try.ntmps16
  all_goals go_wp2_with (go_at_call 35; refine (C_l21Good _ _ _ _ _ _ _).mono ?_; rintro e w' ⟨rfl, hb'⟩; obtain ⟨hc', hf'⟩ := bcell hb'; have hz' := bsize hb'; (try simp at hz'); have ht' := (by first | exact lt_le3 hz' | exact lt_le2 hz' | exact lt_le1 hz' | exact lt_le0 hz' : ∀ n, n < _ → n < w'.heap.size); (try have hs1 := Nat.lt_of_succ_le hz'); (try have hs2 := Nat.lt_of_succ_lt hs1); (try have hs3 := Nat.lt_of_succ_lt hs2))
  all_goals (go_light; refine bodyPost_ret (by simp [results, Try.results16, go_sem, *]; try rfl) rfl ?_)
  all_goals refine ⟨?_, ?_⟩
  all_goals go_light
  all_goals first | ((repeat (first | with_reducible exact Below.refl _ _ | with_reducible refine below_drewN ?_ _ | with_reducible refine Below.drew ?_ | with_reducible refine Below.alloc ?_ (by first | omega | (simp; done) | (simp; omega)) _ | with_reducible refine Below.setCell ?_ (by first | omega | (simp; done) | (simp; omega)) _ | with_reducible refine bel_step (by assumption) (by first | omega | (simp; done) | (simp; omega)) ?_)); done) | (skip; (try unfold newL at *); (try unfold zeroL at *); simp_all; done) | (skip; (try unfold newL at *); (try unfold zeroL at *); simp_all; omega) | (skip; (try unfold newL at *); (try unfold zeroL at *); simp_all; (repeat' split) <;> first | rfl | omega | (simp_all; done) | (simp_all; omega))


set_option maxHeartbeats 1000000 in
theorem C_CanEndI (day state act period closed holds : Int) (w : World) :
    Calls Try.prog 22 #[.agg #[.int .i64 day, .int .i64 state, .int .i64 act, .int .i64 period, .int .i64 closed, .int .i64 holds]] w fun e w' => e = .returned (.tuple #[.bool ((⟨day, state, act, period, closed, holds⟩ : Lf).ok && ready (⟨day, state, act, period, closed, holds⟩ : Lf)), .bool (⟨day, state, act, period, closed, holds⟩ : Lf).ok]) ∧ Below w.heap.size w w' := by
  cases hok : (⟨day, state, act, period, closed, holds⟩ : Lf).ok
  · have hw : whyNotEnd (⟨day, state, act, period, closed, holds⟩ : Lf) = ⟨#[]⟩ := by simp [whyNotEnd, hok]
    go_enter Try.func22, Try.ntmps22
    go_wp2_with (go_at_call 20; refine (C_WhyNotEndI _ _ _ _ _ _ _).mono ?_; rintro e w' ⟨rfl, hb'⟩; obtain ⟨hc', hf'⟩ := bcell hb'; have hz' := bsize hb'; (try simp at hz'); have ht' := (by first | exact lt_le3 hz' | exact lt_le2 hz' | exact lt_le1 hz' | exact lt_le0 hz' : ∀ n, n < _ → n < w'.heap.size); (try have hs1 := Nat.lt_of_succ_le hz'); (try have hs2 := Nat.lt_of_succ_lt hs1); (try have hs3 := Nat.lt_of_succ_lt hs2))
    all_goals go_returns
    all_goals refine ⟨by simp, ?_⟩
    (repeat (first | with_reducible exact Below.refl _ _ | with_reducible refine below_drewN ?_ _ | with_reducible refine Below.drew ?_ | with_reducible refine Below.alloc ?_ (by first | omega | (simp; done) | (simp; omega)) _ | with_reducible refine Below.setCell ?_ (by first | omega | (simp; done) | (simp; omega)) _ | with_reducible refine bel_step (by assumption) (by first | omega | (simp; done) | (simp; omega)) ?_))
  · have hx : whyNotEnd (⟨day, state, act, period, closed, holds⟩ : Lf) = whyNot (⟨day, state, act, period, closed, holds⟩ : Lf) := by simp [whyNotEnd, hok]
    rcases whyNot_cases (⟨day, state, act, period, closed, holds⟩ : Lf) with ⟨hw, hr⟩ | ⟨hw, hr⟩ | ⟨hw, hr⟩ | ⟨hw, hr⟩ | ⟨hw, hr⟩
    all_goals rw [hw] at hx
    all_goals clear hw
    all_goals go_enter Try.func22, Try.ntmps22
    all_goals go_wp2_with (go_at_call 20; refine (C_WhyNotEndI _ _ _ _ _ _ _).mono ?_; rintro e w' ⟨rfl, hb'⟩; obtain ⟨hc', hf'⟩ := bcell hb'; have hz' := bsize hb'; (try simp at hz'); have ht' := (by first | exact lt_le3 hz' | exact lt_le2 hz' | exact lt_le1 hz' | exact lt_le0 hz' : ∀ n, n < _ → n < w'.heap.size); (try have hs1 := Nat.lt_of_succ_le hz'); (try have hs2 := Nat.lt_of_succ_lt hs1); (try have hs3 := Nat.lt_of_succ_lt hs2))
    all_goals go_returns
    all_goals refine ⟨by simp [hr], ?_⟩
    all_goals (repeat (first | with_reducible exact Below.refl _ _ | with_reducible refine below_drewN ?_ _ | with_reducible refine Below.drew ?_ | with_reducible refine Below.alloc ?_ (by first | omega | (simp; done) | (simp; omega)) _ | with_reducible refine Below.setCell ?_ (by first | omega | (simp; done) | (simp; omega)) _ | with_reducible refine bel_step (by assumption) (by first | omega | (simp; done) | (simp; omega)) ?_))

set_option maxHeartbeats 1000000 in
theorem C_CanEndS (day state act period closed holds : Int) (w : World) :
    Calls Try.prog 21 #[.agg #[.int .i64 day, .int .i64 state, .int .i64 act, .int .i64 period, .int .i64 closed, .int .i64 holds]] w fun e w' => e = .returned (.tuple #[.bool ((⟨day, state, act, period, closed, holds⟩ : Lf).ok && ready (⟨day, state, act, period, closed, holds⟩ : Lf)), .bool (⟨day, state, act, period, closed, holds⟩ : Lf).ok]) ∧ Below w.heap.size w w' := by
  cases hok : (⟨day, state, act, period, closed, holds⟩ : Lf).ok
  · go_enter Try.func21, Try.ntmps21
    go_wp2_with (first | (go_at_call 35; refine (C_l21Good _ _ _ _ _ _ _).mono ?_; rintro e w' ⟨rfl, hb'⟩; obtain ⟨hc', hf'⟩ := bcell hb'; have hz' := bsize hb'; (try simp at hz'); have ht' := (by first | exact lt_le3 hz' | exact lt_le2 hz' | exact lt_le1 hz' | exact lt_le0 hz' : ∀ n, n < _ → n < w'.heap.size); (try have hs1 := Nat.lt_of_succ_le hz'); (try have hs2 := Nat.lt_of_succ_lt hs1); (try have hs3 := Nat.lt_of_succ_lt hs2)) | (go_at_call 41; refine (C_l21Why _ _ _ _ _ _ _ hok).mono ?_; rintro e w' ⟨rfl, hb'⟩; obtain ⟨hc', hf'⟩ := bcell hb'; have hz' := bsize hb'; (try simp at hz'); have ht' := (by first | exact lt_le3 hz' | exact lt_le2 hz' | exact lt_le1 hz' | exact lt_le0 hz' : ∀ n, n < _ → n < w'.heap.size); (try have hs1 := Nat.lt_of_succ_le hz'); (try have hs2 := Nat.lt_of_succ_lt hs1); (try have hs3 := Nat.lt_of_succ_lt hs2)))
    all_goals go_returns
    all_goals refine ⟨by simp, ?_⟩
    (repeat (first | with_reducible exact Below.refl _ _ | with_reducible refine below_drewN ?_ _ | with_reducible refine Below.drew ?_ | with_reducible refine Below.alloc ?_ (by first | omega | (simp; done) | (simp; omega)) _ | with_reducible refine Below.setCell ?_ (by first | omega | (simp; done) | (simp; omega)) _ | with_reducible refine bel_step (by assumption) (by first | omega | (simp; done) | (simp; omega)) ?_))
  · rcases whyNot_cases (⟨day, state, act, period, closed, holds⟩ : Lf) with ⟨hw, hr⟩ | ⟨hw, hr⟩ | ⟨hw, hr⟩ | ⟨hw, hr⟩ | ⟨hw, hr⟩
    all_goals go_enter Try.func21, Try.ntmps21
    all_goals go_wp2_with (first | (go_at_call 35; refine (C_l21Good _ _ _ _ _ _ _).mono ?_; rintro e w' ⟨rfl, hb'⟩; obtain ⟨hc', hf'⟩ := bcell hb'; have hz' := bsize hb'; (try simp at hz'); have ht' := (by first | exact lt_le3 hz' | exact lt_le2 hz' | exact lt_le1 hz' | exact lt_le0 hz' : ∀ n, n < _ → n < w'.heap.size); (try have hs1 := Nat.lt_of_succ_le hz'); (try have hs2 := Nat.lt_of_succ_lt hs1); (try have hs3 := Nat.lt_of_succ_lt hs2)) | (go_at_call 41; refine (C_l21Why _ _ _ _ _ _ _ hok).mono ?_; rintro e w' ⟨rfl, hb'⟩; obtain ⟨hc', hf'⟩ := bcell hb'; have hz' := bsize hb'; (try simp at hz'); have ht' := (by first | exact lt_le3 hz' | exact lt_le2 hz' | exact lt_le1 hz' | exact lt_le0 hz' : ∀ n, n < _ → n < w'.heap.size); (try have hs1 := Nat.lt_of_succ_le hz'); (try have hs2 := Nat.lt_of_succ_lt hs1); (try have hs3 := Nat.lt_of_succ_lt hs2)))
    all_goals go_returns
    all_goals refine ⟨by simp [hr], ?_⟩
    all_goals (repeat (first | with_reducible exact Below.refl _ _ | with_reducible refine below_drewN ?_ _ | with_reducible refine Below.drew ?_ | with_reducible refine Below.alloc ?_ (by first | omega | (simp; done) | (simp; omega)) _ | with_reducible refine Below.setCell ?_ (by first | omega | (simp; done) | (simp; omega)) _ | with_reducible refine bel_step (by assumption) (by first | omega | (simp; done) | (simp; omega)) ?_))


end Go.Proofs.Ytpkgfpgccfnkpaa
