/- What the functions on slices of numbers compute, one contract for each. No condition but those stated. -/
import Derived.Test.YtcdffikambbleaaIntsC
namespace Go.Proofs.Ytcdffikambbleaa
set_option linter.unusedVariables false
set_option linter.unusedSimpArgs false
open Go.RowKit Go.Sort

def risingB (n : Nat) (f : Nat → Int) : Bool := allB (n - 1) fun j => decide (f j < f (j + 1))
def rise1 (f : Nat → Int) (lo hi : Int) (j : Nat) : Bool := within (f j) lo hi && (decide (j = 0) || decide (f (j - 1) < f j))
theorem rise1_zero (f : Nat → Int) (lo hi : Int) : rise1 f lo hi 0 = within (f 0) lo hi := by simp [rise1]
theorem rise1_succ (f : Nat → Int) (lo hi : Int) (m : Nat) : rise1 f lo hi (m + 1) = (within (f (m + 1)) lo hi && decide (f m < f (m + 1))) := by simp [rise1]
theorem rise_all (n : Nat) (f : Nat → Int) (lo hi : Int) : allB n (rise1 f lo hi) = (risingB n f && allB n fun j => within (f j) lo hi) := by
  rw [Bool.eq_iff_iff, Bool.and_eq_true, allB_iff, risingB, allB_iff, allB_iff]
  constructor
  · intro h
    refine ⟨fun j hj => ?_, fun j hj => ?_⟩
    · have := h (j + 1) (by omega)
      rw [rise1_succ, Bool.and_eq_true] at this
      exact this.2
    · have := h j hj
      rw [rise1, Bool.and_eq_true] at this
      exact this.1
  · rintro ⟨h1, h2⟩ j hj
    rcases j with _ | m
    · rw [rise1_zero]; exact h2 0 hj
    · rw [rise1_succ, h2 (m + 1) hj, Bool.true_and]; exact h1 m (by omega)

theorem C_areRising (v : Value) (n : Nat) (f : Nat → Int) (w : World) (h : SI w v n f) :
    Calls Try.prog 81 #[v] w fun e w' => e = .returned (.bool (risingB n f)) ∧ Below w.heap.size w w' := by
  obtain ⟨A, cap, rfl, hr, hc, hm⟩ := h
  have HR := Lib.hid hr; clear hr
  go_enter Try.func81, Try.ntmps81
  go_wp2
  go_loopw [3] (fun i wr => ∃ m : Nat, m ≤ n ∧ i = .int .i64 ((m + 1 : Nat) : Int) ∧ allB m (fun j => decide (f j < f (j + 1))) = true ∧ Below w.heap.size w wr) (fun i _ => n + 1 - (intOf i).toNat)
  case atStart => exact ⟨0, Nat.zero_le _, rfl, rfl, Below.refl _ _⟩
  case round =>
    obtain ⟨m, hk, rfl, ha, hB⟩ := hrel
    have HA := Lib.hid ha; clear ha
    by_cases hlt : m + 1 < n
    · obtain ⟨b, off, rfl, hb, hcell⟩ := (HR.out.below hB) (by omega)
      have hck := hcell (m + 1) hlt
      have hcp := hcell m (by omega)
      have hn0 : (0 : Int) ≤ (m : Int) := by omega
      have hn1 : (m : Int) + 1 < (n : Int) := by omega
      have hn2 : (m : Int) < (n : Int) := by omega
      clear hcell
      go_wp2
      go_quiet (fail)
      go_wp2
      all_goals first
        | (go_ret; exact ⟨ret_bool (by unfold risingB; rw [allB_of_not (k := m) (by omega) (by (first | (simp [*]; done) | (go_light; simp_all; done) | (go_light; simp_all; omega)))]), by (repeat (first | with_reducible exact Below.refl _ _ | with_reducible exact below_regrown _ _ _ | with_reducible refine bel_step0 (by assumption) ?_ | with_reducible refine bel_alloc0 ?_ _ | with_reducible refine bel_regrown0 ?_ _ _ | with_reducible refine bel_regrown ?_ (by first | omega | (simp; done) | (simp; omega)) _ _ | with_reducible refine below_drewN ?_ _ | with_reducible refine Below.drew ?_ | with_reducible refine Below.alloc ?_ (by first | omega | (simp; done) | (simp; omega)) _ | with_reducible refine Below.setCell ?_ (by first | omega | (simp; done) | (simp; omega)) _ | with_reducible refine bel_step (by assumption) (by first | omega | (simp; done) | (simp; omega)) ?_ | with_reducible refine bel_grown (by assumption) (by first | omega | (simp; done) | (simp; omega)) (by first | omega | (simp; done) | (simp; omega)) ?_))⟩)
        | (go_roundw; (case rel => exact ⟨m + 1, by omega, by go_num, allB_next HA.out (by (first | (simp [*]; done) | (go_light; simp_all; done) | (go_light; simp_all; omega))), by (repeat (first | with_reducible exact Below.refl _ _ | with_reducible exact below_regrown _ _ _ | with_reducible refine bel_step0 (by assumption) ?_ | with_reducible refine bel_alloc0 ?_ _ | with_reducible refine bel_regrown0 ?_ _ _ | with_reducible refine bel_regrown ?_ (by first | omega | (simp; done) | (simp; omega)) _ _ | with_reducible refine below_drewN ?_ _ | with_reducible refine Below.drew ?_ | with_reducible refine Below.alloc ?_ (by first | omega | (simp; done) | (simp; omega)) _ | with_reducible refine Below.setCell ?_ (by first | omega | (simp; done) | (simp; omega)) _ | with_reducible refine bel_step (by assumption) (by first | omega | (simp; done) | (simp; omega)) ?_ | with_reducible refine bel_grown (by assumption) (by first | omega | (simp; done) | (simp; omega)) (by first | omega | (simp; done) | (simp; omega)) ?_))⟩); (case measure => simp [intOf]; omega))
    · go_wp2
      go_ret
      exact ⟨ret_bool (by unfold risingB; exact (allB_iff.2 fun j hj => allB_iff.1 HA.out j (by omega)).symm), hB⟩

theorem C_l1Rising (v : Value) (n : Nat) (f : Nat → Int) (lo hi : Int) (w : World) (h : SI w v n f) :
    Calls Try.prog 111 #[v, .int .i64 lo, .int .i64 hi] w fun e w' => e = .returned (.bool (allB n (rise1 f lo hi))) ∧ Below w.heap.size w w' := by
  obtain ⟨A, cap, rfl, hr, hc, hm⟩ := h
  have HR := Lib.hid hr; clear hr
  go_enter Try.func111, Try.ntmps111
  go_wp2
  go_loopw [7] (fun i wr => ∃ k : Nat, k ≤ n ∧ i = .int .i64 k ∧ allB k (rise1 f lo hi) = true ∧ Below w.heap.size w wr) (fun i _ => n - (intOf i).toNat)
  case atStart => exact ⟨0, Nat.zero_le _, rfl, rfl, Below.refl _ _⟩
  case round =>
    obtain ⟨k, hk, rfl, ha, hB⟩ := hrel
    have HA := Lib.hid ha; clear ha
    by_cases hlt : k < n
    · obtain ⟨b, off, rfl, hb, hcell⟩ := (HR.out.below hB) (by omega)
      have hck := hcell k hlt
      have hn2 : (k : Int) < (n : Int) := by omega
      rcases k with _ | m
      · have HG := Lib.hid (rise1_zero f lo hi)
        clear hcell
        have HE : ∀ W, Calls Try.prog 87 #[.int .i64 (f 0), .int .i64 lo, .int .i64 hi] W fun e w' => e = .returned (.bool (within (f 0) lo hi)) ∧ w' = W := fun W => (C_l1In _ _ _ W).mono fun e w' hh => ⟨hh.1, hh.2.symm⟩
        simp only [Nat.add_zero] at hck
        cases hok : within (f 0) lo hi
        all_goals
          simp only [hok] at HE
          go_wp2
          go_quiet ((exact Calls.quiet_of_same (HE _)))
          go_wp2
        · go_ret; exact ⟨ret_bool (by rw [allB_of_not hlt (by rw [HG.out]; exact hok)]), by (repeat (first | with_reducible exact Below.refl _ _ | with_reducible exact below_regrown _ _ _ | with_reducible refine bel_step0 (by assumption) ?_ | with_reducible refine bel_alloc0 ?_ _ | with_reducible refine bel_regrown0 ?_ _ _ | with_reducible refine bel_regrown ?_ (by first | omega | (simp; done) | (simp; omega)) _ _ | with_reducible refine below_drewN ?_ _ | with_reducible refine Below.drew ?_ | with_reducible refine Below.alloc ?_ (by first | omega | (simp; done) | (simp; omega)) _ | with_reducible refine Below.setCell ?_ (by first | omega | (simp; done) | (simp; omega)) _ | with_reducible refine bel_step (by assumption) (by first | omega | (simp; done) | (simp; omega)) ?_ | with_reducible refine bel_grown (by assumption) (by first | omega | (simp; done) | (simp; omega)) (by first | omega | (simp; done) | (simp; omega)) ?_))⟩
        · go_roundw
          case rel => exact ⟨0 + 1, by omega, by go_num, allB_next HA.out (by rw [HG.out]; exact hok), by (repeat (first | with_reducible exact Below.refl _ _ | with_reducible exact below_regrown _ _ _ | with_reducible refine bel_step0 (by assumption) ?_ | with_reducible refine bel_alloc0 ?_ _ | with_reducible refine bel_regrown0 ?_ _ _ | with_reducible refine bel_regrown ?_ (by first | omega | (simp; done) | (simp; omega)) _ _ | with_reducible refine below_drewN ?_ _ | with_reducible refine Below.drew ?_ | with_reducible refine Below.alloc ?_ (by first | omega | (simp; done) | (simp; omega)) _ | with_reducible refine Below.setCell ?_ (by first | omega | (simp; done) | (simp; omega)) _ | with_reducible refine bel_step (by assumption) (by first | omega | (simp; done) | (simp; omega)) ?_ | with_reducible refine bel_grown (by assumption) (by first | omega | (simp; done) | (simp; omega)) (by first | omega | (simp; done) | (simp; omega)) ?_))⟩
          case measure => simp [intOf]; omega
      · have HG := Lib.hid (rise1_succ f lo hi m)
        have hcp := hcell m (by omega)
        have hn0 : (0 : Int) ≤ (m : Int) := by omega
        have hn1 : (m : Int) + 1 < (n : Int) := by omega
        have hn2 : (m : Int) < (n : Int) := by omega
        clear hcell
        have HE : ∀ W, Calls Try.prog 87 #[.int .i64 (f (m + 1)), .int .i64 lo, .int .i64 hi] W fun e w' => e = .returned (.bool (within (f (m + 1)) lo hi)) ∧ w' = W := fun W => (C_l1In _ _ _ W).mono fun e w' hh => ⟨hh.1, hh.2.symm⟩
        cases hok : within (f (m + 1)) lo hi
        all_goals
          simp only [hok] at HE
          go_wp2
          go_quiet ((exact Calls.quiet_of_same (HE _)))
          go_wp2
        all_goals first
          | (go_ret; exact ⟨ret_bool (by rw [allB_of_not hlt (by rw [HG.out, hok]; exact (by (first | (simp [*]; done) | (go_light; simp_all; done) | (go_light; simp_all; omega))))]), by (repeat (first | with_reducible exact Below.refl _ _ | with_reducible exact below_regrown _ _ _ | with_reducible refine bel_step0 (by assumption) ?_ | with_reducible refine bel_alloc0 ?_ _ | with_reducible refine bel_regrown0 ?_ _ _ | with_reducible refine bel_regrown ?_ (by first | omega | (simp; done) | (simp; omega)) _ _ | with_reducible refine below_drewN ?_ _ | with_reducible refine Below.drew ?_ | with_reducible refine Below.alloc ?_ (by first | omega | (simp; done) | (simp; omega)) _ | with_reducible refine Below.setCell ?_ (by first | omega | (simp; done) | (simp; omega)) _ | with_reducible refine bel_step (by assumption) (by first | omega | (simp; done) | (simp; omega)) ?_ | with_reducible refine bel_grown (by assumption) (by first | omega | (simp; done) | (simp; omega)) (by first | omega | (simp; done) | (simp; omega)) ?_))⟩)
          | (go_roundw; (case rel => exact ⟨m + 1 + 1, by omega, by go_num, allB_next HA.out (by rw [HG.out, hok]; exact (by (first | (simp [*]; done) | (go_light; simp_all; done) | (go_light; simp_all; omega)))), by (repeat (first | with_reducible exact Below.refl _ _ | with_reducible exact below_regrown _ _ _ | with_reducible refine bel_step0 (by assumption) ?_ | with_reducible refine bel_alloc0 ?_ _ | with_reducible refine bel_regrown0 ?_ _ _ | with_reducible refine bel_regrown ?_ (by first | omega | (simp; done) | (simp; omega)) _ _ | with_reducible refine below_drewN ?_ _ | with_reducible refine Below.drew ?_ | with_reducible refine Below.alloc ?_ (by first | omega | (simp; done) | (simp; omega)) _ | with_reducible refine Below.setCell ?_ (by first | omega | (simp; done) | (simp; omega)) _ | with_reducible refine bel_step (by assumption) (by first | omega | (simp; done) | (simp; omega)) ?_ | with_reducible refine bel_grown (by assumption) (by first | omega | (simp; done) | (simp; omega)) (by first | omega | (simp; done) | (simp; omega)) ?_))⟩); (case measure => simp [intOf]; omega))
    · go_wp2
      (go_ret; obtain rfl : k = n := (by omega); exact ⟨ret_bool HA.out.symm, by (repeat (first | with_reducible exact Below.refl _ _ | with_reducible exact below_regrown _ _ _ | with_reducible refine bel_step0 (by assumption) ?_ | with_reducible refine bel_alloc0 ?_ _ | with_reducible refine bel_regrown0 ?_ _ _ | with_reducible refine bel_regrown ?_ (by first | omega | (simp; done) | (simp; omega)) _ _ | with_reducible refine below_drewN ?_ _ | with_reducible refine Below.drew ?_ | with_reducible refine Below.alloc ?_ (by first | omega | (simp; done) | (simp; omega)) _ | with_reducible refine Below.setCell ?_ (by first | omega | (simp; done) | (simp; omega)) _ | with_reducible refine bel_step (by assumption) (by first | omega | (simp; done) | (simp; omega)) ?_ | with_reducible refine bel_grown (by assumption) (by first | omega | (simp; done) | (simp; omega)) (by first | omega | (simp; done) | (simp; omega)) ?_))⟩)

end Go.Proofs.Ytcdffikambbleaa
