/- What the functions on lists of reviews compute, one contract for each. No condition but those stated. -/
import Derived.Test.YtcdffikambbleaaRevC
namespace Go.Proofs.Ytcdffikambbleaa
set_option linter.unusedVariables false
set_option linter.unusedSimpArgs false
open Go.RowKit Go.Sort
def eqRs (n m : Nat) (R T : Nat → Rv) : Bool := decide (n = m) && allB n fun j => (R j).eqB (T j)
theorem C_eqReviewS (v v' : Value) (n m : Nat) (R T : Nat → Rv) (w : World) (h : RRs w v n R) (h' : RRs w v' m T) :
    Calls Try.prog 25 #[v, v'] w fun e w' => e = .returned (.bool (eqRs n m R T)) ∧ Below w.heap.size w w' := by
  obtain ⟨A, cap, rfl, hr, hc, hm⟩ := h
  obtain ⟨A', cap', rfl, hr', hc', hm'⟩ := h'
  have HR := Lib.hid hr; clear hr
  have HR' := Lib.hid hr'; clear hr'
  by_cases hnm : n = m
  · subst hnm
    go_enter Try.func25, Try.ntmps25
    go_wp2
    go_loopw [5] (fun i wr => ∃ k : Nat, k ≤ n ∧ i = .int .i64 k ∧ allB k (fun j => (R j).eqB (T j)) = true ∧ Below w.heap.size w wr) (fun i _ => n - (intOf i).toNat)
    case atStart => exact ⟨0, Nat.zero_le _, rfl, rfl, Below.refl _ _⟩
    case round =>
      obtain ⟨k, hk, rfl, ha, hB⟩ := hrel; have hzB := hB.size
      have HA := Lib.hid ha; clear ha
      by_cases hlt : k < n
      · obtain ⟨b, off, rfl, hb, hcell⟩ := RRs.at_ hB HR.out (by omega)
        obtain ⟨b', off', rfl, hb', hcell'⟩ := RRs.at_ hB HR'.out (by omega)
        obtain ⟨sv, hsv, hck0, hck1, hck2⟩ := hcell k hlt; have hsv0 := hsv; obtain ⟨A1, c1, rfl, hsr1, hsc1, hsm1⟩ := hsv0; clear hsr1
        have hrr : RR wr (.agg #[.int .i64 (R k).rid, .int .i64 (R k).due, .slice A1 (R k).n c1]) (R k) := ⟨_, rfl, hsv⟩
        obtain ⟨sv', hsv', hck0', hck1', hck2'⟩ := hcell' k hlt; have hsv0' := hsv'; obtain ⟨A1', c1', rfl, hsr1', hsc1', hsm1'⟩ := hsv0'; clear hsr1'
        have hrr' : RR wr (.agg #[.int .i64 (T k).rid, .int .i64 (T k).due, .slice A1' (T k).n c1']) (T k) := ⟨_, rfl, hsv'⟩
        have hk0 : (0 : Int) ≤ (k : Int) := by omega
        have hk1 : (k : Int) < (n : Int) := by omega
        have hg0 := cell_regrown hck0; have hg1 := cell_regrown hck1; have hg2 := cell_regrown hck2
        have hg0' := cell_regrown hck0'; have hg1' := cell_regrown hck1'; have hg2' := cell_regrown hck2'
        have HE : ∀ d os, Calls Try.prog 20 #[.agg #[.int .i64 (R k).rid, .int .i64 (R k).due, .slice A1 (R k).n c1], .agg #[.int .i64 (T k).rid, .int .i64 (T k).due, .slice A1' (T k).n c1']] (grow (redrawn wr d) os) fun e w'' => e = .returned (.bool ((R k).eqB (T k))) ∧ ∃ p : Regrown, w'' = grow (redrawn wr p.d) p.os :=
          fun d os => Calls.regrown_of (C_eqReview _ _ _ _ _ (hrr.below (below_regrown _ _ _)) (hrr'.below (below_regrown _ _ _)))
        clear hcell hcell'
        go_wp2
        refine wp_region_quiet_below (by kernel_rfl) (by kernel_rfl) ?_
        repeat (quiet_step (exact HE _ _))
        refine wpQuiet_nil ?_
        intro _ hw'
        obtain ⟨⟨dq, osq⟩, hw''⟩ := hw'
        subst hw''
        go_wp2
        all_goals first
          | (go_ret; exact ⟨ret_bool (by unfold eqRs; rw [allB_of_not hlt (by (first | (simp [*]; done) | (go_light; simp_all; done) | (go_light; simp_all; omega)))]; simp), by (repeat (first | with_reducible exact Below.refl _ _ | with_reducible exact below_regrown _ _ _ | with_reducible refine bel_step0 (by assumption) ?_ | with_reducible refine bel_alloc0 ?_ _ | with_reducible refine bel_regrown0 ?_ _ _ | with_reducible refine bel_regrown ?_ (by first | omega | (simp; done) | (simp; omega)) _ _ | with_reducible refine below_drewN ?_ _ | with_reducible refine Below.drew ?_ | with_reducible refine Below.alloc ?_ (by first | omega | (simp; done) | (simp; omega)) _ | with_reducible refine Below.setCell ?_ (by first | omega | (simp; done) | (simp; omega)) _ | with_reducible refine bel_step (by assumption) (by first | omega | (simp; done) | (simp; omega)) ?_ | with_reducible refine bel_grown (by assumption) (by first | omega | (simp; done) | (simp; omega)) (by first | omega | (simp; done) | (simp; omega)) ?_))⟩)
          | (go_roundw; (case rel => exact ⟨k + 1, by omega, by go_num, allB_next HA.out (by (first | (simp [*]; done) | (go_light; simp_all; done) | (go_light; simp_all; omega))), by (repeat (first | with_reducible exact Below.refl _ _ | with_reducible exact below_regrown _ _ _ | with_reducible refine bel_step0 (by assumption) ?_ | with_reducible refine bel_alloc0 ?_ _ | with_reducible refine bel_regrown0 ?_ _ _ | with_reducible refine bel_regrown ?_ (by first | omega | (simp; done) | (simp; omega)) _ _ | with_reducible refine below_drewN ?_ _ | with_reducible refine Below.drew ?_ | with_reducible refine Below.alloc ?_ (by first | omega | (simp; done) | (simp; omega)) _ | with_reducible refine Below.setCell ?_ (by first | omega | (simp; done) | (simp; omega)) _ | with_reducible refine bel_step (by assumption) (by first | omega | (simp; done) | (simp; omega)) ?_ | with_reducible refine bel_grown (by assumption) (by first | omega | (simp; done) | (simp; omega)) (by first | omega | (simp; done) | (simp; omega)) ?_))⟩); (case measure => simp [intOf]; omega))
      · go_wp2
        (go_ret; obtain rfl : k = n := (by omega); exact ⟨ret_bool (by unfold eqRs; rw [HA.out]; simp), by (repeat (first | with_reducible exact Below.refl _ _ | with_reducible exact below_regrown _ _ _ | with_reducible refine bel_step0 (by assumption) ?_ | with_reducible refine bel_alloc0 ?_ _ | with_reducible refine bel_regrown0 ?_ _ _ | with_reducible refine bel_regrown ?_ (by first | omega | (simp; done) | (simp; omega)) _ _ | with_reducible refine below_drewN ?_ _ | with_reducible refine Below.drew ?_ | with_reducible refine Below.alloc ?_ (by first | omega | (simp; done) | (simp; omega)) _ | with_reducible refine Below.setCell ?_ (by first | omega | (simp; done) | (simp; omega)) _ | with_reducible refine bel_step (by assumption) (by first | omega | (simp; done) | (simp; omega)) ?_ | with_reducible refine bel_grown (by assumption) (by first | omega | (simp; done) | (simp; omega)) (by first | omega | (simp; done) | (simp; omega)) ?_))⟩)
  · have h1 : ((n : Int) == (m : Int)) = false := by simp; omega
    have h2 : ((n : Int) != (m : Int)) = true := by simp; omega
    go_enter Try.func25, Try.ntmps25
    go_wp2
    go_ret
    exact ⟨ret_bool (by unfold eqRs; rw [decide_eq_false hnm]; rfl), Below.refl _ _⟩

end Go.Proofs.Ytcdffikambbleaa
