/- What the functions on lists of reviews compute, one contract for each. No condition but those stated. -/
import Derived.Test.YtcdffikambbleaaRevD
namespace Go.Proofs.Ytcdffikambbleaa
set_option linter.unusedVariables false
set_option linter.unusedSimpArgs false
open Go.RowKit Go.Sort
def goodB (R : Nat → Rv) (j : Nat) : Bool := (R j).ok && (decide (j = 0) || decide ((R (j - 1)).rid < (R j).rid))
def okRs (n : Nat) (R : Nat → Rv) : Bool := allB n (goodB R) && decide ((n : Int) ≤ 10)
theorem goodB_zero (R : Nat → Rv) : goodB R 0 = (R 0).ok := by simp [goodB]
theorem goodB_succ (R : Nat → Rv) (m : Nat) : goodB R (m + 1) = ((R (m + 1)).ok && decide ((R m).rid < (R (m + 1)).rid)) := by simp [goodB]
theorem C_l23Good (v : Value) (n : Nat) (R : Nat → Rv) (w : World) (h : RRs w v n R) :
    Calls Try.prog 77 #[v] w fun e w' => e = .returned (.bool (okRs n R)) ∧ Below w.heap.size w w' := by
  obtain ⟨A, cap, rfl, hr, hc, hm⟩ := h
  have HR := Lib.hid hr; clear hr
  go_enter Try.func77, Try.ntmps77
  go_wp2
  go_loopw [3] (fun i wr => ∃ k : Nat, k ≤ n ∧ i = .int .i64 k ∧ allB k (goodB R) = true ∧ Below w.heap.size w wr) (fun i _ => n - (intOf i).toNat)
  case atStart => exact ⟨0, Nat.zero_le _, rfl, rfl, Below.refl _ _⟩
  case round =>
    obtain ⟨k, hk, rfl, ha, hB⟩ := hrel; have hzB := hB.size
    have HA := Lib.hid ha; clear ha
    by_cases hlt : k < n
    · obtain ⟨b, off, rfl, hb, hcell⟩ := RRs.at_ hB HR.out (by omega)
      rcases k with _ | m
      · obtain ⟨sv, hsv, hck0, hck1, hck2⟩ := hcell 0 hlt; have hsv0 := hsv; obtain ⟨A1, c1, rfl, hsr1, hsc1, hsm1⟩ := hsv0; clear hsr1
        have hrr : RR wr (.agg #[.int .i64 (R 0).rid, .int .i64 (R 0).due, .slice A1 (R 0).n c1]) (R 0) := ⟨_, rfl, hsv⟩
        simp only [Nat.zero_mul, Nat.add_zero] at hck0 hck1 hck2
        have hn0 : (0 : Int) < (n : Int) := by omega
        have hg0 := cell_regrown hck0; have hg1 := cell_regrown hck1; have hg2 := cell_regrown hck2
        have HE : ∀ d os, Calls Try.prog 70 #[.agg #[.int .i64 (R 0).rid, .int .i64 (R 0).due, .slice A1 (R 0).n c1]] (grow (redrawn wr d) os) fun e w'' => e = .returned (.bool (R 0).ok) ∧ ∃ p : Regrown, w'' = grow (redrawn wr p.d) p.os :=
          fun d os => Calls.regrown_of (C_l23One _ _ _ (hrr.below (below_regrown _ _ _)))
        have HG := Lib.hid (goodB_zero R)
        clear hcell
        cases hok : (R 0).ok
        all_goals
          simp only [hok] at HE
          go_wp2
          (refine wp_region_quiet_below (by kernel_rfl) (by kernel_rfl) ?_; (repeat (go_big_quiet_step (exact HE _ _))); refine wpQuiet_nil ?_; intro _ hw'; obtain ⟨⟨dq, osq⟩, hw''⟩ := hw'; subst hw'')
          go_wp2
        · go_ret; exact ⟨ret_bool (by unfold okRs; rw [allB_of_not hlt (by rw [HG.out]; exact hok)]; rfl), by (repeat (first | with_reducible exact Below.refl _ _ | with_reducible exact below_regrown _ _ _ | with_reducible refine bel_step0 (by assumption) ?_ | with_reducible refine bel_alloc0 ?_ _ | with_reducible refine bel_regrown0 ?_ _ _ | with_reducible refine bel_regrown ?_ (by first | omega | (simp; done) | (simp; omega)) _ _ | with_reducible refine below_drewN ?_ _ | with_reducible refine Below.drew ?_ | with_reducible refine Below.alloc ?_ (by first | omega | (simp; done) | (simp; omega)) _ | with_reducible refine Below.setCell ?_ (by first | omega | (simp; done) | (simp; omega)) _ | with_reducible refine bel_step (by assumption) (by first | omega | (simp; done) | (simp; omega)) ?_ | with_reducible refine bel_grown (by assumption) (by first | omega | (simp; done) | (simp; omega)) (by first | omega | (simp; done) | (simp; omega)) ?_))⟩
        · go_roundw
          case rel => exact ⟨0 + 1, by omega, by go_num, allB_next HA.out (by rw [HG.out]; exact hok), by (repeat (first | with_reducible exact Below.refl _ _ | with_reducible exact below_regrown _ _ _ | with_reducible refine bel_step0 (by assumption) ?_ | with_reducible refine bel_alloc0 ?_ _ | with_reducible refine bel_regrown0 ?_ _ _ | with_reducible refine bel_regrown ?_ (by first | omega | (simp; done) | (simp; omega)) _ _ | with_reducible refine below_drewN ?_ _ | with_reducible refine Below.drew ?_ | with_reducible refine Below.alloc ?_ (by first | omega | (simp; done) | (simp; omega)) _ | with_reducible refine Below.setCell ?_ (by first | omega | (simp; done) | (simp; omega)) _ | with_reducible refine bel_step (by assumption) (by first | omega | (simp; done) | (simp; omega)) ?_ | with_reducible refine bel_grown (by assumption) (by first | omega | (simp; done) | (simp; omega)) (by first | omega | (simp; done) | (simp; omega)) ?_))⟩
          case measure => simp [intOf]; omega
      · obtain ⟨sv, hsv, hck0, hck1, hck2⟩ := hcell (m + 1) hlt; have hsv0 := hsv; obtain ⟨A1, c1, rfl, hsr1, hsc1, hsm1⟩ := hsv0; clear hsr1
        have hrr : RR wr (.agg #[.int .i64 (R (m + 1)).rid, .int .i64 (R (m + 1)).due, .slice A1 (R (m + 1)).n c1]) (R (m + 1)) := ⟨_, rfl, hsv⟩
        obtain ⟨_, _, hcp0, _, _⟩ := hcell m (by omega)
        have hn0 : (0 : Int) ≤ (m : Int) := by omega
        have hn1 : (m : Int) + 1 < (n : Int) := by omega
        have hn2 : (m : Int) < (n : Int) := by omega
        have hg0 := cell_regrown hck0; have hg1 := cell_regrown hck1; have hg2 := cell_regrown hck2; have hp0 := cell_regrown hcp0
        have HE : ∀ d os, Calls Try.prog 70 #[.agg #[.int .i64 (R (m + 1)).rid, .int .i64 (R (m + 1)).due, .slice A1 (R (m + 1)).n c1]] (grow (redrawn wr d) os) fun e w'' => e = .returned (.bool (R (m + 1)).ok) ∧ ∃ p : Regrown, w'' = grow (redrawn wr p.d) p.os :=
          fun d os => Calls.regrown_of (C_l23One _ _ _ (hrr.below (below_regrown _ _ _)))
        have HG := Lib.hid (goodB_succ R m)
        clear hcell
        cases hok : (R (m + 1)).ok
        all_goals
          simp only [hok] at HE
          go_wp2
          (refine wp_region_quiet_below (by kernel_rfl) (by kernel_rfl) ?_; (repeat (go_big_quiet_step (exact HE _ _))); refine wpQuiet_nil ?_; intro _ hw'; obtain ⟨⟨dq, osq⟩, hw''⟩ := hw'; subst hw'')
          go_wp2
        all_goals first
          | (go_ret; exact ⟨ret_bool (by unfold okRs; rw [allB_of_not hlt (by rw [HG.out, hok]; exact (by (first | (simp [*]; done) | (go_light; simp_all; done) | (go_light; simp_all; omega))))]; rfl), by (repeat (first | with_reducible exact Below.refl _ _ | with_reducible exact below_regrown _ _ _ | with_reducible refine bel_step0 (by assumption) ?_ | with_reducible refine bel_alloc0 ?_ _ | with_reducible refine bel_regrown0 ?_ _ _ | with_reducible refine bel_regrown ?_ (by first | omega | (simp; done) | (simp; omega)) _ _ | with_reducible refine below_drewN ?_ _ | with_reducible refine Below.drew ?_ | with_reducible refine Below.alloc ?_ (by first | omega | (simp; done) | (simp; omega)) _ | with_reducible refine Below.setCell ?_ (by first | omega | (simp; done) | (simp; omega)) _ | with_reducible refine bel_step (by assumption) (by first | omega | (simp; done) | (simp; omega)) ?_ | with_reducible refine bel_grown (by assumption) (by first | omega | (simp; done) | (simp; omega)) (by first | omega | (simp; done) | (simp; omega)) ?_))⟩)
          | (go_roundw; (case rel => exact ⟨m + 1 + 1, by omega, by go_num, allB_next HA.out (by rw [HG.out, hok]; exact (by (first | (simp [*]; done) | (go_light; simp_all; done) | (go_light; simp_all; omega)))), by (repeat (first | with_reducible exact Below.refl _ _ | with_reducible exact below_regrown _ _ _ | with_reducible refine bel_step0 (by assumption) ?_ | with_reducible refine bel_alloc0 ?_ _ | with_reducible refine bel_regrown0 ?_ _ _ | with_reducible refine bel_regrown ?_ (by first | omega | (simp; done) | (simp; omega)) _ _ | with_reducible refine below_drewN ?_ _ | with_reducible refine Below.drew ?_ | with_reducible refine Below.alloc ?_ (by first | omega | (simp; done) | (simp; omega)) _ | with_reducible refine Below.setCell ?_ (by first | omega | (simp; done) | (simp; omega)) _ | with_reducible refine bel_step (by assumption) (by first | omega | (simp; done) | (simp; omega)) ?_ | with_reducible refine bel_grown (by assumption) (by first | omega | (simp; done) | (simp; omega)) (by first | omega | (simp; done) | (simp; omega)) ?_))⟩); (case measure => simp [intOf]; omega))
    · go_wp2
      (go_ret; obtain rfl : k = n := (by omega); exact ⟨ret_bool (by unfold okRs; rw [HA.out]; simp), by (repeat (first | with_reducible exact Below.refl _ _ | with_reducible exact below_regrown _ _ _ | with_reducible refine bel_step0 (by assumption) ?_ | with_reducible refine bel_alloc0 ?_ _ | with_reducible refine bel_regrown0 ?_ _ _ | with_reducible refine bel_regrown ?_ (by first | omega | (simp; done) | (simp; omega)) _ _ | with_reducible refine below_drewN ?_ _ | with_reducible refine Below.drew ?_ | with_reducible refine Below.alloc ?_ (by first | omega | (simp; done) | (simp; omega)) _ | with_reducible refine Below.setCell ?_ (by first | omega | (simp; done) | (simp; omega)) _ | with_reducible refine bel_step (by assumption) (by first | omega | (simp; done) | (simp; omega)) ?_ | with_reducible refine bel_grown (by assumption) (by first | omega | (simp; done) | (simp; omega)) (by first | omega | (simp; done) | (simp; omega)) ?_))⟩)

theorem C_AreReviewsS (v : Value) (n : Nat) (R : Nat → Rv) (w : World) (h : RRs w v n R) :
    Calls Try.prog 22 #[v] w fun e w' => e = .returned (.bool (okRs n R)) ∧ Below w.heap.size w w' := by
  have h0 := h
  obtain ⟨A, cap, rfl, hr, hc, hm⟩ := h
  clear hr
  go_enter Try.func22, Try.ntmps22
  go_wp2_with (go_at_call 77; refine (C_l23Good _ _ _ _ (by first | assumption | (refine SI.below ?_ (by assumption); (repeat (first | with_reducible exact Below.refl _ _ | with_reducible exact below_regrown _ _ _ | with_reducible refine bel_step0 (by assumption) ?_ | with_reducible refine bel_alloc0 ?_ _ | with_reducible refine bel_regrown0 ?_ _ _ | with_reducible refine bel_regrown ?_ (by first | omega | (simp; done) | (simp; omega)) _ _ | with_reducible refine below_drewN ?_ _ | with_reducible refine Below.drew ?_ | with_reducible refine Below.alloc ?_ (by first | omega | (simp; done) | (simp; omega)) _ | with_reducible refine Below.setCell ?_ (by first | omega | (simp; done) | (simp; omega)) _ | with_reducible refine bel_step (by assumption) (by first | omega | (simp; done) | (simp; omega)) ?_ | with_reducible refine bel_grown (by assumption) (by first | omega | (simp; done) | (simp; omega)) (by first | omega | (simp; done) | (simp; omega)) ?_)); done) | (refine RR.below ?_ (by assumption); (repeat (first | with_reducible exact Below.refl _ _ | with_reducible exact below_regrown _ _ _ | with_reducible refine bel_step0 (by assumption) ?_ | with_reducible refine bel_alloc0 ?_ _ | with_reducible refine bel_regrown0 ?_ _ _ | with_reducible refine bel_regrown ?_ (by first | omega | (simp; done) | (simp; omega)) _ _ | with_reducible refine below_drewN ?_ _ | with_reducible refine Below.drew ?_ | with_reducible refine Below.alloc ?_ (by first | omega | (simp; done) | (simp; omega)) _ | with_reducible refine Below.setCell ?_ (by first | omega | (simp; done) | (simp; omega)) _ | with_reducible refine bel_step (by assumption) (by first | omega | (simp; done) | (simp; omega)) ?_ | with_reducible refine bel_grown (by assumption) (by first | omega | (simp; done) | (simp; omega)) (by first | omega | (simp; done) | (simp; omega)) ?_)); done) | (refine RRs.below ?_ (by assumption); (repeat (first | with_reducible exact Below.refl _ _ | with_reducible exact below_regrown _ _ _ | with_reducible refine bel_step0 (by assumption) ?_ | with_reducible refine bel_alloc0 ?_ _ | with_reducible refine bel_regrown0 ?_ _ _ | with_reducible refine bel_regrown ?_ (by first | omega | (simp; done) | (simp; omega)) _ _ | with_reducible refine below_drewN ?_ _ | with_reducible refine Below.drew ?_ | with_reducible refine Below.alloc ?_ (by first | omega | (simp; done) | (simp; omega)) _ | with_reducible refine Below.setCell ?_ (by first | omega | (simp; done) | (simp; omega)) _ | with_reducible refine bel_step (by assumption) (by first | omega | (simp; done) | (simp; omega)) ?_ | with_reducible refine bel_grown (by assumption) (by first | omega | (simp; done) | (simp; omega)) (by first | omega | (simp; done) | (simp; omega)) ?_)); done) | (refine RA.below ?_ (by assumption); (repeat (first | with_reducible exact Below.refl _ _ | with_reducible exact below_regrown _ _ _ | with_reducible refine bel_step0 (by assumption) ?_ | with_reducible refine bel_alloc0 ?_ _ | with_reducible refine bel_regrown0 ?_ _ _ | with_reducible refine bel_regrown ?_ (by first | omega | (simp; done) | (simp; omega)) _ _ | with_reducible refine below_drewN ?_ _ | with_reducible refine Below.drew ?_ | with_reducible refine Below.alloc ?_ (by first | omega | (simp; done) | (simp; omega)) _ | with_reducible refine Below.setCell ?_ (by first | omega | (simp; done) | (simp; omega)) _ | with_reducible refine bel_step (by assumption) (by first | omega | (simp; done) | (simp; omega)) ?_ | with_reducible refine bel_grown (by assumption) (by first | omega | (simp; done) | (simp; omega)) (by first | omega | (simp; done) | (simp; omega)) ?_)); done))).mono ?_; rintro e w' ⟨rfl, hb'⟩)
  go_ret
  exact ⟨rfl, by (repeat (first | with_reducible exact Below.refl _ _ | with_reducible exact below_regrown _ _ _ | with_reducible refine bel_step0 (by assumption) ?_ | with_reducible refine bel_alloc0 ?_ _ | with_reducible refine bel_regrown0 ?_ _ _ | with_reducible refine bel_regrown ?_ (by first | omega | (simp; done) | (simp; omega)) _ _ | with_reducible refine below_drewN ?_ _ | with_reducible refine Below.drew ?_ | with_reducible refine Below.alloc ?_ (by first | omega | (simp; done) | (simp; omega)) _ | with_reducible refine Below.setCell ?_ (by first | omega | (simp; done) | (simp; omega)) _ | with_reducible refine bel_step (by assumption) (by first | omega | (simp; done) | (simp; omega)) ?_ | with_reducible refine bel_grown (by assumption) (by first | omega | (simp; done) | (simp; omega)) (by first | omega | (simp; done) | (simp; omega)) ?_))⟩

theorem C_AreReviewsI (v : Value) (n : Nat) (R : Nat → Rv) (w : World) (h : RRs w v n R) :
    Calls Try.prog 24 #[v] w fun e w' => e = .returned (.bool (okRs n R)) ∧ Below w.heap.size w w' := by
  obtain ⟨A, cap, rfl, hr, hc, hm⟩ := h
  have HR := Lib.hid hr; clear hr
  go_enter Try.func24, Try.ntmps24
  go_wp2
  go_loopw [7] (fun i wr => ∃ k : Nat, k ≤ n ∧ i = .int .i64 k ∧ allB k (goodB R) = true ∧ Below w.heap.size w wr) (fun i _ => n - (intOf i).toNat)
  case atStart => exact ⟨0, Nat.zero_le _, rfl, rfl, Below.refl _ _⟩
  case round =>
    obtain ⟨k, hk, rfl, ha, hB⟩ := hrel; have hzB := hB.size
    have HA := Lib.hid ha; clear ha
    by_cases hlt : k < n
    · obtain ⟨b, off, rfl, hb, hcell⟩ := RRs.at_ hB HR.out (by omega)
      rcases k with _ | m
      · obtain ⟨sv, hsv, hck0, hck1, hck2⟩ := hcell 0 hlt; have hsv0 := hsv; obtain ⟨A1, c1, rfl, hsr1, hsc1, hsm1⟩ := hsv0; clear hsr1
        have hrr : RR wr (.agg #[.int .i64 (R 0).rid, .int .i64 (R 0).due, .slice A1 (R 0).n c1]) (R 0) := ⟨_, rfl, hsv⟩
        simp only [Nat.zero_mul, Nat.add_zero] at hck0 hck1 hck2
        have hn0 : (0 : Int) < (n : Int) := by omega
        have hx0 := cell_regrown (cell_new wr #[.int .i64 (R 0).rid, .int .i64 (R 0).due, .slice A1 (R 0).n c1] 27 0 _ rfl); have hx1 := cell_regrown (cell_new wr #[.int .i64 (R 0).rid, .int .i64 (R 0).due, .slice A1 (R 0).n c1] 27 1 _ rfl); have hx2 := cell_regrown (cell_new wr #[.int .i64 (R 0).rid, .int .i64 (R 0).due, .slice A1 (R 0).n c1] 27 2 _ rfl); have hg0 := cell_regrown (cell_old (.cells #[.int .i64 (R 0).rid, .int .i64 (R 0).due, .slice A1 (R 0).n c1] 27) hb hck0); have HE : ∀ d os, Calls Try.prog 19 #[.agg #[.int .i64 (R 0).rid, .int .i64 (R 0).due, .slice A1 (R 0).n c1]] (grow (redrawn (wr.alloc (.cells #[.int .i64 (R 0).rid, .int .i64 (R 0).due, .slice A1 (R 0).n c1] 27)) d) os) fun e w'' => e = .returned (.bool (R 0).ok) ∧ ∃ p : Regrown, w'' = grow (redrawn (wr.alloc (.cells #[.int .i64 (R 0).rid, .int .i64 (R 0).due, .slice A1 (R 0).n c1] 27)) p.d) p.os := fun d os => Calls.regrown_of (C_IsReviewI _ _ _ ((hrr.below ((Below.refl _ _).alloc (Nat.le_refl _) _)).below (below_regrown _ _ _)))
        have HG := Lib.hid (goodB_zero R)
        clear hcell
        cases hok : (R 0).ok
        all_goals
          simp only [hok] at HE
          go_wp2
          (refine wp_region_quiet_below (by kernel_rfl) (by kernel_rfl) ?_; (repeat (go_big_quiet_step (exact HE _ _))); refine wpQuiet_nil ?_; intro _ hw'; obtain ⟨⟨dq, osq⟩, hw''⟩ := hw'; subst hw'')
          go_wp2
        · go_ret; exact ⟨ret_bool (by unfold okRs; rw [allB_of_not hlt (by rw [HG.out]; exact hok)]; rfl), by (repeat (first | with_reducible exact Below.refl _ _ | with_reducible exact below_regrown _ _ _ | with_reducible refine bel_step0 (by assumption) ?_ | with_reducible refine bel_alloc0 ?_ _ | with_reducible refine bel_regrown0 ?_ _ _ | with_reducible refine bel_regrown ?_ (by first | omega | (simp; done) | (simp; omega)) _ _ | with_reducible refine below_drewN ?_ _ | with_reducible refine Below.drew ?_ | with_reducible refine Below.alloc ?_ (by first | omega | (simp; done) | (simp; omega)) _ | with_reducible refine Below.setCell ?_ (by first | omega | (simp; done) | (simp; omega)) _ | with_reducible refine bel_step (by assumption) (by first | omega | (simp; done) | (simp; omega)) ?_ | with_reducible refine bel_grown (by assumption) (by first | omega | (simp; done) | (simp; omega)) (by first | omega | (simp; done) | (simp; omega)) ?_))⟩
        · go_roundw
          case rel => exact ⟨0 + 1, by omega, by go_num, allB_next HA.out (by rw [HG.out]; exact hok), by (repeat (first | with_reducible exact Below.refl _ _ | with_reducible exact below_regrown _ _ _ | with_reducible refine bel_step0 (by assumption) ?_ | with_reducible refine bel_alloc0 ?_ _ | with_reducible refine bel_regrown0 ?_ _ _ | with_reducible refine bel_regrown ?_ (by first | omega | (simp; done) | (simp; omega)) _ _ | with_reducible refine below_drewN ?_ _ | with_reducible refine Below.drew ?_ | with_reducible refine Below.alloc ?_ (by first | omega | (simp; done) | (simp; omega)) _ | with_reducible refine Below.setCell ?_ (by first | omega | (simp; done) | (simp; omega)) _ | with_reducible refine bel_step (by assumption) (by first | omega | (simp; done) | (simp; omega)) ?_ | with_reducible refine bel_grown (by assumption) (by first | omega | (simp; done) | (simp; omega)) (by first | omega | (simp; done) | (simp; omega)) ?_))⟩
          case measure => simp [intOf]; omega
      · obtain ⟨sv, hsv, hck0, hck1, hck2⟩ := hcell (m + 1) hlt; have hsv0 := hsv; obtain ⟨A1, c1, rfl, hsr1, hsc1, hsm1⟩ := hsv0; clear hsr1
        have hrr : RR wr (.agg #[.int .i64 (R (m + 1)).rid, .int .i64 (R (m + 1)).due, .slice A1 (R (m + 1)).n c1]) (R (m + 1)) := ⟨_, rfl, hsv⟩
        obtain ⟨_, _, hcp0, _, _⟩ := hcell m (by omega)
        have hn0 : (0 : Int) ≤ (m : Int) := by omega
        have hn1 : (m : Int) + 1 < (n : Int) := by omega
        have hn2 : (m : Int) < (n : Int) := by omega
        have hx0 := cell_regrown (cell_new wr #[.int .i64 (R (m + 1)).rid, .int .i64 (R (m + 1)).due, .slice A1 (R (m + 1)).n c1] 27 0 _ rfl); have hx1 := cell_regrown (cell_new wr #[.int .i64 (R (m + 1)).rid, .int .i64 (R (m + 1)).due, .slice A1 (R (m + 1)).n c1] 27 1 _ rfl); have hx2 := cell_regrown (cell_new wr #[.int .i64 (R (m + 1)).rid, .int .i64 (R (m + 1)).due, .slice A1 (R (m + 1)).n c1] 27 2 _ rfl); have hg0 := cell_regrown (cell_old (.cells #[.int .i64 (R (m + 1)).rid, .int .i64 (R (m + 1)).due, .slice A1 (R (m + 1)).n c1] 27) hb hck0); have HE : ∀ d os, Calls Try.prog 19 #[.agg #[.int .i64 (R (m + 1)).rid, .int .i64 (R (m + 1)).due, .slice A1 (R (m + 1)).n c1]] (grow (redrawn (wr.alloc (.cells #[.int .i64 (R (m + 1)).rid, .int .i64 (R (m + 1)).due, .slice A1 (R (m + 1)).n c1] 27)) d) os) fun e w'' => e = .returned (.bool (R (m + 1)).ok) ∧ ∃ p : Regrown, w'' = grow (redrawn (wr.alloc (.cells #[.int .i64 (R (m + 1)).rid, .int .i64 (R (m + 1)).due, .slice A1 (R (m + 1)).n c1] 27)) p.d) p.os := fun d os => Calls.regrown_of (C_IsReviewI _ _ _ ((hrr.below ((Below.refl _ _).alloc (Nat.le_refl _) _)).below (below_regrown _ _ _)))
        have hp0 := cell_regrown (cell_old (.cells #[.int .i64 (R (m + 1)).rid, .int .i64 (R (m + 1)).due, .slice A1 (R (m + 1)).n c1] 27) hb hcp0)
        have HG := Lib.hid (goodB_succ R m)
        clear hcell
        cases hok : (R (m + 1)).ok
        all_goals
          simp only [hok] at HE
          go_wp2
          (refine wp_region_quiet_below (by kernel_rfl) (by kernel_rfl) ?_; (repeat (go_big_quiet_step (exact HE _ _))); refine wpQuiet_nil ?_; intro _ hw'; obtain ⟨⟨dq, osq⟩, hw''⟩ := hw'; subst hw'')
          go_wp2
        all_goals first
          | (go_ret; exact ⟨ret_bool (by unfold okRs; rw [allB_of_not hlt (by rw [HG.out, hok]; exact (by (first | (simp [*]; done) | (go_light; simp_all; done) | (go_light; simp_all; omega))))]; rfl), by (repeat (first | with_reducible exact Below.refl _ _ | with_reducible exact below_regrown _ _ _ | with_reducible refine bel_step0 (by assumption) ?_ | with_reducible refine bel_alloc0 ?_ _ | with_reducible refine bel_regrown0 ?_ _ _ | with_reducible refine bel_regrown ?_ (by first | omega | (simp; done) | (simp; omega)) _ _ | with_reducible refine below_drewN ?_ _ | with_reducible refine Below.drew ?_ | with_reducible refine Below.alloc ?_ (by first | omega | (simp; done) | (simp; omega)) _ | with_reducible refine Below.setCell ?_ (by first | omega | (simp; done) | (simp; omega)) _ | with_reducible refine bel_step (by assumption) (by first | omega | (simp; done) | (simp; omega)) ?_ | with_reducible refine bel_grown (by assumption) (by first | omega | (simp; done) | (simp; omega)) (by first | omega | (simp; done) | (simp; omega)) ?_))⟩)
          | (go_roundw; (case rel => exact ⟨m + 1 + 1, by omega, by go_num, allB_next HA.out (by rw [HG.out, hok]; exact (by (first | (simp [*]; done) | (go_light; simp_all; done) | (go_light; simp_all; omega)))), by (repeat (first | with_reducible exact Below.refl _ _ | with_reducible exact below_regrown _ _ _ | with_reducible refine bel_step0 (by assumption) ?_ | with_reducible refine bel_alloc0 ?_ _ | with_reducible refine bel_regrown0 ?_ _ _ | with_reducible refine bel_regrown ?_ (by first | omega | (simp; done) | (simp; omega)) _ _ | with_reducible refine below_drewN ?_ _ | with_reducible refine Below.drew ?_ | with_reducible refine Below.alloc ?_ (by first | omega | (simp; done) | (simp; omega)) _ | with_reducible refine Below.setCell ?_ (by first | omega | (simp; done) | (simp; omega)) _ | with_reducible refine bel_step (by assumption) (by first | omega | (simp; done) | (simp; omega)) ?_ | with_reducible refine bel_grown (by assumption) (by first | omega | (simp; done) | (simp; omega)) (by first | omega | (simp; done) | (simp; omega)) ?_))⟩); (case measure => simp [intOf]; omega))
    · go_wp2
      (go_ret; obtain rfl : k = n := (by omega); exact ⟨ret_bool (by unfold okRs; rw [HA.out]; simp), by (repeat (first | with_reducible exact Below.refl _ _ | with_reducible exact below_regrown _ _ _ | with_reducible refine bel_step0 (by assumption) ?_ | with_reducible refine bel_alloc0 ?_ _ | with_reducible refine bel_regrown0 ?_ _ _ | with_reducible refine bel_regrown ?_ (by first | omega | (simp; done) | (simp; omega)) _ _ | with_reducible refine below_drewN ?_ _ | with_reducible refine Below.drew ?_ | with_reducible refine Below.alloc ?_ (by first | omega | (simp; done) | (simp; omega)) _ | with_reducible refine Below.setCell ?_ (by first | omega | (simp; done) | (simp; omega)) _ | with_reducible refine bel_step (by assumption) (by first | omega | (simp; done) | (simp; omega)) ?_ | with_reducible refine bel_grown (by assumption) (by first | omega | (simp; done) | (simp; omega)) (by first | omega | (simp; done) | (simp; omega)) ?_))⟩)

end Go.Proofs.Ytcdffikambbleaa
