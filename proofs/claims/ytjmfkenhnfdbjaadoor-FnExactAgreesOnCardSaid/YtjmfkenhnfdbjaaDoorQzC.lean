/- Lists of records: both sides' tests. No condition but those stated. -/
import Derived.Test.YtjmfkenhnfdbjaaDoorQyX
import Derived.Test.YtjmfkenhnfdbjaaDoorQyZ
namespace Go.Proofs.YtjmfkenhnfdbjaaDoor
set_option linter.unusedVariables false
set_option linter.unusedSimpArgs false
open Go.RowKit Go.Sort
def goodR (R : Nat → Rc) (j : Nat) : Bool := recOk (R j) && (decide (j = 0) || decide ((R (j - 1)).id < (R j).id))
def recsOk (n : Nat) (R : Nat → Rc) : Bool := allB n (goodR R) && decide ((n : Int) ≤ 10)
theorem goodR_zero {R : Nat → Rc} {v1 : Bool} (h1 : recOk (R 0) = v1) : goodR R 0 = v1 := by
  unfold goodR; rw [h1, decide_eq_true rfl, Bool.true_or, Bool.and_true]
theorem goodR_succ {R : Nat → Rc} {i : Nat} {v1 v3 : Bool} (h1 : recOk (R (i + 1)) = v1) (h3 : decide ((R (i + 1)).id ≤ (R i).id) = v3) : goodR R (i + 1) = (v1 && !v3) := by
  unfold goodR
  rw [h1, Nat.add_sub_cancel, decide_eq_false (show ¬ (i + 1 = 0) by omega), Bool.false_or]
  congr 1
  cases v3
  · rw [decide_eq_true (by have := of_decide_eq_false h3; omega)]; rfl
  · rw [decide_eq_false (by have := of_decide_eq_true h3; omega)]; rfl
theorem recsOk_at {n : Nat} {R : Nat → Rc} (h : recsOk n R = true) : n ≤ 10 ∧ ∀ j, j < n → recOk (R j) = true := by
  unfold recsOk at h
  rw [Bool.and_eq_true, decide_eq_true_eq] at h
  refine ⟨by omega, fun j hj => ?_⟩
  have := allB_iff.1 h.1 j hj
  unfold goodR at this
  rw [Bool.and_eq_true] at this
  exact this.1
set_option maxHeartbeats 8000000 in
theorem C_AreRecords (v : Value) (n : Nat) (R : Nat → Rc) (w : World) (h : RcS w v n R) :
    Calls Tryd.prog 44 #[v] w fun e w' => e = .returned (.bool (recsOk n R)) ∧ Below w.heap.size w w' := by
  obtain ⟨A, cap, rfl, hr, hc, hm⟩ := h
  have HR := Lib.hid hr; clear hr
  go_enter Tryd.func44, Tryd.ntmps44
  go_wp2
  go_loopw [7] (fun i wr => ∃ j : Nat, j ≤ n ∧ i = .int .i64 j ∧ allB j (goodR R) = true ∧ Below w.heap.size w wr) (fun i _ => n - (intOf i).toNat)
  case atStart => exact ⟨0, Nat.zero_le _, rfl, rfl, Below.refl _ _⟩
  case round =>
    obtain ⟨j, hj, rfl, ha, hb⟩ := hrel
    have HA := Lib.hid ha
    have HB := Lib.hid hb
    clear ha hb
    by_cases hlt : j < n
    · obtain ⟨b, off, rfl, hbl, hcc⟩ := (HR.out.below HB.out) (by omega)
      obtain ⟨sv, hs, e0, e1, e2, e3⟩ := hcc j hlt
      obtain ⟨A1, c1, hsv, _⟩ := id hs
      subst hsv
      have HPREV := Lib.hid (fun (i : Nat) (hi : i < n) => (hcc i hi).elim fun _ h => h.2.1)
      obtain ⟨W, hW⟩ : ∃ W, W = wr.alloc (.cells #[.int .i64 (R j).id, .int .i64 (R j).ser, .int .i64 (R j).made, .slice A1 (R j).n c1] 33) := ⟨_, rfl⟩
      have BW : Below wr.heap.size wr W := by rw [hW]; exact (Below.refl _ _).alloc (Nat.le_refl _) _
      have HBW := Lib.hid (bel_step0 BW HB.out)
      have HWP := Lib.hid (fun (i : Nat) (hi : i < n) => (BW.cell (p := ⟨b, off + i * 4, none⟩) hbl).trans (HPREV.out i hi))
      have t0 : W.cell? ⟨wr.heap.size, 0, none⟩ = some (.int .i64 (R j).id) := by rw [hW]; exact cell_new _ _ _ _ _ rfl
      have t1 : W.cell? ⟨wr.heap.size, 1, none⟩ = some (.int .i64 (R j).ser) := by rw [hW]; exact cell_new _ _ _ _ _ rfl
      have t2 : W.cell? ⟨wr.heap.size, 2, none⟩ = some (.int .i64 (R j).made) := by rw [hW]; exact cell_new _ _ _ _ _ rfl
      have t3 : W.cell? ⟨wr.heap.size, 3, none⟩ = some (.slice A1 (R j).n c1) := by rw [hW]; exact cell_new _ _ _ _ _ rfl
      have HWE := Lib.hid hW.symm
      have l0 := cell_regrown t0; have l1 := cell_regrown t1; have l2 := cell_regrown t2; have l3 := cell_regrown t3
      obtain ⟨v1, hv1⟩ : ∃ v, recOk (R j) = v := ⟨_, rfl⟩
      have hE : ∀ d os, Calls Tryd.prog 37 #[.agg #[.int .i64 (R j).id, .int .i64 (R j).ser, .int .i64 (R j).made, .slice A1 (R j).n c1]] (grow (redrawn W d) os) fun e w'' => e = .returned (.bool v1) ∧ ∃ p : Regrown, w'' = grow (redrawn W p.d) p.os :=
        fun d os => Calls.regrown_of (by have := C_IsRecord (R j) (.slice A1 (R j).n c1) (grow (redrawn W d) os) ((hs.below BW).below (below_regrown _ _ _)); rwa [hv1] at this)
      have hj0 : (0 : Int) ≤ (j : Int) := by omega
      clear hW BW hcc t0 t1 t2 t3 HPREV hs
      by_cases hjz : j = 0
      · subst hjz
        simp only [Nat.zero_mul, Nat.add_zero] at e0 e1 e2 e3
        have HG := Lib.hid (goodR_zero hv1)
        clear hv1
        cases v1
        · go_upto_region 4 with fail
          rw [HWE.out]
          (refine wp_region_quiet_below (by kernel_rfl) (by kernel_rfl) ?_; (repeat (go_big_quiet_step (exact hE _ _))); refine wpQuiet_nil ?_; intro _ hw'; obtain ⟨⟨dq, osq⟩, hw''⟩ := hw'; subst hw'')
          go_wp2
          (go_ret; exact ⟨ret_bool (by unfold recsOk; rw [allB_of_not hlt HG.out]; rfl), bel_step0 (below_regrown _ _ _) HBW.out⟩)
        · go_upto_region 4 with fail
          rw [HWE.out]
          (refine wp_region_quiet_below (by kernel_rfl) (by kernel_rfl) ?_; (repeat (go_big_quiet_step (exact hE _ _))); refine wpQuiet_nil ?_; intro _ hw'; obtain ⟨⟨dq, osq⟩, hw''⟩ := hw'; subst hw'')
          go_wp2
          (go_roundw; (case rel => exact ⟨_, hlt, by go_num, allB_next HA.out HG.out, bel_step0 (below_regrown _ _ _) HBW.out⟩); (case measure => simp [intOf]; omega))
      · obtain ⟨i, rfl⟩ : ∃ i, j = i + 1 := ⟨j - 1, by omega⟩
        obtain ⟨v3, hv3⟩ : ∃ v, decide ((R (i + 1)).id ≤ (R i).id) = v := ⟨_, rfl⟩
        have HG := Lib.hid (goodR_succ hv1 hv3)
        have p0 := cell_regrown (HWP.out i (by omega))
        have hi1 : ((i + 1 : Nat) : Int) = (i : Int) + 1 := by omega
        have hi0 : (0 : Int) ≤ (i : Int) := by omega
        have hi2 : (i : Int) < (n : Int) := by omega
        have hi3 : (0 : Int) < (i : Int) + 1 := by omega
        clear hv1
        cases v1
        · go_upto_region 4 with fail
          rw [HWE.out]
          (refine wp_region_quiet_below (by kernel_rfl) (by kernel_rfl) ?_; (repeat (go_big_quiet_step (exact hE _ _))); refine wpQuiet_nil ?_; intro _ hw'; obtain ⟨⟨dq, osq⟩, hw''⟩ := hw'; subst hw'')
          go_wp2
          (go_ret; exact ⟨ret_bool (by unfold recsOk; rw [allB_of_not hlt HG.out]; rfl), bel_step0 (below_regrown _ _ _) HBW.out⟩)
        · cases v3
          · go_upto_region 4 with fail
            rw [HWE.out]
            (refine wp_region_quiet_below (by kernel_rfl) (by kernel_rfl) ?_; (repeat (go_big_quiet_step (exact hE _ _))); refine wpQuiet_nil ?_; intro _ hw'; obtain ⟨⟨dq, osq⟩, hw''⟩ := hw'; subst hw'')
            go_wp2
            (go_roundw; (case rel => exact ⟨_, hlt, by go_num, allB_next HA.out HG.out, bel_step0 (below_regrown _ _ _) HBW.out⟩); (case measure => simp [intOf]; omega))
          · go_upto_region 4 with fail
            rw [HWE.out]
            (refine wp_region_quiet_below (by kernel_rfl) (by kernel_rfl) ?_; (repeat (go_big_quiet_step (exact hE _ _))); refine wpQuiet_nil ?_; intro _ hw'; obtain ⟨⟨dq, osq⟩, hw''⟩ := hw'; subst hw'')
            go_wp2
            (go_ret; exact ⟨ret_bool (by unfold recsOk; rw [allB_of_not hlt HG.out]; rfl), bel_step0 (below_regrown _ _ _) HBW.out⟩)
    · obtain rfl : j = n := by omega
      go_wp2
      go_ret
      exact ⟨ret_bool (by unfold recsOk; rw [HA.out, Bool.true_and]), HB.out⟩
set_option maxHeartbeats 8000000 in
theorem C_l2Records (v : Value) (n : Nat) (R : Nat → Rc) (w : World) (h : RcS w v n R) :
    Calls Tryd.prog 40 #[v] w fun e w' => e = .returned (.bool (recsOk n R)) ∧ Below w.heap.size w w' := by
  obtain ⟨A, cap, rfl, hr, hc, hm⟩ := h
  have HR := Lib.hid hr; clear hr
  go_enter Tryd.func40, Tryd.ntmps40
  go_wp2
  go_loopw [3] (fun i wr => ∃ j : Nat, j ≤ n ∧ i = .int .i64 j ∧ allB j (goodR R) = true ∧ Below w.heap.size w wr) (fun i _ => n - (intOf i).toNat)
  case atStart => exact ⟨0, Nat.zero_le _, rfl, rfl, Below.refl _ _⟩
  case round =>
    obtain ⟨j, hj, rfl, ha, hb⟩ := hrel
    have HA := Lib.hid ha
    have HBW := Lib.hid hb
    clear ha hb
    by_cases hlt : j < n
    · obtain ⟨b, off, rfl, hbl, hcc⟩ := (HR.out.below HBW.out) (by omega)
      obtain ⟨sv, hs, e0, e1, e2, e3⟩ := hcc j hlt
      have HPREV := Lib.hid (fun (i : Nat) (hi : i < n) => (hcc i hi).elim fun _ h => h.2.1)
      obtain ⟨v1, hv1⟩ : ∃ v, recOk (R j) = v := ⟨_, rfl⟩
      have hE : ∀ d os, Calls Tryd.prog 33 #[.agg #[.int .i64 (R j).id, .int .i64 (R j).ser, .int .i64 (R j).made, sv]] (grow (redrawn wr d) os) fun e w'' => e = .returned (.bool v1) ∧ ∃ p : Regrown, w'' = grow (redrawn wr p.d) p.os :=
        fun d os => Calls.regrown_of (by have := C_l2Record (R j) sv (grow (redrawn wr d) os) (hs.below (below_regrown _ _ _)); rwa [hv1] at this)
      have hj0 : (0 : Int) ≤ (j : Int) := by omega
      have hjn : (j : Int) < (n : Int) := by omega
      clear hcc hs
      by_cases hjz : j = 0
      · subst hjz
        simp only [Nat.zero_mul, Nat.add_zero] at e0 e1 e2 e3
        have l0 := cell_regrown e0; have l1 := cell_regrown e1; have l2 := cell_regrown e2; have l3 := cell_regrown e3
        have HG := Lib.hid (goodR_zero hv1)
        clear hv1 e0 e1 e2 e3
        cases v1
        · go_upto_region 4 with fail
          (refine wp_region_quiet_below (by kernel_rfl) (by kernel_rfl) ?_; (repeat (go_big_quiet_step (exact hE _ _))); refine wpQuiet_nil ?_; intro _ hw'; obtain ⟨⟨dq, osq⟩, hw''⟩ := hw'; subst hw'')
          go_wp2
          (go_ret; exact ⟨ret_bool (by unfold recsOk; rw [allB_of_not hlt HG.out]; rfl), bel_step0 (below_regrown _ _ _) HBW.out⟩)
        · go_upto_region 4 with fail
          (refine wp_region_quiet_below (by kernel_rfl) (by kernel_rfl) ?_; (repeat (go_big_quiet_step (exact hE _ _))); refine wpQuiet_nil ?_; intro _ hw'; obtain ⟨⟨dq, osq⟩, hw''⟩ := hw'; subst hw'')
          go_wp2
          (go_roundw; (case rel => exact ⟨_, hlt, by go_num, allB_next HA.out HG.out, bel_step0 (below_regrown _ _ _) HBW.out⟩); (case measure => simp [intOf]; omega))
      · obtain ⟨i, rfl⟩ : ∃ i, j = i + 1 := ⟨j - 1, by omega⟩
        obtain ⟨v3, hv3⟩ : ∃ v, decide ((R (i + 1)).id ≤ (R i).id) = v := ⟨_, rfl⟩
        have HG := Lib.hid (goodR_succ hv1 hv3)
        have p0 := cell_regrown (HPREV.out i (by omega))
        have l0 := cell_regrown e0; have l1 := cell_regrown e1; have l2 := cell_regrown e2; have l3 := cell_regrown e3
        have hi1 : ((i + 1 : Nat) : Int) = (i : Int) + 1 := by omega
        have hi0 : (0 : Int) ≤ (i : Int) := by omega
        have hi2 : (i : Int) < (n : Int) := by omega
        have hi3 : (0 : Int) < (i : Int) + 1 := by omega
        have hi4 : (i : Int) + 1 < (n : Int) := by omega
        have hi5 : (0 : Int) ≤ (i : Int) + 1 := by omega
        clear hv1 e0 e1 e2 e3
        cases v1
        · go_upto_region 4 with fail
          (refine wp_region_quiet_below (by kernel_rfl) (by kernel_rfl) ?_; (repeat (go_big_quiet_step (exact hE _ _))); refine wpQuiet_nil ?_; intro _ hw'; obtain ⟨⟨dq, osq⟩, hw''⟩ := hw'; subst hw'')
          go_wp2
          (go_ret; exact ⟨ret_bool (by unfold recsOk; rw [allB_of_not hlt HG.out]; rfl), bel_step0 (below_regrown _ _ _) HBW.out⟩)
        · cases v3
          · go_upto_region 4 with fail
            (refine wp_region_quiet_below (by kernel_rfl) (by kernel_rfl) ?_; (repeat (go_big_quiet_step (exact hE _ _))); refine wpQuiet_nil ?_; intro _ hw'; obtain ⟨⟨dq, osq⟩, hw''⟩ := hw'; subst hw'')
            go_wp2
            (go_roundw; (case rel => exact ⟨_, hlt, by go_num, allB_next HA.out HG.out, bel_step0 (below_regrown _ _ _) HBW.out⟩); (case measure => simp [intOf]; omega))
          · go_upto_region 4 with fail
            (refine wp_region_quiet_below (by kernel_rfl) (by kernel_rfl) ?_; (repeat (go_big_quiet_step (exact hE _ _))); refine wpQuiet_nil ?_; intro _ hw'; obtain ⟨⟨dq, osq⟩, hw''⟩ := hw'; subst hw'')
            go_wp2
            (go_ret; exact ⟨ret_bool (by unfold recsOk; rw [allB_of_not hlt HG.out]; rfl), bel_step0 (below_regrown _ _ _) HBW.out⟩)
    · obtain rfl : j = n := by omega
      go_wp2
      go_ret
      exact ⟨ret_bool (by unfold recsOk; rw [HA.out, Bool.true_and]), HBW.out⟩
end Go.Proofs.YtjmfkenhnfdbjaaDoor
