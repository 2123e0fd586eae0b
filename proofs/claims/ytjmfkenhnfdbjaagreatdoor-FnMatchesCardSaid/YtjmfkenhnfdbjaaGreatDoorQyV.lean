/- Whether a record is valid: both sides. No condition but those stated. -/
import Derived.Test.YtjmfkenhnfdbjaaGreatDoorQyU
namespace Go.Proofs.YtjmfkenhnfdbjaaGreatDoor
set_option linter.unusedVariables false
set_option linter.unusedSimpArgs false
open Go.RowKit Go.Sort
def evOk (k d : Int) : Bool := within k 1 9 && within d 0 20000
def goodE (R : Rc) (j : Nat) : Bool := evOk (R.k j) (R.d j) && (decide (R.made ≤ R.d j) && (decide (j = 0) || decide (R.k (j - 1) < R.k j)))
def headOk (R : Rc) : Bool := within R.id 1 999 && (within R.ser 1 99 && (within R.made 0 20000 && decide (R.n ≤ 6)))
def recOk (R : Rc) : Bool := headOk R && allB R.n (goodE R)
theorem C_IsEvent (k d : Int) (w : World) : Calls Tryz.prog 46 #[.agg #[.int .i64 k, .int .i64 d]] w fun e w' => e = .returned (.bool (evOk k d)) ∧ Below w.heap.size w w' := by
  have HO := Lib.hid (show evOk k d = (within k 1 9 && within d 0 20000) from rfl)
  cases h1 : within k 1 9
  · rw [h1] at HO
    go_enter Tryz.func46, Tryz.ntmps46
    go_wp2_with fail
    refine (C_within _ _ _ _).mono ?_; rintro e w' ⟨rfl, rfl⟩
    rw [h1]
    go_wp2
    go_ret
    rw [HO.out]
    exact ⟨rfl, by (repeat (first | with_reducible exact Below.refl _ _ | with_reducible exact below_regrown _ _ _ | with_reducible refine bel_step0 (by assumption) ?_ | with_reducible refine bel_alloc0 ?_ _ | with_reducible refine bel_regrown0 ?_ _ _ | with_reducible refine bel_regrown ?_ (by first | omega | (simp; done) | (simp; omega)) _ _ | with_reducible refine below_drewN ?_ _ | with_reducible refine Below.drew ?_ | with_reducible refine Below.alloc ?_ (by first | omega | (simp; done) | (simp; omega)) _ | with_reducible refine Below.setCell ?_ (by first | omega | (simp; done) | (simp; omega)) _ | with_reducible refine bel_step (by assumption) (by first | omega | (simp; done) | (simp; omega)) ?_ | with_reducible refine bel_grown (by assumption) (by first | omega | (simp; done) | (simp; omega)) (by first | omega | (simp; done) | (simp; omega)) ?_))⟩
  · rw [h1] at HO
    go_enter Tryz.func46, Tryz.ntmps46
    go_wp2_with fail
    refine (C_within _ _ _ _).mono ?_; rintro e w' ⟨rfl, rfl⟩
    rw [h1]
    go_wp2_with fail
    refine (C_isDay _ _).mono ?_; rintro e w' ⟨rfl, rfl⟩
    go_wp2
    go_ret
    rw [HO.out]
    exact ⟨rfl, by (repeat (first | with_reducible exact Below.refl _ _ | with_reducible exact below_regrown _ _ _ | with_reducible refine bel_step0 (by assumption) ?_ | with_reducible refine bel_alloc0 ?_ _ | with_reducible refine bel_regrown0 ?_ _ _ | with_reducible refine bel_regrown ?_ (by first | omega | (simp; done) | (simp; omega)) _ _ | with_reducible refine below_drewN ?_ _ | with_reducible refine Below.drew ?_ | with_reducible refine Below.alloc ?_ (by first | omega | (simp; done) | (simp; omega)) _ | with_reducible refine Below.setCell ?_ (by first | omega | (simp; done) | (simp; omega)) _ | with_reducible refine bel_step (by assumption) (by first | omega | (simp; done) | (simp; omega)) ?_ | with_reducible refine bel_grown (by assumption) (by first | omega | (simp; done) | (simp; omega)) (by first | omega | (simp; done) | (simp; omega)) ?_))⟩
theorem C_l2Event (k d : Int) (w : World) : Calls Tryz.prog 74 #[.agg #[.int .i64 k, .int .i64 d]] w fun e w' => e = .returned (.bool (evOk k d)) ∧ Below w.heap.size w w' := by
  have HO := Lib.hid (show evOk k d = (within k 1 9 && within d 0 20000) from rfl)
  cases h1 : within k 1 9
  · rw [h1] at HO
    go_enter Tryz.func74, Tryz.ntmps74
    go_wp2_with fail
    refine (C_l1In _ _ _ _).mono ?_; rintro e w' ⟨rfl, rfl⟩
    rw [h1]
    go_wp2
    go_ret
    rw [HO.out]
    exact ⟨rfl, by (repeat (first | with_reducible exact Below.refl _ _ | with_reducible exact below_regrown _ _ _ | with_reducible refine bel_step0 (by assumption) ?_ | with_reducible refine bel_alloc0 ?_ _ | with_reducible refine bel_regrown0 ?_ _ _ | with_reducible refine bel_regrown ?_ (by first | omega | (simp; done) | (simp; omega)) _ _ | with_reducible refine below_drewN ?_ _ | with_reducible refine Below.drew ?_ | with_reducible refine Below.alloc ?_ (by first | omega | (simp; done) | (simp; omega)) _ | with_reducible refine Below.setCell ?_ (by first | omega | (simp; done) | (simp; omega)) _ | with_reducible refine bel_step (by assumption) (by first | omega | (simp; done) | (simp; omega)) ?_ | with_reducible refine bel_grown (by assumption) (by first | omega | (simp; done) | (simp; omega)) (by first | omega | (simp; done) | (simp; omega)) ?_))⟩
  · rw [h1] at HO
    go_enter Tryz.func74, Tryz.ntmps74
    go_wp2_with fail
    refine (C_l1In _ _ _ _).mono ?_; rintro e w' ⟨rfl, rfl⟩
    rw [h1]
    go_wp2_with fail
    refine (C_l2Day _ _).mono ?_; rintro e w' ⟨rfl, rfl⟩
    go_wp2
    go_ret
    rw [HO.out]
    exact ⟨rfl, by (repeat (first | with_reducible exact Below.refl _ _ | with_reducible exact below_regrown _ _ _ | with_reducible refine bel_step0 (by assumption) ?_ | with_reducible refine bel_alloc0 ?_ _ | with_reducible refine bel_regrown0 ?_ _ _ | with_reducible refine bel_regrown ?_ (by first | omega | (simp; done) | (simp; omega)) _ _ | with_reducible refine below_drewN ?_ _ | with_reducible refine Below.drew ?_ | with_reducible refine Below.alloc ?_ (by first | omega | (simp; done) | (simp; omega)) _ | with_reducible refine Below.setCell ?_ (by first | omega | (simp; done) | (simp; omega)) _ | with_reducible refine bel_step (by assumption) (by first | omega | (simp; done) | (simp; omega)) ?_ | with_reducible refine bel_grown (by assumption) (by first | omega | (simp; done) | (simp; omega)) (by first | omega | (simp; done) | (simp; omega)) ?_))⟩
theorem goodE_zero {R : Rc} {b1 b2 : Bool} (h1 : evOk (R.k 0) (R.d 0) = b1) (h2 : decide (R.d 0 < R.made) = b2) : goodE R 0 = (b1 && !b2) := by
  unfold goodE
  rw [h1]
  cases b2
  · rw [decide_eq_true (by have := of_decide_eq_false h2; omega), decide_eq_true rfl]; simp
  · rw [decide_eq_false (by have := of_decide_eq_true h2; omega)]; simp
theorem goodE_succ {R : Rc} {i : Nat} {b1 b2 b3 : Bool} (h1 : evOk (R.k (i + 1)) (R.d (i + 1)) = b1) (h2 : decide (R.d (i + 1) < R.made) = b2) (h3 : decide (R.k (i + 1) ≤ R.k i) = b3) : goodE R (i + 1) = (b1 && (!b2 && !b3)) := by
  unfold goodE
  rw [h1, Nat.add_sub_cancel, decide_eq_false (show ¬ (i + 1 = 0) by omega), Bool.false_or]
  congr 1
  cases b2
  · rw [decide_eq_true (by have := of_decide_eq_false h2; omega), Bool.true_and, Bool.not_false, Bool.true_and]
    cases b3
    · rw [decide_eq_true (by have := of_decide_eq_false h3; omega)]; rfl
    · rw [decide_eq_false (by have := of_decide_eq_true h3; omega)]; rfl
  · rw [decide_eq_false (by have := of_decide_eq_true h2; omega)]; rfl
theorem head_cases (R : Rc) : headOk R = false ∨ (within R.id 1 999 = true ∧ within R.ser 1 99 = true ∧ within R.made 0 20000 = true ∧ R.n ≤ 6) := by
  unfold headOk
  cases within R.id 1 999 <;> cases within R.ser 1 99 <;> cases within R.made 0 20000 <;> simp <;> omega
set_option maxHeartbeats 8000000 in
theorem C_IsRecord (R : Rc) (sv : Value) (w : World) (h : EvS w sv R) :
    Calls Tryz.prog 15 #[.agg #[.int .i64 (R).id, .int .i64 (R).ser, .int .i64 (R).made, sv]] w fun e w' => e = .returned (.bool (recOk R)) ∧ Below w.heap.size w w' := by
  have HH := Lib.hid h
  obtain ⟨A, cap, rfl, hr, hcap, hmax⟩ := h
  have HR := Lib.hid hr
  clear hr
  obtain ⟨w0, hw0⟩ : ∃ w0, w0 = w.alloc (.cells #[.int .i64 R.id, .int .i64 R.ser, .int .i64 R.made, .slice A R.n cap] 26) := ⟨_, rfl⟩
  have HW0 := Lib.hid hw0.symm
  have bx : Box w0 w.heap.size R (.slice A R.n cap) := by rw [hw0]; exact ⟨by simp, by simp, by simp, by simp⟩
  have B0 : Below w.heap.size w w0 := by rw [hw0]; exact (Below.refl _ _).alloc (Nat.le_refl _) _
  have hz0 : w.heap.size < w0.heap.size := by rw [hw0]; simp
  have HBX0 := Lib.hid bx
  have HB0 := Lib.hid B0
  obtain ⟨b0, b1, b2, b3⟩ := bx
  clear hw0 B0
  cases h1 : within R.id 1 999
  · go_enter Tryz.func15, Tryz.ntmps15
    go_upto_region 1 with fail
    rw [HW0.out]
    go_wp2_with fail
    refine (C_within _ _ _ _).mono ?_; rintro e w' ⟨rfl, rfl⟩
    rw [h1]
    go_wp2
    go_ret
    exact ⟨ret_bool (by unfold recOk headOk; rw [h1]; rfl), HB0.out⟩
  cases h2 : within R.ser 1 99
  · go_enter Tryz.func15, Tryz.ntmps15
    go_upto_region 1 with fail
    rw [HW0.out]
    go_wp2_with fail
    refine (C_within _ _ _ _).mono ?_; rintro e w' ⟨rfl, rfl⟩
    rw [h1]
    go_wp2_with fail
    refine (C_isId _ _).mono ?_; rintro e w' ⟨rfl, rfl⟩
    rw [h2]
    go_wp2
    go_ret
    exact ⟨ret_bool (by unfold recOk headOk; rw [h1, h2]; rfl), HB0.out⟩
  cases h3 : within R.made 0 20000
  · go_enter Tryz.func15, Tryz.ntmps15
    go_upto_region 1 with fail
    rw [HW0.out]
    go_wp2_with fail
    refine (C_within _ _ _ _).mono ?_; rintro e w' ⟨rfl, rfl⟩
    rw [h1]
    go_wp2_with fail
    refine (C_isId _ _).mono ?_; rintro e w' ⟨rfl, rfl⟩
    rw [h2]
    go_wp2_with fail
    refine (C_isDay _ _).mono ?_; rintro e w' ⟨rfl, rfl⟩
    rw [h3]
    go_wp2
    go_ret
    exact ⟨ret_bool (by unfold recOk headOk; rw [h1, h2, h3]; rfl), HB0.out⟩
  by_cases h4 : R.n ≤ 6
  · have h5 : ¬ ((6 : Int) < (R.n : Int)) := by omega
    have HHD := Lib.hid (show headOk R = true by unfold headOk; rw [h1, h2, h3, decide_eq_true h4]; rfl)
    go_enter Tryz.func15, Tryz.ntmps15
    go_upto_region 1 with fail
    rw [HW0.out]
    go_wp2_with fail
    refine (C_within _ _ _ _).mono ?_; rintro e w' ⟨rfl, rfl⟩
    rw [h1]
    go_wp2_with fail
    refine (C_isId _ _).mono ?_; rintro e w' ⟨rfl, rfl⟩
    rw [h2]
    go_wp2_with fail
    refine (C_isDay _ _).mono ?_; rintro e w' ⟨rfl, rfl⟩
    rw [h3]
    go_wp2
    clear b0 b1 b2 b3 h1 h2 h3
    go_loopw [30] (fun i wr => ∃ j : Nat, j ≤ R.n ∧ i = .int .i64 j ∧ allB j (goodE R) = true ∧ Below w.heap.size w wr ∧ Box wr w.heap.size R (.slice A R.n cap) ∧ w.heap.size < wr.heap.size) (fun i wr => R.n - (intOf i).toNat)
    case atStart => exact ⟨0, Nat.zero_le _, rfl, rfl, HB0.out, HBX0.out, hz0⟩
    case round =>
      obtain ⟨j, hj, rfl, ha, hb, hbx, hz⟩ := hrel
      have HA := Lib.hid ha
      have HB := Lib.hid hb
      have HBX := Lib.hid hbx
      clear ha hb hbx
      by_cases hlt : j < R.n
      · obtain ⟨b, off, rfl, hbl, hcc⟩ := HR.out (by omega)
        obtain ⟨e0, e1⟩ := hcc j hlt
        have d0 := (World.cell?_of_block (w := w) (a := ⟨b, off + j * 2, none⟩) (HB.out.block b hbl)).trans e0
        have d1 := (World.cell?_of_block (w := w) (a := ⟨b, off + j * 2 + 1, none⟩) (HB.out.block b hbl)).trans e1
        have HPREV := Lib.hid (fun (i : Nat) (hi : i < R.n) => (World.cell?_of_block (w := w) (a := ⟨b, off + i * 2, none⟩) (HB.out.block b hbl)).trans (hcc i hi).1)
        obtain ⟨W, hW⟩ : ∃ W, W = wr.alloc (.cells #[.int .i64 (R.k j), .int .i64 (R.d j)] 70) := ⟨_, rfl⟩
        have BW : Below wr.heap.size wr W := by rw [hW]; exact (Below.refl _ _).alloc (Nat.le_refl _) _
        have HBW := Lib.hid (bel_step0 BW HB.out)
        have bx := HBX.out.below hz BW
        have HBXW := Lib.hid bx
        have HWZ := Lib.hid (show w.heap.size < W.heap.size from Nat.lt_of_lt_of_le hz BW.size)
        have HWP := Lib.hid (fun (i : Nat) (hi : i < R.n) => (World.cell?_of_block (w := wr) (a := ⟨b, off + i * 2, none⟩) (BW.block b (Nat.lt_of_lt_of_le hbl HB.out.size))).trans (HPREV.out i hi))
        have t0 : W.cell? ⟨wr.heap.size, 0, none⟩ = some (.int .i64 (R.k j)) := by rw [hW]; exact cell_new _ _ _ _ _ rfl
        have t1 : W.cell? ⟨wr.heap.size, 1, none⟩ = some (.int .i64 (R.d j)) := by rw [hW]; exact cell_new _ _ _ _ _ rfl
        have HWE := Lib.hid hW.symm
        obtain ⟨b0, b1, b2, b3⟩ := bx
        have g0 := cell_regrown t0
        have g1 := cell_regrown t1
        have l2 := cell_regrown b2
        have l3 := cell_regrown b3
        have T01 := Lib.hid (And.intro t0 t1)
        obtain ⟨v1, hv1⟩ : ∃ v, evOk (R.k j) (R.d j) = v := ⟨_, rfl⟩
        have hE : ∀ d os, Calls Tryz.prog 46 #[.agg #[.int .i64 (R.k j), .int .i64 (R.d j)]] (grow (redrawn W d) os) fun e w'' => e = .returned (.bool v1) ∧ ∃ p : Regrown, w'' = grow (redrawn W p.d) p.os :=
          fun d os => Calls.regrown_of (by have := C_IsEvent (R.k j) (R.d j) (grow (redrawn W d) os); rwa [hv1] at this)
        obtain ⟨v2, hv2⟩ : ∃ v, decide (R.d j < R.made) = v := ⟨_, rfl⟩
        have hj0 : (0 : Int) ≤ (j : Int) := by omega
        clear hW BW hcc e0 e1 t0 t1 b0 b1 b2 b3 HPREV
        by_cases hjz : j = 0
        · subst hjz
          simp only [Nat.zero_mul, Nat.add_zero] at d0 d1
          have HG := Lib.hid (goodE_zero hv1 hv2)
          clear hv1
          cases v1
          · go_upto_region 6 with fail
            rw [HWE.out]
            (refine wp_region_quiet_below (by kernel_rfl) (by kernel_rfl) ?_; (repeat (go_big_quiet_step (exact hE _ _))); refine wpQuiet_nil ?_; intro _ hw'; obtain ⟨⟨dq, osq⟩, hw''⟩ := hw'; subst hw'')
            go_wp2
            (go_ret; exact ⟨ret_bool (by unfold recOk; rw [allB_of_not hlt HG.out]; simp), bel_step0 (below_regrown _ _ _) HBW.out⟩)
          · cases v2
            · go_upto_region 6 with fail
              rw [HWE.out]
              (refine wp_region_quiet_below (by kernel_rfl) (by kernel_rfl) ?_; (repeat (go_big_quiet_step (exact hE _ _))); refine wpQuiet_nil ?_; intro _ hw'; obtain ⟨⟨dq, osq⟩, hw''⟩ := hw'; subst hw'')
              go_wp2
              (go_roundw; (case rel => exact ⟨_, hlt, by go_num, allB_next HA.out HG.out, bel_step0 (below_regrown _ _ _) HBW.out, HBXW.out.below HWZ.out (below_regrown _ _ _), Nat.lt_of_lt_of_le HWZ.out (below_regrown _ _ _).size⟩); (case measure => simp [intOf]; omega))
            · go_upto_region 6 with fail
              rw [HWE.out]
              (refine wp_region_quiet_below (by kernel_rfl) (by kernel_rfl) ?_; (repeat (go_big_quiet_step (exact hE _ _))); refine wpQuiet_nil ?_; intro _ hw'; obtain ⟨⟨dq, osq⟩, hw''⟩ := hw'; subst hw'')
              go_wp2
              (go_ret; exact ⟨ret_bool (by unfold recOk; rw [allB_of_not hlt HG.out]; simp), bel_step0 (below_regrown _ _ _) HBW.out⟩)
        · obtain ⟨i, rfl⟩ : ∃ i, j = i + 1 := ⟨j - 1, by omega⟩
          obtain ⟨v3, hv3⟩ : ∃ v, decide (R.k (i + 1) ≤ R.k i) = v := ⟨_, rfl⟩
          have HG := Lib.hid (goodE_succ hv1 hv2 hv3)
          have p0 := cell_regrown (HWP.out i (by omega))
          have hi1 : ((i + 1 : Nat) : Int) = (i : Int) + 1 := by omega
          have hi0 : (0 : Int) ≤ (i : Int) := by omega
          have hi2 : (i : Int) < (R.n : Int) := by omega
          have hi3 : (0 : Int) < (i : Int) + 1 := by omega
          clear hv1
          cases v1
          · go_upto_region 6 with fail
            rw [HWE.out]
            (refine wp_region_quiet_below (by kernel_rfl) (by kernel_rfl) ?_; (repeat (go_big_quiet_step (exact hE _ _))); refine wpQuiet_nil ?_; intro _ hw'; obtain ⟨⟨dq, osq⟩, hw''⟩ := hw'; subst hw'')
            go_wp2
            (go_ret; exact ⟨ret_bool (by unfold recOk; rw [allB_of_not hlt HG.out]; simp), bel_step0 (below_regrown _ _ _) HBW.out⟩)
          · cases v2
            · cases v3
              · go_upto_region 6 with fail
                rw [HWE.out]
                (refine wp_region_quiet_below (by kernel_rfl) (by kernel_rfl) ?_; (repeat (go_big_quiet_step (exact hE _ _))); refine wpQuiet_nil ?_; intro _ hw'; obtain ⟨⟨dq, osq⟩, hw''⟩ := hw'; subst hw'')
                go_wp2
                (go_roundw; (case rel => exact ⟨_, hlt, by go_num, allB_next HA.out HG.out, bel_step0 (below_regrown _ _ _) HBW.out, HBXW.out.below HWZ.out (below_regrown _ _ _), Nat.lt_of_lt_of_le HWZ.out (below_regrown _ _ _).size⟩); (case measure => simp [intOf]; omega))
              · go_upto_region 6 with fail
                rw [HWE.out]
                (refine wp_region_quiet_below (by kernel_rfl) (by kernel_rfl) ?_; (repeat (go_big_quiet_step (exact hE _ _))); refine wpQuiet_nil ?_; intro _ hw'; obtain ⟨⟨dq, osq⟩, hw''⟩ := hw'; subst hw'')
                go_wp2
                (go_ret; exact ⟨ret_bool (by unfold recOk; rw [allB_of_not hlt HG.out]; simp), bel_step0 (below_regrown _ _ _) HBW.out⟩)
            · go_upto_region 6 with fail
              rw [HWE.out]
              (refine wp_region_quiet_below (by kernel_rfl) (by kernel_rfl) ?_; (repeat (go_big_quiet_step (exact hE _ _))); refine wpQuiet_nil ?_; intro _ hw'; obtain ⟨⟨dq, osq⟩, hw''⟩ := hw'; subst hw'')
              go_wp2
              (go_ret; exact ⟨ret_bool (by unfold recOk; rw [allB_of_not hlt HG.out]; simp), bel_step0 (below_regrown _ _ _) HBW.out⟩)
      obtain rfl : j = R.n := by omega
      go_wp2
      go_ret
      exact ⟨ret_bool (by unfold recOk; rw [HHD.out, HA.out]; rfl), HB.out⟩
  · have h5 : (6 : Int) < (R.n : Int) := by omega
    go_enter Tryz.func15, Tryz.ntmps15
    go_upto_region 1 with fail
    rw [HW0.out]
    go_wp2_with fail
    refine (C_within _ _ _ _).mono ?_; rintro e w' ⟨rfl, rfl⟩
    rw [h1]
    go_wp2_with fail
    refine (C_isId _ _).mono ?_; rintro e w' ⟨rfl, rfl⟩
    rw [h2]
    go_wp2_with fail
    refine (C_isDay _ _).mono ?_; rintro e w' ⟨rfl, rfl⟩
    rw [h3]
    go_wp2
    go_ret
    exact ⟨ret_bool (by unfold recOk headOk; rw [h1, h2, h3, decide_eq_false h4]; rfl), HB0.out⟩
end Go.Proofs.YtjmfkenhnfdbjaaGreatDoor
