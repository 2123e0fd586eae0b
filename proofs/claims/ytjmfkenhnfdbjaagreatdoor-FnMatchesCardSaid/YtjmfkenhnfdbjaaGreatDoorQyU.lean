/- Whether a record matches a query: the program, by the query's tree. No condition but those stated. -/
import Derived.Test.YtjmfkenhnfdbjaaGreatDoorQyT
namespace Go.Proofs.YtjmfkenhnfdbjaaGreatDoor
set_option linter.unusedVariables false
set_option linter.unusedSimpArgs false
open Go.RowKit Go.Sort
theorem TR.below {w w' : World} {D : Nat → Prop} {q : Qy} {x : Tq} (hb : Below w.heap.size w w') (h : TR w D q x) : TR w' D q x :=
  TR.frame (fun g _ hl => hb.block g hl) hb.size _ _ h
set_option maxHeartbeats 8000000 in
theorem C_matches (R : Rc) (sv : Value) : ∀ (q : Qy) (x : Tq) (D : Nat → Prop) (w : World), TR w D q x → q.wf → EvS w sv R →
    Calls Tryz.prog 37 #[.agg #[.int .u8 (x).c, .int .i64 (x).n, .slice (x).A (x).m (x).k], .agg #[.int .i64 (R).id, .int .i64 (R).ser, .int .i64 (R).made, sv]] w fun e w' => e = .returned (.bool (q.eval (rqI R))) ∧ Below w.heap.size w w' := by
  intro q
  induction q with
  | test c n =>
    intro x D w ht hwf h
    have ht : x = ⟨(c : Int), n, none, 0, 0⟩ := ht
    subst ht
    have B0 : Below w.heap.size w ((w.alloc (.cells #[.int .u8 ((⟨(c : Int), n, none, 0, 0⟩ : Tq)).c, .int .i64 ((⟨(c : Int), n, none, 0, 0⟩ : Tq)).n, .slice ((⟨(c : Int), n, none, 0, 0⟩ : Tq)).A ((⟨(c : Int), n, none, 0, 0⟩ : Tq)).m ((⟨(c : Int), n, none, 0, 0⟩ : Tq)).k] 61)).alloc (.cells #[.int .i64 R.id, .int .i64 R.ser, .int .i64 R.made, sv] 26)) := ((Below.refl _ _).alloc (Nat.le_refl _) _).alloc (by simp) _
    have HB0 := Lib.hid B0
    have HEV := Lib.hid (h.below B0)
    clear B0
    have hcase : c = 115 ∨ c = 105 ∨ c = 101 ∨ c = 97 := by
      have hwf : okT c n = true := hwf
      unfold okT at hwf
      simp only [Bool.or_eq_true, Bool.and_eq_true, decide_eq_true_eq] at hwf
      omega
    clear hwf h
    rcases hcase with rfl | rfl | rfl | rfl
    · have HV := Lib.hid (show (Qy.test 115 n).eval (rqI R) = (R.ser == n) by simp [Qy.eval, rqI])
      go_enter Tryz.func37, Tryz.ntmps37
      go_wp2
      go_ret
      rw [HV.out]
      exact ⟨rfl, HB0.out⟩
    · have HV := Lib.hid (show (Qy.test 105 n).eval (rqI R) = (R.id == n) by simp [Qy.eval, rqI])
      go_enter Tryz.func37, Tryz.ntmps37
      go_wp2
      go_ret
      rw [HV.out]
      exact ⟨rfl, HB0.out⟩
    · have HV := Lib.hid (show (Qy.test 101 n).eval (rqI R) = (anyB R.n fun j => R.k j == n) by simp [Qy.eval, rqI])
      go_enter Tryz.func37, Tryz.ntmps37
      go_wp2_with fail
      refine (C_eventAt R sv n _ HEV.out).mono ?_; rintro e w1 ⟨rfl, hb⟩
      go_wp2
      go_ret
      rw [HV.out]
      exact ⟨ret_bool firstB_ge, bel_step0 hb HB0.out⟩
    · have HV := Lib.hid (show (Qy.test 97 n).eval (rqI R) = decide (n ≤ R.made) from rfl)
      go_enter Tryz.func37, Tryz.ntmps37
      go_wp2
      go_ret
      rw [HV.out]
      exact ⟨rfl, HB0.out⟩
  | neg q ih =>
    intro x D w ht hwf h
    obtain ⟨g, k, y, rfl, hd, hg, ⟨c0, c1, c2⟩, hty⟩ := ht
    have B0 : Below w.heap.size w ((w.alloc (.cells #[.int .u8 ((⟨33, 0, some ⟨g, 0, none⟩, 1, k⟩ : Tq)).c, .int .i64 ((⟨33, 0, some ⟨g, 0, none⟩, 1, k⟩ : Tq)).n, .slice ((⟨33, 0, some ⟨g, 0, none⟩, 1, k⟩ : Tq)).A ((⟨33, 0, some ⟨g, 0, none⟩, 1, k⟩ : Tq)).m ((⟨33, 0, some ⟨g, 0, none⟩, 1, k⟩ : Tq)).k] 61)).alloc (.cells #[.int .i64 R.id, .int .i64 R.ser, .int .i64 R.made, sv] 26)) := ((Below.refl _ _).alloc (Nat.le_refl _) _).alloc (by simp) _
    have HB0 := Lib.hid B0
    have HEV := Lib.hid (h.below B0)
    clear B0
    obtain ⟨w0, hw0⟩ : ∃ w0, w0 = (w.alloc (.cells #[.int .u8 ((⟨33, 0, some ⟨g, 0, none⟩, 1, k⟩ : Tq)).c, .int .i64 ((⟨33, 0, some ⟨g, 0, none⟩, 1, k⟩ : Tq)).n, .slice ((⟨33, 0, some ⟨g, 0, none⟩, 1, k⟩ : Tq)).A ((⟨33, 0, some ⟨g, 0, none⟩, 1, k⟩ : Tq)).m ((⟨33, 0, some ⟨g, 0, none⟩, 1, k⟩ : Tq)).k] 61)).alloc (.cells #[.int .i64 R.id, .int .i64 R.ser, .int .i64 R.made, sv] 26) := ⟨_, rfl⟩
    have HM := Lib.hid (fun w' (hb : Below w.heap.size w w') => ih y D w' (hty.below hb) hwf (h.below hb))
    obtain ⟨v, hv⟩ : ∃ v, q.eval (rqI R) = v := ⟨_, rfl⟩
    have HV := Lib.hid (show (Qy.neg q).eval (rqI R) = !v by rw [← hv]; rfl)
    rw [hv] at HM
    have q0 : w0.cell? ⟨w.heap.size, 0, none⟩ = some (.int .u8 33) := by rw [hw0]; simp
    have q2 : w0.cell? ⟨w.heap.size, 2, none⟩ = some (.slice (some ⟨g, 0, none⟩) 1 k) := by rw [hw0]; simp
    have r0 : w0.cell? ⟨w.heap.size + 1, 0, none⟩ = some (.int .i64 R.id) := by rw [hw0]; simp
    have r1 : w0.cell? ⟨w.heap.size + 1, 1, none⟩ = some (.int .i64 R.ser) := by rw [hw0]; simp
    have r2 : w0.cell? ⟨w.heap.size + 1, 2, none⟩ = some (.int .i64 R.made) := by rw [hw0]; simp
    have r3 : w0.cell? ⟨w.heap.size + 1, 3, none⟩ = some sv := by rw [hw0]; simp
    rw [← hw0] at HB0
    have d0 := (World.cell?_of_block (w := w) (a := ⟨g, 0, none⟩) (HB0.out.block g hg)).trans c0
    have d1 := (World.cell?_of_block (w := w) (a := ⟨g, 1, none⟩) (HB0.out.block g hg)).trans c1
    have d2 := (World.cell?_of_block (w := w) (a := ⟨g, 2, none⟩) (HB0.out.block g hg)).trans c2
    have HW0 := Lib.hid hw0.symm
    have hM : ∀ d os, Calls Tryz.prog 37 #[.agg #[.int .u8 (y).c, .int .i64 (y).n, .slice (y).A (y).m (y).k], .agg #[.int .i64 (R).id, .int .i64 (R).ser, .int .i64 (R).made, sv]] (grow (redrawn w0 d) os) fun e w'' => e = .returned (.bool v) ∧ ∃ p : Regrown, w'' = grow (redrawn w0 p.d) p.os :=
      fun d os => Calls.regrown_of (HM.out _ (bel_step0 (below_regrown _ _ _) HB0.out))
    have g0 := cell_regrown d0
    have g1 := cell_regrown d1
    have g2 := cell_regrown d2
    have k2 := cell_regrown q2
    have l0 := cell_regrown r0
    have l1 := cell_regrown r1
    have l2 := cell_regrown r2
    have l3 := cell_regrown r3
    clear hw0 c0 c1 c2 ih hty hv h hwf HM
    go_enter Tryz.func37, Tryz.ntmps37
    go_upto_region 8 with fail
    rw [HW0.out]
    (refine wp_region_quiet_below (by kernel_rfl) (by kernel_rfl) ?_; (repeat (go_big_quiet_step (exact hM _ _))); refine wpQuiet_nil ?_; intro _ hw'; obtain ⟨⟨dq, osq⟩, hw''⟩ := hw'; subst hw'')
    clear g0 g1 g2 k2 l0 l1 l2 l3 hM
    go_wp2
    go_ret
    rw [HV.out]
    exact ⟨rfl, bel_step0 (below_regrown _ _ _) HB0.out⟩
  | seq o m f ih =>
    intro x D w ht hwf h
    obtain ⟨g, k, rfl, hd, hg, hmk, hk, hp⟩ := ht
    have key : ∀ j, ∃ y : Tq, j < m → (w.cell? ⟨g, j * 3, none⟩ = some (.int .u8 y.c) ∧ w.cell? ⟨g, j * 3 + 1, none⟩ = some (.int .i64 y.n) ∧ w.cell? ⟨g, j * 3 + 2, none⟩ = some (.slice y.A y.m y.k)) ∧ TR w D (f j) y := by
      intro j
      by_cases hj : j < m
      · obtain ⟨y, hy⟩ := hp j hj
        exact ⟨y, fun _ => hy⟩
      · exact ⟨zeroQ, fun hh => absurd hh hj⟩
    obtain ⟨y, hy⟩ := Classical.axiomOfChoice key
    obtain ⟨s, hs⟩ : ∃ s : Int, (if o then 124 else 38) = s := ⟨_, rfl⟩
    rw [hs]
    have B0 : Below w.heap.size w ((w.alloc (.cells #[.int .u8 ((⟨s, 0, some ⟨g, 0, none⟩, m, k⟩ : Tq)).c, .int .i64 ((⟨s, 0, some ⟨g, 0, none⟩, m, k⟩ : Tq)).n, .slice ((⟨s, 0, some ⟨g, 0, none⟩, m, k⟩ : Tq)).A ((⟨s, 0, some ⟨g, 0, none⟩, m, k⟩ : Tq)).m ((⟨s, 0, some ⟨g, 0, none⟩, m, k⟩ : Tq)).k] 61)).alloc (.cells #[.int .i64 R.id, .int .i64 R.ser, .int .i64 R.made, sv] 26)) := ((Below.refl _ _).alloc (Nat.le_refl _) _).alloc (by simp) _
    have HB0 := Lib.hid B0
    have HEV := Lib.hid (h.below B0)
    clear B0
    obtain ⟨w0, hw0⟩ : ∃ w0, w0 = (w.alloc (.cells #[.int .u8 ((⟨s, 0, some ⟨g, 0, none⟩, m, k⟩ : Tq)).c, .int .i64 ((⟨s, 0, some ⟨g, 0, none⟩, m, k⟩ : Tq)).n, .slice ((⟨s, 0, some ⟨g, 0, none⟩, m, k⟩ : Tq)).A ((⟨s, 0, some ⟨g, 0, none⟩, m, k⟩ : Tq)).m ((⟨s, 0, some ⟨g, 0, none⟩, m, k⟩ : Tq)).k] 61)).alloc (.cells #[.int .i64 R.id, .int .i64 R.ser, .int .i64 R.made, sv] 26) := ⟨_, rfl⟩
    rw [← hw0] at HB0
    have q0 : w0.cell? ⟨w.heap.size, 0, none⟩ = some (.int .u8 s) := by rw [hw0]; simp
    have q2 : w0.cell? ⟨w.heap.size, 2, none⟩ = some (.slice (some ⟨g, 0, none⟩) m k) := by rw [hw0]; simp
    have hbx : Box w0 (w.heap.size + 1) R sv := by rw [hw0]; exact ⟨by simp, by simp, by simp, by simp⟩
    have hz0 : w0.heap.size = w.heap.size + 2 := by rw [hw0]; simp
    have HW0 := Lib.hid hw0.symm
    have HC := Lib.hid (And.intro (C_ContainsQ1 R sv g m k y (fun j => (f j).eval (rqI R)) (w.heap.size + 1) w0 (by omega) hbx (by omega) hmk hk
      (fun j hj => by
        obtain ⟨⟨e0, e1, e2⟩, _⟩ := hy j hj
        exact ⟨(World.cell?_of_block (w := w) (a := ⟨g, _, none⟩) (HB0.out.block g hg)).trans e0, (World.cell?_of_block (w := w) (a := ⟨g, _, none⟩) (HB0.out.block g hg)).trans e1, (World.cell?_of_block (w := w) (a := ⟨g, _, none⟩) (HB0.out.block g hg)).trans e2⟩)
      (fun j hj w' hw' => ih j (y j) D w' ((hy j hj).2.below (bel_step0 hw' HB0.out)) (hwf.2 j hj) (h.below (bel_step0 hw' HB0.out))))
      (C_ContainsQ2 R sv g m k y (fun j => (f j).eval (rqI R)) (w.heap.size + 1) w0 (by omega) hbx (by omega) hmk hk
      (fun j hj => by
        obtain ⟨⟨e0, e1, e2⟩, _⟩ := hy j hj
        exact ⟨(World.cell?_of_block (w := w) (a := ⟨g, _, none⟩) (HB0.out.block g hg)).trans e0, (World.cell?_of_block (w := w) (a := ⟨g, _, none⟩) (HB0.out.block g hg)).trans e1, (World.cell?_of_block (w := w) (a := ⟨g, _, none⟩) (HB0.out.block g hg)).trans e2⟩)
      (fun j hj w' hw' => ih j (y j) D w' ((hy j hj).2.below (bel_step0 hw' HB0.out)) (hwf.2 j hj) (h.below (bel_step0 hw' HB0.out)))))
    clear hw0 hp key hy ih hwf h hbx
    cases o
    · simp only [Bool.false_eq_true, if_false] at hs
      subst hs
      have HV := Lib.hid (show (Qy.seq false m f).eval (rqI R) = !(anyB m fun j => !(f j).eval (rqI R)) by rw [anyB_eq]; simp [Qy.eval])
      go_enter Tryz.func37, Tryz.ntmps37
      go_upto_region 6 with fail
      rw [HW0.out]
      go_wp2_with fail
      refine HC.out.2.mono ?_; rintro e w1 ⟨rfl, hb⟩
      go_wp2
      go_ret
      rw [HV.out]
      exact ⟨rfl, bel_step0 hb HB0.out⟩
    · simp only [if_true] at hs
      subst hs
      have HV := Lib.hid (show (Qy.seq true m f).eval (rqI R) = (anyB m fun j => (f j).eval (rqI R)) from rfl)
      go_enter Tryz.func37, Tryz.ntmps37
      go_upto_region 4 with fail
      rw [HW0.out]
      go_wp2_with fail
      refine HC.out.1.mono ?_; rintro e w1 ⟨rfl, hb⟩
      go_wp2
      go_ret
      rw [HV.out]
      exact ⟨rfl, bel_step0 hb HB0.out⟩
end Go.Proofs.YtjmfkenhnfdbjaaGreatDoor
