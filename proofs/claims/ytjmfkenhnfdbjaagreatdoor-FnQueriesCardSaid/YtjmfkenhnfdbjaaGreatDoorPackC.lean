/- Texts of this claim in one: QzM. No condition but those stated. -/
import Derived.Test.YtjmfkenhnfdbjaaGreatDoorPackA
import Derived.Test.YtjmfkenhnfdbjaaGreatDoorQyQ
/- What the law FnQueries draws. No condition but those stated. -/
namespace Go.Proofs.YtjmfkenhnfdbjaaGreatDoor
set_option linter.unusedVariables false
set_option linter.unusedSimpArgs false
open Go.RowKit Go.Sort
set_option maxRecDepth 100000 in
set_option maxHeartbeats 8000000 in
theorem C_DrawDoesMatch (v : Value) (n : Nat) (w : World) (h : SU w v n) :
    Calls Tryz.prog 6 #[v] w fun e w' => ∃ (s : ByteArray) (R : Rc) (u : Value), e = .returned (.tuple #[.string s, .agg #[.int .i64 (R).id, .int .i64 (R).ser, .int .i64 (R).made, u]]) ∧ s.size ≤ 64 ∧ EvS w' u R ∧ Below w.heap.size w w' := by
  obtain ⟨A, cap, rfl⟩ := h.form
  obtain ⟨g0, hg0⟩ : ∃ g, g = w.heap.size := ⟨_, rfl⟩
  obtain ⟨B, hB⟩ : ∃ B, B = w.heap.size + 1 := ⟨_, rfl⟩
  obtain ⟨w0, hw0⟩ : ∃ w0, w0 = w.alloc (.cells #[.int .i64 0, .int .i64 0, .int .i64 0, .slice none 0 0] 26) := ⟨_, rfl⟩
  obtain ⟨w1, hw1⟩ : ∃ w1, w1 = w0.alloc (.cells #[.slice A n cap, .int .i64 0, .int .u64 0] 55) := ⟨_, rfl⟩
  have b0 : Below w.heap.size w w0 := by rw [hw0]; (repeat (first | with_reducible exact Below.refl _ _ | with_reducible exact below_regrown _ _ _ | with_reducible refine bel_step0 (by assumption) ?_ | with_reducible refine bel_alloc0 ?_ _ | with_reducible refine bel_regrown0 ?_ _ _ | with_reducible refine bel_regrown ?_ (by first | omega | (simp; done) | (simp; omega)) _ _ | with_reducible refine below_drewN ?_ _ | with_reducible refine Below.drew ?_ | with_reducible refine Below.alloc ?_ (by first | omega | (simp; done) | (simp; omega)) _ | with_reducible refine Below.setCell ?_ (by first | omega | (simp; done) | (simp; omega)) _ | with_reducible refine bel_step (by assumption) (by first | omega | (simp; done) | (simp; omega)) ?_ | with_reducible refine bel_grown (by assumption) (by first | omega | (simp; done) | (simp; omega)) (by first | omega | (simp; done) | (simp; omega)) ?_))
  have z0 : w0.heap.size = B := by rw [hw0, hB]; simp
  have b1 : Below w.heap.size w w1 := by rw [hw1]; exact bel_alloc0 b0 _
  have cu1 : Cu w1 B 0 := by rw [hw1, ← z0]; exact Cu.start (h.below b0) _
  have r1 : w1.rowIs g0 26 4 (c4v 0 0 0 (.slice none 0 0)) := by rw [hw1, hw0, hg0]; exact row_alloc (row4_alloc w _ 0 0 0 _) _
  have HW := Lib.hid (show (w.alloc (.cells #[.int .i64 0, .int .i64 0, .int .i64 0, .slice none 0 0] 26)).alloc (.cells #[.slice A n cap, .int .i64 0, .int .u64 0] 55) = w1 by rw [hw1, hw0])
  have HG := Lib.hid (And.intro hg0.symm hB.symm)
  have HB1 := Lib.hid b1
  have HR1 := Lib.hid r1
  have hBw : g0 < B := by omega
  have hz1 : B + 1 ≤ w1.heap.size := by rw [hw1, World.size_alloc, z0]; exact Nat.le_refl _
  have hgw : w.heap.size ≤ g0 := by omega
  clear hw1 hw0 hB h z0 b0 r1 hg0 b1
  go_enter Tryz.func6, Tryz.ntmps6
  go_upto_region 2 with fail
  rw [HW.out, HG.out.2, HG.out.1]
  clear HW HG
  go_wp2_with fail
  refine (C_query B 0 w1 cu1 (by omega)).mono ?_; rintro e w2 ⟨s, rfl, hs, cu2, hc2⟩
  have HC2 := Lib.hid hc2
  have HS := Lib.hid hs
  clear hc2 cu1 hs
  go_wp2_with fail
  refine (C_amongLc B _ _ 3 3 _ w2 _ (by rfl) cu2 (by omega) (by omega) (by decide) (by omega) sm5 (by rfl)).mono ?_; rintro e w3 ⟨r, rfl, _, cu3, hb3⟩
  have HC3 := Lib.hid (HC2.out.trans (Chg.of_grown hb3))
  clear hb3 cu2
  go_wp2_with fail
  refine (C_record B _ r w3 cu3 (by omega)).mono ?_; rintro e w4 ⟨x, u, rfl, ho, hl, cu4, hb4⟩
  have hc4 := HC3.out.trans (Chg.of_grown hb4)
  have HC4 := Lib.hid hc4
  have hz3 := HC3.out.size
  have R4 := row_chg HR1.out hc4 (.inl hBw)
  obtain ⟨UA, uc, hu⟩ := ho.form
  subst hu
  have HO := Lib.hid (EL.mono (base' := B + 1) (by omega) ho)
  have x0 := R4.cell (i := 0) (by omega)
  have x1 := R4.cell (i := 1) (by omega)
  have x2 := R4.cell (i := 2) (by omega)
  have x3 := R4.cell (i := 3) (by omega)
  have f0 := R4.frozen 0
  have f1 := R4.frozen 1
  have f2 := R4.frozen 2
  have f3 := R4.frozen 3
  have hgl := R4.lt
  clear ho cu3 cu4 hb4 hc4 R4
  go_wp2
  go_light
  refine bodyPost_ret (by simp (maxDischargeDepth := 3) [results, Tryz.results6, go_sem, *]; try rfl) rfl ?_
  refine ⟨s, x.rc, _, rfl, HS.out, EL.evs (base := B + 1) ?_, ?_⟩
  · repeat (with_reducible refine EL.setLow ?_ (by first | omega | (simp; done) | (simp; omega)) _)
    exact HO.out
  · (repeat (with_reducible refine Below.setCell ?_ (by first | omega | (simp; done) | (simp; omega)) _))
    exact bel_chg HC4.out (by omega) HB1.out
theorem C_IsQueryS (s : ByteArray) (hs : s.size ≤ 1048576) (w : World) :
    Calls Tryz.prog 10 #[.string s] w fun e w' => e = .returned (.bool (goodQ s)) ∧ Below w.heap.size w w' := by
  have HC := Lib.hid (C_l19Good s hs w)
  go_enter Tryz.func10, Tryz.ntmps10
  go_wp2_with fail
  refine HC.out.mono ?_; rintro e w1 ⟨rfl, hb1⟩
  go_wp2
  go_ret
  exact ⟨rfl, hb1⟩
end Go.Proofs.YtjmfkenhnfdbjaaGreatDoor
