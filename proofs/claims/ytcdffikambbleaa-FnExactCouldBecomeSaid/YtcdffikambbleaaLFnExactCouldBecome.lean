/- The law FnExactCouldBecome returns true, whatever its arguments, and leaves them as they were. No condition. -/
import Derived.Test.YtcdffikambbleaaRevZ
import Derived.Test.YtcdffikambbleaaRevV
namespace Go.Proofs.Ytcdffikambbleaa.lawFnExactCouldBecome
open Go.ChangeShapes Go.WideShapes Go.ChangeAt Go.RowKit Go.Deep Go.Joins
open Go.ChangeMaps (open_string shut_string)
set_option linter.unusedVariables false
set_option linter.unusedSimpArgs false

theorem C_eqI_same (v v' : Value) (n : Nat) (f : Nat → Int) (w : World) (h : SI w v n f) (h' : SI w v' n f) :
    Calls Try.prog 37 #[v, v'] w fun e w' => e = .returned (.bool true) ∧ Below w.heap.size w w' :=
  (C_eqIntS v v' n n f f w h h').mono fun e w' hh => ⟨hh.1.trans (by rw [show eqI n n f f = true by unfold eqI; simp only [beq_self_eq_true, decide_true, Bool.true_and]; exact allB_iff.2 fun _ _ => rfl]), hh.2⟩
theorem Rv.eqB_refl (x : Rv) : x.eqB x = true := by
  unfold Rv.eqB eqI
  simp only [beq_self_eq_true, decide_true, Bool.true_and]
  exact allB_iff.2 fun _ _ => rfl
theorem C_eqReview_at (wb : World) (v v' : Value) (x : Rv) (w : World) (h : RR w v x) (h' : RR w v' x) (hb : Below wb.heap.size wb w) :
    Calls Try.prog 20 #[v, v'] w fun e w' => e = .returned (.bool true) ∧ Below wb.heap.size wb w' :=
  (C_eqReview v v' x x w h h').mono fun e w' hh => ⟨hh.1.trans (by rw [Rv.eqB_refl]), bel_step0 hh.2 hb⟩
theorem C_toReview_at (wb : World) (v : Value) (x : Rv) (w : World) (h : RR wb v x) (hn : x.n ≤ 1048576) (hb : Below wb.heap.size wb w) :
    Calls Try.prog 18 #[v] w fun e w' => ∃ v', e = .returned v' ∧ RR w' v' x ∧ Below wb.heap.size wb w' :=
  (C_toReview v x w (h.below hb) hn).mono fun e w' ⟨v', h1, h2, h3⟩ => ⟨v', h1, h2, bel_step0 h3 hb⟩
set_option maxHeartbeats 4000000 in
set_option maxRecDepth 100000 in
theorem walk (v : Value) (x : Rv) (z : Int) (w : World) (h : RR w v x) (_ : I64 z) :
    Calls Try.prog 14 #[v, .int .i64 z] w fun e w' => e = .returned (.bool true) ∧ Below w.heap.size w w' := by
  obtain ⟨r, d, n, f⟩ := x; obtain ⟨sv, rfl, hs⟩ := h; have hs0 := hs; obtain ⟨A, cap, rfl, hsr, hsc, hsm⟩ := hs0; simp only at hsc hsm; clear hsr
  have hR : RR w (.agg #[.int .i64 r, .int .i64 d, .slice A n cap]) ⟨r, d, n, f⟩ := ⟨_, rfl, hs⟩
  by_cases hbig : szI 1048576 n < 0
  · go_enter Try.func14, Try.ntmps14
    go_wp2_with (first | (go_at_call 16; refine (C_szReview _ _ _ _ (by first | assumption | (refine SI.below ?_ (by assumption); (repeat (first | with_reducible exact Below.refl _ _ | with_reducible exact below_regrown _ _ _ | with_reducible refine bel_step0 (by assumption) ?_ | with_reducible refine bel_alloc0 ?_ _ | with_reducible refine bel_regrown0 ?_ _ _ | with_reducible refine bel_regrown ?_ (by first | omega | (simp; done) | (simp; omega)) _ _ | with_reducible refine below_drewN ?_ _ | with_reducible refine Below.drew ?_ | with_reducible refine Below.alloc ?_ (by first | omega | (simp; done) | (simp; omega)) _ | with_reducible refine Below.setCell ?_ (by first | omega | (simp; done) | (simp; omega)) _ | with_reducible refine bel_step (by assumption) (by first | omega | (simp; done) | (simp; omega)) ?_ | with_reducible refine bel_grown (by assumption) (by first | omega | (simp; done) | (simp; omega)) (by first | omega | (simp; done) | (simp; omega)) ?_)); done) | (refine RR.below ?_ (by assumption); (repeat (first | with_reducible exact Below.refl _ _ | with_reducible exact below_regrown _ _ _ | with_reducible refine bel_step0 (by assumption) ?_ | with_reducible refine bel_alloc0 ?_ _ | with_reducible refine bel_regrown0 ?_ _ _ | with_reducible refine bel_regrown ?_ (by first | omega | (simp; done) | (simp; omega)) _ _ | with_reducible refine below_drewN ?_ _ | with_reducible refine Below.drew ?_ | with_reducible refine Below.alloc ?_ (by first | omega | (simp; done) | (simp; omega)) _ | with_reducible refine Below.setCell ?_ (by first | omega | (simp; done) | (simp; omega)) _ | with_reducible refine bel_step (by assumption) (by first | omega | (simp; done) | (simp; omega)) ?_ | with_reducible refine bel_grown (by assumption) (by first | omega | (simp; done) | (simp; omega)) (by first | omega | (simp; done) | (simp; omega)) ?_)); done) | (refine RRs.below ?_ (by assumption); (repeat (first | with_reducible exact Below.refl _ _ | with_reducible exact below_regrown _ _ _ | with_reducible refine bel_step0 (by assumption) ?_ | with_reducible refine bel_alloc0 ?_ _ | with_reducible refine bel_regrown0 ?_ _ _ | with_reducible refine bel_regrown ?_ (by first | omega | (simp; done) | (simp; omega)) _ _ | with_reducible refine below_drewN ?_ _ | with_reducible refine Below.drew ?_ | with_reducible refine Below.alloc ?_ (by first | omega | (simp; done) | (simp; omega)) _ | with_reducible refine Below.setCell ?_ (by first | omega | (simp; done) | (simp; omega)) _ | with_reducible refine bel_step (by assumption) (by first | omega | (simp; done) | (simp; omega)) ?_ | with_reducible refine bel_grown (by assumption) (by first | omega | (simp; done) | (simp; omega)) (by first | omega | (simp; done) | (simp; omega)) ?_)); done) | (refine RA.below ?_ (by assumption); (repeat (first | with_reducible exact Below.refl _ _ | with_reducible exact below_regrown _ _ _ | with_reducible refine bel_step0 (by assumption) ?_ | with_reducible refine bel_alloc0 ?_ _ | with_reducible refine bel_regrown0 ?_ _ _ | with_reducible refine bel_regrown ?_ (by first | omega | (simp; done) | (simp; omega)) _ _ | with_reducible refine below_drewN ?_ _ | with_reducible refine Below.drew ?_ | with_reducible refine Below.alloc ?_ (by first | omega | (simp; done) | (simp; omega)) _ | with_reducible refine Below.setCell ?_ (by first | omega | (simp; done) | (simp; omega)) _ | with_reducible refine bel_step (by assumption) (by first | omega | (simp; done) | (simp; omega)) ?_ | with_reducible refine bel_grown (by assumption) (by first | omega | (simp; done) | (simp; omega)) (by first | omega | (simp; done) | (simp; omega)) ?_)); done)) (by omega) (by omega)).mono ?_; rintro e w' ⟨rfl, hb'⟩; obtain ⟨hc', hf'⟩ := bcell hb'; (try simp only [World.size_drew] at hc' hf'); have hz' := bsize hb'; (try simp at hz'); have ht' := (by first | exact lt_le5 hz' | exact lt_le4 hz' | exact lt_le3 hz' | exact lt_le2 hz' | exact lt_le1 hz' | exact lt_le0 hz' : ∀ n, n < _ → n < w'.heap.size); (first | (obtain ⟨hs1, hs2, hs3, hs4, hs5⟩ := sz5 hz') | (obtain ⟨hs1, hs2, hs3, hs4⟩ := sz4 hz') | (obtain ⟨hs1, hs2, hs3⟩ := sz3 hz') | (obtain ⟨hs1, hs2⟩ := sz2 hz') | (have hs1 := sz1 hz') | skip); (try have hq0 : w.heap.size < w'.heap.size := by omega); (try have hq1 : w.heap.size + 1 < w'.heap.size := by omega); (try have hq2 : w.heap.size + 1 + 1 < w'.heap.size := by omega); (try have hq3 : w.heap.size + 1 + 1 + 1 < w'.heap.size := by omega)))
    go_ret
    exact ⟨rfl, by (repeat (first | with_reducible exact Below.refl _ _ | with_reducible exact below_regrown _ _ _ | with_reducible refine bel_step0 (by assumption) ?_ | with_reducible refine bel_alloc0 ?_ _ | with_reducible refine bel_regrown0 ?_ _ _ | with_reducible refine bel_regrown ?_ (by first | omega | (simp; done) | (simp; omega)) _ _ | with_reducible refine below_drewN ?_ _ | with_reducible refine Below.drew ?_ | with_reducible refine Below.alloc ?_ (by first | omega | (simp; done) | (simp; omega)) _ | with_reducible refine Below.setCell ?_ (by first | omega | (simp; done) | (simp; omega)) _ | with_reducible refine bel_step (by assumption) (by first | omega | (simp; done) | (simp; omega)) ?_ | with_reducible refine bel_grown (by assumption) (by first | omega | (simp; done) | (simp; omega)) (by first | omega | (simp; done) | (simp; omega)) ?_))⟩
  have hn : n ≤ 1048576 := by unfold szI at hbig; split at hbig <;> omega
  have hbig0 : 0 ≤ szI 1048576 n := by omega
  obtain ⟨q, hq⟩ : ∃ q, szI 1048576 n = q := ⟨_, rfl⟩
  rw [hq] at hbig0
  have HZ := Lib.hid hq
  clear hq hbig
  obtain ⟨ok, hok⟩ : ∃ ok, cbOk ⟨r, d, n, f⟩ z = ok := ⟨_, rfl⟩
  obtain ⟨L, hL⟩ : ∃ L, cbL ⟨r, d, n, f⟩ z = L := ⟨_, rfl⟩
  have hLl : L.length ≤ 243 := by rw [← hL]; exact cbL_le _ _
  obtain ⟨l, hl⟩ : ∃ l, L.length = l := ⟨_, rfl⟩
  obtain ⟨F, hFe⟩ : ∃ F, ai L = F := ⟨_, rfl⟩
  have CS : ∀ W v (hv : RR W v ⟨r, d, n, f⟩), Calls Try.prog 60 #[v, .int .i64 z] W fun e w' => ∃ v', e = .returned (.tuple #[v', .bool ok]) ∧ WI W.heap.size w'.heap.size w' v' l F ∧ Below W.heap.size W w' := fun W v hv =>
    (C_CouldBecomeS v _ z W hv).mono fun e w' ⟨v', e1, e2, e3⟩ => ⟨v', by rw [e1, hok], by rw [hL] at e2; have := e2.wi; rwa [hl, hFe] at this, e3⟩
  have CI : ∀ W v (hv : RR W v ⟨r, d, n, f⟩), Calls Try.prog 61 #[v, .int .i64 z] W fun e w' => ∃ v', e = .returned (.tuple #[v', .bool ok]) ∧ WI W.heap.size w'.heap.size w' v' l F ∧ Below W.heap.size W w' := fun W v hv =>
    (C_CouldBecomeI v _ z W hv).mono fun e w' ⟨v', e1, e2, e3⟩ => ⟨v', by rw [e1, hok], by rw [hL] at e2; have := e2.wi; rwa [hl, hFe] at this, e3⟩
  rw [hl] at hLl
  have HC := Lib.hid (And.intro CI CS)
  obtain ⟨W0, hW0⟩ : ∃ W0, W0 = w.alloc (.cells #[.int .i64 r, .int .i64 d, .slice A n cap] 24) := ⟨_, rfl⟩
  obtain ⟨b0, hb0⟩ : ∃ b0, b0 = w.heap.size := ⟨_, rfl⟩
  have hBW : Below w.heap.size w W0 := by rw [hW0]; (repeat (first | with_reducible exact Below.refl _ _ | with_reducible exact below_regrown _ _ _ | with_reducible refine bel_step0 (by assumption) ?_ | with_reducible refine bel_alloc0 ?_ _ | with_reducible refine bel_regrown0 ?_ _ _ | with_reducible refine bel_regrown ?_ (by first | omega | (simp; done) | (simp; omega)) _ _ | with_reducible refine below_drewN ?_ _ | with_reducible refine Below.drew ?_ | with_reducible refine Below.alloc ?_ (by first | omega | (simp; done) | (simp; omega)) _ | with_reducible refine Below.setCell ?_ (by first | omega | (simp; done) | (simp; omega)) _ | with_reducible refine bel_step (by assumption) (by first | omega | (simp; done) | (simp; omega)) ?_ | with_reducible refine bel_grown (by assumption) (by first | omega | (simp; done) | (simp; omega)) (by first | omega | (simp; done) | (simp; omega)) ?_))
  have HBW := Lib.hid hBW
  have HH := Lib.hid (hR.below hBW)
  have hbx : ∀ W, Below W0.heap.size W0 W → W.cell? ⟨b0, 0, none⟩ = some (.int .i64 r) ∧ W.cell? ⟨b0, 1, none⟩ = some (.int .i64 d) ∧ W.cell? ⟨b0, 2, none⟩ = some (.slice A n cap) := fun W hW => by
    have hz : b0 < W0.heap.size := by rw [hW0, hb0]; simp
    refine ⟨(hW.cell (p := ⟨b0, 0, none⟩) hz).trans ?_, (hW.cell (p := ⟨b0, 1, none⟩) hz).trans ?_, (hW.cell (p := ⟨b0, 2, none⟩) hz).trans ?_⟩ <;> rw [hW0, hb0] <;> exact cell_new _ _ _ _ _ rfl
  have HBX := Lib.hid hbx
  have HW0 := Lib.hid hW0
  have HB0 := Lib.hid hb0
  clear hok hL hl hFe CS CI hs hR hBW hbx hW0 hb0
  go_enter Try.func14, Try.ntmps14
  go_wp2_with fail
  rw [← HW0.out, ← HB0.out]
  refine (C_szReview _ _ _ _ HH.out (by omega) (by omega)).mono ?_; rintro e w1 ⟨rfl, B⟩
  rw [HZ.out]
  obtain ⟨p0, p1, p2⟩ := HBX.out _ B
  go_wp2_with fail
  refine (C_toReviewF _ _ _ (HH.out.below B) hn).mono ?_; rintro e w3 ⟨v3, rfl, hv3, hb⟩
  replace B := bel_step0 hb B
  (clear p0 p1 p2; obtain ⟨p0, p1, p2⟩ := HBX.out _ B)
  clear hb
  go_wp2_with fail
  refine (HC.out.2 _ _ hv3.rr).mono ?_; rintro e w5 ⟨v5, rfl, O, hb⟩
  replace B := bel_step0 hb B
  (clear p0 p1 p2; obtain ⟨p0, p1, p2⟩ := HBX.out _ B)
  have hzB5 := B.size
  clear hb hv3
  go_wp2_with fail
  refine (C_toReviewF _ _ _ (HH.out.below B) hn).mono ?_; rintro e w6 ⟨v6, rfl, X, hb⟩
  replace B := bel_step0 hb B
  (clear p0 p1 p2; obtain ⟨p0, p1, p2⟩ := HBX.out _ B)
  have Fw := hb
  have hz56 := hb.size
  clear hb
  replace X := X.wr
  obtain ⟨s6, rfl, X⟩ := X
  simp only at X
  have hx6 := X
  obtain ⟨A6, c6, rfl, _, hxc, hxm⟩ := hx6
  obtain ⟨g, hg⟩ : ∃ g, g = w6.heap.size := ⟨_, rfl⟩
  obtain ⟨w7, hw7⟩ : ∃ w7, w7 = w6.alloc (.cells #[.int .i64 r, .int .i64 d, .slice A6 n c6] 27) := ⟨_, rfl⟩
  have HG := Lib.hid hg
  have HW7 := Lib.hid hw7
  clear hg hw7
  go_wp2_with fail
  rw [← HW7.out, ← HG.out]
  have hb : Below w6.heap.size w6 w7 := by rw [HW7.out]; (repeat (first | with_reducible exact Below.refl _ _ | with_reducible exact below_regrown _ _ _ | with_reducible refine bel_step0 (by assumption) ?_ | with_reducible refine bel_alloc0 ?_ _ | with_reducible refine bel_regrown0 ?_ _ _ | with_reducible refine bel_regrown ?_ (by first | omega | (simp; done) | (simp; omega)) _ _ | with_reducible refine below_drewN ?_ _ | with_reducible refine Below.drew ?_ | with_reducible refine Below.alloc ?_ (by first | omega | (simp; done) | (simp; omega)) _ | with_reducible refine Below.setCell ?_ (by first | omega | (simp; done) | (simp; omega)) _ | with_reducible refine bel_step (by assumption) (by first | omega | (simp; done) | (simp; omega)) ?_ | with_reducible refine bel_grown (by assumption) (by first | omega | (simp; done) | (simp; omega)) (by first | omega | (simp; done) | (simp; omega)) ?_))
  replace B := bel_step0 hb B
  replace Fw := bel_step0 hb Fw
  replace X := X.below hb
  (clear p0 p1 p2; obtain ⟨p0, p1, p2⟩ := HBX.out _ B)
  have hz67 : w6.heap.size ≤ w7.heap.size := hb.size
  have hgl : g < w7.heap.size := by rw [HW7.out, HG.out]; simp
  have hgw : w6.heap.size ≤ g := by rw [HG.out]; exact Nat.le_refl _
  have q0 : w7.cell? ⟨g, 0, none⟩ = some (.int .i64 r) := by rw [HW7.out, HG.out]; exact cell_new _ _ _ _ _ rfl
  have q1 : w7.cell? ⟨g, 1, none⟩ = some (.int .i64 d) := by rw [HW7.out, HG.out]; exact cell_new _ _ _ _ _ rfl
  have q2 : w7.cell? ⟨g, 2, none⟩ = some (.slice A6 n c6) := by rw [HW7.out, HG.out]; exact cell_new _ _ _ _ _ rfl
  clear hb
  refine (HC.out.1 _ _ ⟨_, rfl, X.si⟩).mono ?_; rintro e w8 ⟨v8, rfl, T8, hb⟩
  have hz68 := hb.size
  replace B := bel_step0 hb B
  replace Fw := bel_step0 hb Fw
  replace X := X.below hb
  (clear p0 p1 p2; obtain ⟨p0, p1, p2⟩ := HBX.out _ B; replace q0 := (hb.cell (p := ⟨g, 0, none⟩) hgl).trans q0; replace q1 := (hb.cell (p := ⟨g, 1, none⟩) hgl).trans q1; replace q2 := (hb.cell (p := ⟨g, 2, none⟩) hgl).trans q2; replace hgl := Nat.lt_of_lt_of_le hgl hb.size; clear hb)
  go_wp2_with fail
  refine (C_eqI_same _ _ _ _ _ T8.si (O.below Fw).si).mono ?_; rintro e w9 ⟨rfl, hb⟩
  replace B := bel_step0 hb B
  replace Fw := bel_step0 hb Fw
  replace X := X.below hb
  replace T8 := T8.below hb
  (clear p0 p1 p2; obtain ⟨p0, p1, p2⟩ := HBX.out _ B; replace q0 := (hb.cell (p := ⟨g, 0, none⟩) hgl).trans q0; replace q1 := (hb.cell (p := ⟨g, 1, none⟩) hgl).trans q1; replace q2 := (hb.cell (p := ⟨g, 2, none⟩) hgl).trans q2; replace hgl := Nat.lt_of_lt_of_le hgl hb.size; clear hb)
  have r2 : ∀ W, Below w9.heap.size w9 W → (W.cell? ⟨b0, 0, none⟩ = some (.int .i64 r) ∧ W.cell? ⟨b0, 1, none⟩ = some (.int .i64 d) ∧ W.cell? ⟨b0, 2, none⟩ = some (.slice A n cap)) := fun W hW => HBX.out W (bel_step0 hW B)
  have r3 : ∀ W, Below w9.heap.size w9 W → (W.cell? ⟨g, 0, none⟩ = some (.int .i64 r) ∧ W.cell? ⟨g, 1, none⟩ = some (.int .i64 d) ∧ W.cell? ⟨g, 2, none⟩ = some (.slice A6 n c6)) := fun W hW => ⟨(hW.cell (p := ⟨g, 0, none⟩) hgl).trans q0, (hW.cell (p := ⟨g, 1, none⟩) hgl).trans q1, (hW.cell (p := ⟨g, 2, none⟩) hgl).trans q2⟩
  have HX9 := Lib.hid (show RR w9 (.agg #[.int .i64 r, .int .i64 d, .slice A6 n c6]) ⟨r, d, n, f⟩ from ⟨_, rfl, X.si⟩)
  have HH9 := Lib.hid (HH.out.below B)
  go_upto_region 10 with fail
  go_region_held3 (fun W => Below w9.heap.size w9 W) (((repeat (first | with_reducible exact Below.refl _ _ | with_reducible exact below_regrown _ _ _ | with_reducible refine bel_step0 (by assumption) ?_ | with_reducible refine bel_alloc0 ?_ _ | with_reducible refine bel_regrown0 ?_ _ _ | with_reducible refine bel_regrown ?_ (by first | omega | (simp; done) | (simp; omega)) _ _ | with_reducible refine below_drewN ?_ _ | with_reducible refine Below.drew ?_ | with_reducible refine Below.alloc ?_ (by first | omega | (simp; done) | (simp; omega)) _ | with_reducible refine Below.setCell ?_ (by first | omega | (simp; done) | (simp; omega)) _ | with_reducible refine bel_step (by assumption) (by first | omega | (simp; done) | (simp; omega)) ?_ | with_reducible refine bel_grown (by assumption) (by first | omega | (simp; done) | (simp; omega)) (by first | omega | (simp; done) | (simp; omega)) ?_)))) (first | (go_at_call 18; refine (C_toReview_at w9 _ _ _ HH9.out hn (by (repeat (first | with_reducible exact Below.refl _ _ | with_reducible exact below_regrown _ _ _ | with_reducible refine bel_step0 (by assumption) ?_ | with_reducible refine bel_alloc0 ?_ _ | with_reducible refine bel_regrown0 ?_ _ _ | with_reducible refine bel_regrown ?_ (by first | omega | (simp; done) | (simp; omega)) _ _ | with_reducible refine below_drewN ?_ _ | with_reducible refine Below.drew ?_ | with_reducible refine Below.alloc ?_ (by first | omega | (simp; done) | (simp; omega)) _ | with_reducible refine Below.setCell ?_ (by first | omega | (simp; done) | (simp; omega)) _ | with_reducible refine bel_step (by assumption) (by first | omega | (simp; done) | (simp; omega)) ?_ | with_reducible refine bel_grown (by assumption) (by first | omega | (simp; done) | (simp; omega)) (by first | omega | (simp; done) | (simp; omega)) ?_)))).mono ?_; rintro e w' ⟨v1, rfl, hv1, hb1⟩) | (go_at_call 20; refine (C_eqReview_at w9 _ _ _ _ (HX9.out.below hb1) hv1 (by (repeat (first | with_reducible exact Below.refl _ _ | with_reducible exact below_regrown _ _ _ | with_reducible refine bel_step0 (by assumption) ?_ | with_reducible refine bel_alloc0 ?_ _ | with_reducible refine bel_regrown0 ?_ _ _ | with_reducible refine bel_regrown ?_ (by first | omega | (simp; done) | (simp; omega)) _ _ | with_reducible refine below_drewN ?_ _ | with_reducible refine Below.drew ?_ | with_reducible refine Below.alloc ?_ (by first | omega | (simp; done) | (simp; omega)) _ | with_reducible refine Below.setCell ?_ (by first | omega | (simp; done) | (simp; omega)) _ | with_reducible refine bel_step (by assumption) (by first | omega | (simp; done) | (simp; omega)) ?_ | with_reducible refine bel_grown (by assumption) (by first | omega | (simp; done) | (simp; omega)) (by first | omega | (simp; done) | (simp; omega)) ?_)))).mono ?_; rintro e w' ⟨rfl, hb2⟩))
  have hb := hb2
  clear hb1 hb2 hv1 r2 r3 HX9 HH9
  replace B := bel_step0 hb B
  replace Fw := bel_step0 hb Fw
  replace X := X.below hb
  replace T8 := T8.below hb
  (clear p0 p1 p2; obtain ⟨p0, p1, p2⟩ := HBX.out _ B; replace q0 := (hb.cell (p := ⟨g, 0, none⟩) hgl).trans q0; replace q1 := (hb.cell (p := ⟨g, 1, none⟩) hgl).trans q1; replace q2 := (hb.cell (p := ⟨g, 2, none⟩) hgl).trans q2; replace hgl := Nat.lt_of_lt_of_le hgl hb.size; clear hb)
  go_wp2_with fail
  refine (C_markReview _ ⟨r, d, n, f⟩ _ _ _ ⟨_, rfl, X⟩ hn).mono ?_; rintro e w14 ⟨rfl, hc⟩
  simp only
  replace B := bel_chg hc (by omega) B
  replace Fw := bel_chg hc (by omega) Fw
  replace T8 := T8.chg hc (.inr (by omega))
  clear p0 p1 p2 q0 q1 q2
  have hzc := hc.size
  obtain ⟨p0, p1, p2⟩ := HBX.out _ B
  clear hc X
  go_wp2_with fail
  refine (C_eqI_same _ _ _ _ _ T8.si (O.below Fw).si).mono ?_; rintro e w16 ⟨rfl, hb⟩
  replace B := bel_step0 hb B
  replace Fw := bel_step0 hb Fw
  replace T8 := T8.below hb
  (clear p0 p1 p2; obtain ⟨p0, p1, p2⟩ := HBX.out _ B)
  clear hb
  go_wp2_with fail
  refine (C_markIntS _ _ _ 1 _ _ _ T8 (by omega) (by omega)).mono ?_; rintro e w17 ⟨rfl, T17, hc⟩
  replace B := bel_chg hc (by omega) B
  replace Fw := bel_chg hc (by omega) Fw
  (clear p0 p1 p2; obtain ⟨p0, p1, p2⟩ := HBX.out _ B)
  clear hc T8
  go_wp2_with fail
  refine (C_heldIntS _ _ 1 _ T17.si (by omega) (by omega)).mono ?_; rintro e w18 ⟨rfl, rfl⟩
  go_wp2_with fail
  refine (C_toReview _ _ _ (HH.out.below B) hn).mono ?_; rintro e w19 ⟨v19, rfl, hv19, hb⟩
  replace B := bel_step0 hb B
  replace Fw := bel_step0 hb Fw
  replace T17 := T17.below hb
  (clear p0 p1 p2; obtain ⟨p0, p1, p2⟩ := HBX.out _ B)
  clear hb
  go_wp2_with fail
  refine (HC.out.1 _ _ hv19).mono ?_; rintro e w21 ⟨v21, rfl, O21, hb⟩
  replace B := bel_step0 hb B
  replace Fw := bel_step0 hb Fw
  replace T17 := T17.below hb
  clear hv19 hb p0 p1 p2
  go_wp2_with fail
  refine (C_eqI_same _ _ _ _ _ O21.si (O.below Fw).si).mono ?_; rintro e w22 ⟨rfl, hb⟩
  replace B := bel_step0 hb B
  replace T17 := T17.below hb
  clear hb O21
  go_wp2_with fail
  refine (C_heldIntS _ _ 1 _ T17.si (by omega) (by omega)).mono ?_; rintro e w23 ⟨rfl, rfl⟩
  go_wp2_with fail
  go_ret
  exact ⟨rfl, HBW.out.trans (B.mono HBW.out.size)⟩

set_option maxRecDepth 100000 in
theorem lifted (os : Os) (started : os.Started) (H : Type) (enc : TypeId × Value → H) :
    ReturnsInHanded {} Try.checked os 14 .any (Rows.fnExactCouldBecomeSpec.pre6 enc Try.prog Try.f14 Rows.fnExactCouldBecomeRow.domain false) (Rows.fnExactCouldBecomeSpec.post enc Try.prog Try.f14 false true false false) := by
  refine returnsInHanded_of_change (C := Try.checked) own started (by kernel_rfl) Try.func14
    (ChangeSpec.witness6 (enc := enc) (C := Try.checked) false ⟨#[], #[.agg #[.int .i64 0, .int .i64 0, .slice none 0 0], .int .i64 0], []⟩ 8 (by kernel_rfl) (by kernel_rfl) (by kernel_rfl) (by kernel_rfl)) ?_
  intro W base args ds gs before hval0 hW hcnd _
  have hval : ∀ (j : Nat) t v, Try.f14.params[j]? = some t → args[j]? = some v → Value.okWide Try.prog W .any base t v := hval0
  have hW' := hW
  obtain ⟨p, q, hA0, hV, rfl, hfz, hnd⟩ := hW
  have hA : DataW.TrodAll enc Try.prog W 0 (fun _ => true) true Try.f14.params.toList args.toList ds p := hA0
  rw [Try.params14] at hA hval
  obtain ⟨v0, vs0, d0, ds0, p0, q0, hargs, rfl, rfl, h0, r0⟩ := trodAll_cons hA
  obtain ⟨v1, vs1, d1, ds1, p1, q1, rfl, rfl, rfl, h1, r1⟩ := trodAll_cons r0
  obtain ⟨rfl, rfl, rfl⟩ := trodAll_nil r1
  obtain rfl : args = #[v0, v1] := by cases args; simp_all
  obtain ⟨rfl, rfl⟩ := trodVars_none hV
  have k0 := h0
  have lt0 : ∀ x ∈ p0, x.block < W.heap.size := by obtain ⟨m, hm⟩ := k0; exact DataW.trod_lt m _ _ _ hm
  have k1 := h1
  have lt1 : ∀ x ∈ p1, x.block < W.heap.size := by obtain ⟨m, hm⟩ := k1; exact DataW.trod_lt m _ _ _ hm
  obtain ⟨n0, b0⟩ := view_lawsReview (hval 0 24 v0 rfl rfl) h0
  obtain ⟨n1, rfl, _, _, b1⟩ := open_int Try.underlying3 (hval 1 3 v1 rfl rfl) h1
  clear hA0 hval0
  refine (walk v0 n0 n1 W b0 (i64_of_wf b1)).mono fun e W' ⟨he, bel⟩ => ?_
  subst he
  exact ⟨_, rfl, _, _, _, [], _, [], hW', trodAll_mk1 (shut_bool Try.underlying4 _), (trodAll_cons_mk (Below.trod laidOut (by kernel_rfl) (of_decide_eq_true (by kernel_rfl)) k0 bel lt0) (trodAll_cons_mk (Below.trod laidOut (by kernel_rfl) (of_decide_eq_true (by kernel_rfl)) k1 bel lt1) trodAll_mk0)), rfl, bel.frame _, fun h => by cases h⟩

theorem proved : Rows.FnExactCouldBecomeSaid :=
  OpenClaim.holds_of_wide 14 Try.f14 rfl rfl rfl rfl rfl rfl rfl ⟨rfl, rfl, rfl, rfl, rfl⟩ rfl rfl rfl rfl rfl (by kernel_rfl) Try.func14 (by kernel_rfl)
    (of_decide_eq_true (by kernel_rfl)) (by unfold Func.isWrapper; first | (rw [if_pos (by decide +kernel)]; kernel_rfl) | (rw [if_neg (by decide +kernel)]; exact ⟨rfl, rfl⟩))
    (fun os started H enc _ => lifted os started H enc)
#print axioms proved
end Go.Proofs.Ytcdffikambbleaa.lawFnExactCouldBecome
