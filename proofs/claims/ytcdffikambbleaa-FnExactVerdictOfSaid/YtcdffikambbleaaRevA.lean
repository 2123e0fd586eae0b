/- What the functions on one review compute, one contract for each. No condition but those stated. -/
import Derived.Test.YtcdffikambbleaaIntsC
namespace Go.Proofs.Ytcdffikambbleaa
set_option linter.unusedVariables false
set_option linter.unusedSimpArgs false
open Go.RowKit Go.Sort

structure Rv where
  rid : Int
  due : Int
  n : Nat
  f : Nat → Int

/-- The value v reads as the review x. -/
def RR (w : World) (v : Value) (x : Rv) : Prop := ∃ sv, v = .agg #[.int .i64 x.rid, .int .i64 x.due, sv] ∧ SI w sv x.n x.f
theorem RR.below {w w' : World} {v : Value} {x : Rv} (hb : Below w.heap.size w w') (h : RR w v x) : RR w' v x :=
  let ⟨sv, e, hs⟩ := h
  ⟨sv, e, hs.below hb⟩
/-- The value v is a slice of the reviews R. -/
def RRs (w : World) (v : Value) (n : Nat) (R : Nat → Rv) : Prop :=
  ∃ A cap, v = .slice A n cap ∧ (0 < n → ∃ b off, A = some ⟨b, off, none⟩ ∧ b < w.heap.size ∧ ∀ j, j < n → ∃ sv, SI w sv (R j).n (R j).f ∧
    w.cell? ⟨b, off + j * 3, none⟩ = some (.int .i64 (R j).rid) ∧ w.cell? ⟨b, off + j * 3 + 1, none⟩ = some (.int .i64 (R j).due) ∧ w.cell? ⟨b, off + j * 3 + 2, none⟩ = some sv) ∧ n ≤ cap ∧ cap ≤ 9223372036854775807
theorem RRs.below {w w' : World} {v : Value} {n : Nat} {R : Nat → Rv} (hb : Below w.heap.size w w') (h : RRs w v n R) : RRs w' v n R := by
  obtain ⟨A, cap, e, hr, h2⟩ := h
  refine ⟨A, cap, e, fun h0 => ?_, h2⟩
  obtain ⟨b, off, ea, hl, hc⟩ := hr h0
  refine ⟨b, off, ea, Nat.lt_of_lt_of_le hl hb.size, fun j hj => ?_⟩
  obtain ⟨sv, hs, h0, h1, h2⟩ := hc j hj
  exact ⟨sv, hs.below hb, (hb.cell (p := ⟨b, off + j * 3, none⟩) hl).trans h0, (hb.cell (p := ⟨b, off + j * 3 + 1, none⟩) hl).trans h1, (hb.cell (p := ⟨b, off + j * 3 + 2, none⟩) hl).trans h2⟩



theorem szI_neg {left : Int} {n : Nat} (h : szI left n < 0) : szI left n = -1 := by unfold szI at *; split at h <;> simp_all
theorem C_szReview (v : Value) (x : Rv) (left : Int) (w : World) (h : RR w v x) (h0 : 0 ≤ left) (h1 : left ≤ 1048576) :
    Calls Try.prog 16 #[v, .int .i64 left] w fun e w' => e = .returned (.int .i64 (szI left x.n)) ∧ Below w.heap.size w w' := by
  obtain ⟨r, d, n, f⟩ := x; obtain ⟨sv, rfl, hs⟩ := h; have hs0 := hs; obtain ⟨A, cap, rfl, hsr, hsc, hsm⟩ := hs0; simp only at hsc hsm; clear hsr
  go_enter Try.func16, Try.ntmps16
  go_wp2_with (go_at_call 69; refine (C_szIntS _ _ _ _ _ (by first | assumption | (refine SI.below ?_ (by assumption); (repeat (first | with_reducible exact Below.refl _ _ | with_reducible refine below_drewN ?_ _ | with_reducible refine Below.drew ?_ | with_reducible refine Below.alloc ?_ (by first | omega | (simp; done) | (simp; omega)) _ | with_reducible refine Below.setCell ?_ (by first | omega | (simp; done) | (simp; omega)) _ | with_reducible refine bel_step (by assumption) (by first | omega | (simp; done) | (simp; omega)) ?_ | with_reducible refine bel_grown (by assumption) (by first | omega | (simp; done) | (simp; omega)) (by first | omega | (simp; done) | (simp; omega)) ?_)); done) | (refine RR.below ?_ (by assumption); (repeat (first | with_reducible exact Below.refl _ _ | with_reducible refine below_drewN ?_ _ | with_reducible refine Below.drew ?_ | with_reducible refine Below.alloc ?_ (by first | omega | (simp; done) | (simp; omega)) _ | with_reducible refine Below.setCell ?_ (by first | omega | (simp; done) | (simp; omega)) _ | with_reducible refine bel_step (by assumption) (by first | omega | (simp; done) | (simp; omega)) ?_ | with_reducible refine bel_grown (by assumption) (by first | omega | (simp; done) | (simp; omega)) (by first | omega | (simp; done) | (simp; omega)) ?_)); done) | (refine RRs.below ?_ (by assumption); (repeat (first | with_reducible exact Below.refl _ _ | with_reducible refine below_drewN ?_ _ | with_reducible refine Below.drew ?_ | with_reducible refine Below.alloc ?_ (by first | omega | (simp; done) | (simp; omega)) _ | with_reducible refine Below.setCell ?_ (by first | omega | (simp; done) | (simp; omega)) _ | with_reducible refine bel_step (by assumption) (by first | omega | (simp; done) | (simp; omega)) ?_ | with_reducible refine bel_grown (by assumption) (by first | omega | (simp; done) | (simp; omega)) (by first | omega | (simp; done) | (simp; omega)) ?_)); done)) (by assumption) (by assumption)).mono ?_; rintro e w' ⟨rfl, rfl⟩)
  all_goals (go_ret; exact ⟨ret_int (by first | rfl | exact (szI_neg (by assumption)).symm), by (repeat (first | with_reducible exact Below.refl _ _ | with_reducible refine below_drewN ?_ _ | with_reducible refine Below.drew ?_ | with_reducible refine Below.alloc ?_ (by first | omega | (simp; done) | (simp; omega)) _ | with_reducible refine Below.setCell ?_ (by first | omega | (simp; done) | (simp; omega)) _ | with_reducible refine bel_step (by assumption) (by first | omega | (simp; done) | (simp; omega)) ?_ | with_reducible refine bel_grown (by assumption) (by first | omega | (simp; done) | (simp; omega)) (by first | omega | (simp; done) | (simp; omega)) ?_))⟩)



/-- The value v is a review whose votes lie in a row of their own. -/
def FR (lo : Nat) (w : World) (v : Value) (x : Rv) : Prop := ∃ sv, v = .agg #[.int .i64 x.rid, .int .i64 x.due, sv] ∧ FI lo w sv x.n x.f
theorem FR.rr {lo : Nat} {w : World} {v : Value} {x : Rv} (h : FR lo w v x) : RR w v x :=
  let ⟨sv, e, hs⟩ := h
  ⟨sv, e, hs.si⟩
theorem C_toReviewF (v : Value) (x : Rv) (w : World) (h : RR w v x) (hn : x.n ≤ 1048576) :
    Calls Try.prog 18 #[v] w fun e w' => ∃ v', e = .returned v' ∧ FR w.heap.size w' v' x ∧ Below w.heap.size w w' := by
  obtain ⟨r, d, n, f⟩ := x; obtain ⟨sv, rfl, hs⟩ := h; have hs0 := hs; obtain ⟨A, cap, rfl, hsr, hsc, hsm⟩ := hs0; simp only at hsc hsm; clear hsr
  go_enter Try.func18, Try.ntmps18
  go_wp2_with ((go_at_call 71; refine (C_toIntS _ _ _ _ (by first | assumption | (refine SI.below ?_ (by assumption); (repeat (first | with_reducible exact Below.refl _ _ | with_reducible refine below_drewN ?_ _ | with_reducible refine Below.drew ?_ | with_reducible refine Below.alloc ?_ (by first | omega | (simp; done) | (simp; omega)) _ | with_reducible refine Below.setCell ?_ (by first | omega | (simp; done) | (simp; omega)) _ | with_reducible refine bel_step (by assumption) (by first | omega | (simp; done) | (simp; omega)) ?_ | with_reducible refine bel_grown (by assumption) (by first | omega | (simp; done) | (simp; omega)) (by first | omega | (simp; done) | (simp; omega)) ?_)); done) | (refine RR.below ?_ (by assumption); (repeat (first | with_reducible exact Below.refl _ _ | with_reducible refine below_drewN ?_ _ | with_reducible refine Below.drew ?_ | with_reducible refine Below.alloc ?_ (by first | omega | (simp; done) | (simp; omega)) _ | with_reducible refine Below.setCell ?_ (by first | omega | (simp; done) | (simp; omega)) _ | with_reducible refine bel_step (by assumption) (by first | omega | (simp; done) | (simp; omega)) ?_ | with_reducible refine bel_grown (by assumption) (by first | omega | (simp; done) | (simp; omega)) (by first | omega | (simp; done) | (simp; omega)) ?_)); done) | (refine RRs.below ?_ (by assumption); (repeat (first | with_reducible exact Below.refl _ _ | with_reducible refine below_drewN ?_ _ | with_reducible refine Below.drew ?_ | with_reducible refine Below.alloc ?_ (by first | omega | (simp; done) | (simp; omega)) _ | with_reducible refine Below.setCell ?_ (by first | omega | (simp; done) | (simp; omega)) _ | with_reducible refine bel_step (by assumption) (by first | omega | (simp; done) | (simp; omega)) ?_ | with_reducible refine bel_grown (by assumption) (by first | omega | (simp; done) | (simp; omega)) (by first | omega | (simp; done) | (simp; omega)) ?_)); done)) (by assumption)).mono ?_; rintro e w' ⟨v', rfl, hv', hb'⟩); obtain ⟨hc', hf'⟩ := bcell hb'; have hz' := bsize hb'; (try simp only [World.size_alloc, World.size_drew, World.size_setCell] at hz'); (try have hq0 : w.heap.size < w'.heap.size := by omega); (try have hq1 : w.heap.size + 1 < w'.heap.size := by omega); (try have hq2 : w.heap.size + 1 + 1 < w'.heap.size := by omega); (try have hq3 : w.heap.size + 1 + 1 + 1 < w'.heap.size := by omega); have hvs := hv'; simp only [World.size_alloc] at hvs; obtain ⟨g, rfl, hg⟩ := hv')
  (go_light; refine bodyPost_ret (by simp (maxDischargeDepth := 3) [results, Try.results18, go_sem, *]; try rfl) rfl ?_)
  refine ⟨_, rfl, ⟨_, rfl, FI.mono (lo := w.heap.size + 1 + 1 + 1) (by omega) ?_⟩, by (repeat (first | with_reducible exact Below.refl _ _ | with_reducible refine below_drewN ?_ _ | with_reducible refine Below.drew ?_ | with_reducible refine Below.alloc ?_ (by first | omega | (simp; done) | (simp; omega)) _ | with_reducible refine Below.setCell ?_ (by first | omega | (simp; done) | (simp; omega)) _ | with_reducible refine bel_step (by assumption) (by first | omega | (simp; done) | (simp; omega)) ?_ | with_reducible refine bel_grown (by assumption) (by first | omega | (simp; done) | (simp; omega)) (by first | omega | (simp; done) | (simp; omega)) ?_))⟩
  repeat (first | assumption | refine FI.setCell ?_ (by first | omega | (simp; done) | (simp; omega)) _)
theorem C_toReview (v : Value) (x : Rv) (w : World) (h : RR w v x) (hn : x.n ≤ 1048576) :
    Calls Try.prog 18 #[v] w fun e w' => ∃ v', e = .returned v' ∧ RR w' v' x ∧ Below w.heap.size w w' :=
  (C_toReviewF v x w h hn).mono fun e w' hh => let ⟨v', he, hr, hb⟩ := hh; ⟨v', he, hr.rr, hb⟩


def Rv.eqB (x y : Rv) : Bool := x.rid == y.rid && x.due == y.due && eqI x.n y.n x.f y.f

theorem C_eqReview (v v' : Value) (x y : Rv) (w : World) (h : RR w v x) (h' : RR w v' y) :
    Calls Try.prog 20 #[v, v'] w fun e w' => e = .returned (.bool (x.eqB y)) ∧ Below w.heap.size w w' := by
  obtain ⟨r, d, n, f⟩ := x; obtain ⟨sv, rfl, hs⟩ := h; have hs0 := hs; obtain ⟨A, cap, rfl, hsr, hsc, hsm⟩ := hs0; simp only at hsc hsm; clear hsr
  obtain ⟨r', d', n', f'⟩ := y; obtain ⟨sv', rfl, hs'⟩ := h'; have hs0' := hs'; obtain ⟨A', cap', rfl, hsr', hsc', hsm'⟩ := hs0'; simp only at hsc' hsm'; clear hsr'
  go_enter Try.func20, Try.ntmps20
  go_wp2_with (go_at_call 37; refine (C_eqIntS _ _ _ _ _ _ _ (by first | assumption | (refine SI.below ?_ (by assumption); (repeat (first | with_reducible exact Below.refl _ _ | with_reducible refine below_drewN ?_ _ | with_reducible refine Below.drew ?_ | with_reducible refine Below.alloc ?_ (by first | omega | (simp; done) | (simp; omega)) _ | with_reducible refine Below.setCell ?_ (by first | omega | (simp; done) | (simp; omega)) _ | with_reducible refine bel_step (by assumption) (by first | omega | (simp; done) | (simp; omega)) ?_ | with_reducible refine bel_grown (by assumption) (by first | omega | (simp; done) | (simp; omega)) (by first | omega | (simp; done) | (simp; omega)) ?_)); done) | (refine RR.below ?_ (by assumption); (repeat (first | with_reducible exact Below.refl _ _ | with_reducible refine below_drewN ?_ _ | with_reducible refine Below.drew ?_ | with_reducible refine Below.alloc ?_ (by first | omega | (simp; done) | (simp; omega)) _ | with_reducible refine Below.setCell ?_ (by first | omega | (simp; done) | (simp; omega)) _ | with_reducible refine bel_step (by assumption) (by first | omega | (simp; done) | (simp; omega)) ?_ | with_reducible refine bel_grown (by assumption) (by first | omega | (simp; done) | (simp; omega)) (by first | omega | (simp; done) | (simp; omega)) ?_)); done) | (refine RRs.below ?_ (by assumption); (repeat (first | with_reducible exact Below.refl _ _ | with_reducible refine below_drewN ?_ _ | with_reducible refine Below.drew ?_ | with_reducible refine Below.alloc ?_ (by first | omega | (simp; done) | (simp; omega)) _ | with_reducible refine Below.setCell ?_ (by first | omega | (simp; done) | (simp; omega)) _ | with_reducible refine bel_step (by assumption) (by first | omega | (simp; done) | (simp; omega)) ?_ | with_reducible refine bel_grown (by assumption) (by first | omega | (simp; done) | (simp; omega)) (by first | omega | (simp; done) | (simp; omega)) ?_)); done)) (by first | assumption | (refine SI.below ?_ (by assumption); (repeat (first | with_reducible exact Below.refl _ _ | with_reducible refine below_drewN ?_ _ | with_reducible refine Below.drew ?_ | with_reducible refine Below.alloc ?_ (by first | omega | (simp; done) | (simp; omega)) _ | with_reducible refine Below.setCell ?_ (by first | omega | (simp; done) | (simp; omega)) _ | with_reducible refine bel_step (by assumption) (by first | omega | (simp; done) | (simp; omega)) ?_ | with_reducible refine bel_grown (by assumption) (by first | omega | (simp; done) | (simp; omega)) (by first | omega | (simp; done) | (simp; omega)) ?_)); done) | (refine RR.below ?_ (by assumption); (repeat (first | with_reducible exact Below.refl _ _ | with_reducible refine below_drewN ?_ _ | with_reducible refine Below.drew ?_ | with_reducible refine Below.alloc ?_ (by first | omega | (simp; done) | (simp; omega)) _ | with_reducible refine Below.setCell ?_ (by first | omega | (simp; done) | (simp; omega)) _ | with_reducible refine bel_step (by assumption) (by first | omega | (simp; done) | (simp; omega)) ?_ | with_reducible refine bel_grown (by assumption) (by first | omega | (simp; done) | (simp; omega)) (by first | omega | (simp; done) | (simp; omega)) ?_)); done) | (refine RRs.below ?_ (by assumption); (repeat (first | with_reducible exact Below.refl _ _ | with_reducible refine below_drewN ?_ _ | with_reducible refine Below.drew ?_ | with_reducible refine Below.alloc ?_ (by first | omega | (simp; done) | (simp; omega)) _ | with_reducible refine Below.setCell ?_ (by first | omega | (simp; done) | (simp; omega)) _ | with_reducible refine bel_step (by assumption) (by first | omega | (simp; done) | (simp; omega)) ?_ | with_reducible refine bel_grown (by assumption) (by first | omega | (simp; done) | (simp; omega)) (by first | omega | (simp; done) | (simp; omega)) ?_)); done))).mono ?_; rintro e w' ⟨rfl, hb'⟩)
  all_goals (go_ret; refine ⟨ret_bool ?_, by (repeat (first | with_reducible exact Below.refl _ _ | with_reducible refine below_drewN ?_ _ | with_reducible refine Below.drew ?_ | with_reducible refine Below.alloc ?_ (by first | omega | (simp; done) | (simp; omega)) _ | with_reducible refine Below.setCell ?_ (by first | omega | (simp; done) | (simp; omega)) _ | with_reducible refine bel_step (by assumption) (by first | omega | (simp; done) | (simp; omega)) ?_ | with_reducible refine bel_grown (by assumption) (by first | omega | (simp; done) | (simp; omega)) (by first | omega | (simp; done) | (simp; omega)) ?_))⟩)
  all_goals (go_light; unfold Rv.eqB; simp_all)


def Rv.ok (x : Rv) : Bool := within x.rid 1 999 && within x.due 0 20000 && decide ((x.n : Int) ≤ 5) && allB x.n fun j => within (x.f j) 1 3
theorem C_isRecordId (n : Int) (w : World) :
    Calls Try.prog 72 #[.int .i64 n] w fun e w' => e = .returned (.bool (within n 1 999)) ∧ w = w' := by
  go_enter Try.func72, Try.ntmps72
  go_wp2_with (go_at_call 76; refine (C_within _ _ _ _).mono ?_; rintro e w' ⟨rfl, rfl⟩)
  go_ret
  exact ⟨rfl, rfl⟩

theorem C_l17Record (n : Int) (w : World) :
    Calls Try.prog 108 #[.int .i64 n] w fun e w' => e = .returned (.bool (within n 1 999)) ∧ w = w' := by
  go_enter Try.func108, Try.ntmps108
  go_wp2_with (go_at_call 87; refine (C_l1In _ _ _ _).mono ?_; rintro e w' ⟨rfl, rfl⟩)
  go_ret
  exact ⟨rfl, rfl⟩


theorem C_IsReviewI (v : Value) (x : Rv) (w : World) (h : RR w v x) :
    Calls Try.prog 19 #[v] w fun e w' => e = .returned (.bool x.ok) ∧ Below w.heap.size w w' := by
  obtain ⟨r, d, n, f⟩ := x; obtain ⟨sv, rfl, hs⟩ := h; have hs0 := hs; obtain ⟨A, cap, rfl, hsr, hsc, hsm⟩ := hs0; simp only at hsc hsm; clear hsr
  go_enter Try.func19, Try.ntmps19
  go_wp2_with (first | (go_at_call 72; refine (C_isRecordId _ _).mono ?_; rintro e w' ⟨rfl, rfl⟩) | (go_at_call 73; refine (C_isDay _ _).mono ?_; rintro e w' ⟨rfl, rfl⟩) | (go_at_call 74; refine (C_ContainsFunc_R _ _ _ _ (by first | assumption | (refine SI.below ?_ (by assumption); (repeat (first | with_reducible exact Below.refl _ _ | with_reducible refine below_drewN ?_ _ | with_reducible refine Below.drew ?_ | with_reducible refine Below.alloc ?_ (by first | omega | (simp; done) | (simp; omega)) _ | with_reducible refine Below.setCell ?_ (by first | omega | (simp; done) | (simp; omega)) _ | with_reducible refine bel_step (by assumption) (by first | omega | (simp; done) | (simp; omega)) ?_ | with_reducible refine bel_grown (by assumption) (by first | omega | (simp; done) | (simp; omega)) (by first | omega | (simp; done) | (simp; omega)) ?_)); done) | (refine RR.below ?_ (by assumption); (repeat (first | with_reducible exact Below.refl _ _ | with_reducible refine below_drewN ?_ _ | with_reducible refine Below.drew ?_ | with_reducible refine Below.alloc ?_ (by first | omega | (simp; done) | (simp; omega)) _ | with_reducible refine Below.setCell ?_ (by first | omega | (simp; done) | (simp; omega)) _ | with_reducible refine bel_step (by assumption) (by first | omega | (simp; done) | (simp; omega)) ?_ | with_reducible refine bel_grown (by assumption) (by first | omega | (simp; done) | (simp; omega)) (by first | omega | (simp; done) | (simp; omega)) ?_)); done) | (refine RRs.below ?_ (by assumption); (repeat (first | with_reducible exact Below.refl _ _ | with_reducible refine below_drewN ?_ _ | with_reducible refine Below.drew ?_ | with_reducible refine Below.alloc ?_ (by first | omega | (simp; done) | (simp; omega)) _ | with_reducible refine Below.setCell ?_ (by first | omega | (simp; done) | (simp; omega)) _ | with_reducible refine bel_step (by assumption) (by first | omega | (simp; done) | (simp; omega)) ?_ | with_reducible refine bel_grown (by assumption) (by first | omega | (simp; done) | (simp; omega)) (by first | omega | (simp; done) | (simp; omega)) ?_)); done))).mono ?_; rintro e w' ⟨rfl, rfl⟩))
  all_goals (go_ret; refine ⟨ret_bool ?_, by (repeat (first | with_reducible exact Below.refl _ _ | with_reducible refine below_drewN ?_ _ | with_reducible refine Below.drew ?_ | with_reducible refine Below.alloc ?_ (by first | omega | (simp; done) | (simp; omega)) _ | with_reducible refine Below.setCell ?_ (by first | omega | (simp; done) | (simp; omega)) _ | with_reducible refine bel_step (by assumption) (by first | omega | (simp; done) | (simp; omega)) ?_ | with_reducible refine bel_grown (by assumption) (by first | omega | (simp; done) | (simp; omega)) (by first | omega | (simp; done) | (simp; omega)) ?_))⟩)
  all_goals (go_light; unfold Rv.ok; first | (simp_all [anyB_eq]; done) | (simp_all [anyB_eq]; intros; omega))

theorem C_l23One (v : Value) (x : Rv) (w : World) (h : RR w v x) :
    Calls Try.prog 70 #[v] w fun e w' => e = .returned (.bool x.ok) ∧ Below w.heap.size w w' := by
  obtain ⟨r, d, n, f⟩ := x; obtain ⟨sv, rfl, hs⟩ := h; have hs0 := hs; obtain ⟨A, cap, rfl, hsr, hsc, hsm⟩ := hs0; simp only at hsc hsm; clear hsr
  have HS := Lib.hid hs
  obtain ⟨A', cap', hA, hr, _, _⟩ := hs
  cases hA
  have HR := Lib.hid hr; clear hr
  go_enter Try.func70, Try.ntmps70
  go_wp2
  go_loop [3] (fun i => ∃ k : Nat, k ≤ n ∧ i = .int .i64 k ∧ allB k (fun j => within (f j) 1 3) = true) (fun i => n - (intOf i).toNat)
  case atStart => exact ⟨0, Nat.zero_le _, rfl, rfl⟩
  case round =>
    obtain ⟨k, hk, rfl, ha⟩ := hrel
    have HA := Lib.hid ha; clear ha
    by_cases hlt : k < n
    · obtain ⟨b, off, rfl, hb, hcell⟩ := HR.out (by omega)
      have hck := hcell k hlt
      clear hcell
      go_wp2_with (go_at_call 87; refine (C_l1In _ _ _ _).mono ?_; rintro e w' ⟨rfl, rfl⟩)
      all_goals first
        | (go_ret; exact ⟨ret_bool (by unfold Rv.ok; rw [allB_of_not hlt (by (first | (simp [*]; done) | (go_light; simp_all; done) | (go_light; simp_all; omega)))]; simp), by (repeat (first | with_reducible exact Below.refl _ _ | with_reducible refine below_drewN ?_ _ | with_reducible refine Below.drew ?_ | with_reducible refine Below.alloc ?_ (by first | omega | (simp; done) | (simp; omega)) _ | with_reducible refine Below.setCell ?_ (by first | omega | (simp; done) | (simp; omega)) _ | with_reducible refine bel_step (by assumption) (by first | omega | (simp; done) | (simp; omega)) ?_ | with_reducible refine bel_grown (by assumption) (by first | omega | (simp; done) | (simp; omega)) (by first | omega | (simp; done) | (simp; omega)) ?_))⟩)
        | (go_round; (case rel => exact ⟨k + 1, by omega, by go_num, allB_next HA.out (by (first | (simp [*]; done) | (go_light; simp_all; done) | (go_light; simp_all; omega)))⟩); (case measure => simp [intOf]; omega))
    · go_wp2_with (first | (go_at_call 108; refine (C_l17Record _ _).mono ?_; rintro e w' ⟨rfl, rfl⟩) | (go_at_call 100; refine (C_l2Day _ _).mono ?_; rintro e w' ⟨rfl, rfl⟩))
      all_goals (go_ret; obtain rfl : k = n := (by omega); refine ⟨ret_bool ?_, by (repeat (first | with_reducible exact Below.refl _ _ | with_reducible refine below_drewN ?_ _ | with_reducible refine Below.drew ?_ | with_reducible refine Below.alloc ?_ (by first | omega | (simp; done) | (simp; omega)) _ | with_reducible refine Below.setCell ?_ (by first | omega | (simp; done) | (simp; omega)) _ | with_reducible refine bel_step (by assumption) (by first | omega | (simp; done) | (simp; omega)) ?_ | with_reducible refine bel_grown (by assumption) (by first | omega | (simp; done) | (simp; omega)) (by first | omega | (simp; done) | (simp; omega)) ?_))⟩)
      all_goals (have ha := HA.out; go_light; unfold Rv.ok; simp_all)

theorem C_IsReviewS (v : Value) (x : Rv) (w : World) (h : RR w v x) :
    Calls Try.prog 17 #[v] w fun e w' => e = .returned (.bool x.ok) ∧ Below w.heap.size w w' := by
  obtain ⟨r, d, n, f⟩ := x; obtain ⟨sv, rfl, hs⟩ := h; have hs0 := hs; obtain ⟨A, cap, rfl, hsr, hsc, hsm⟩ := hs0; simp only at hsc hsm; clear hsr
  have hR : RR w (.agg #[.int .i64 r, .int .i64 d, .slice A n cap]) ⟨r, d, n, f⟩ := ⟨_, rfl, hs⟩
  go_enter Try.func17, Try.ntmps17
  go_wp2_with (go_at_call 70; refine (C_l23One _ _ _ (by first | assumption | (refine SI.below ?_ (by assumption); (repeat (first | with_reducible exact Below.refl _ _ | with_reducible refine below_drewN ?_ _ | with_reducible refine Below.drew ?_ | with_reducible refine Below.alloc ?_ (by first | omega | (simp; done) | (simp; omega)) _ | with_reducible refine Below.setCell ?_ (by first | omega | (simp; done) | (simp; omega)) _ | with_reducible refine bel_step (by assumption) (by first | omega | (simp; done) | (simp; omega)) ?_ | with_reducible refine bel_grown (by assumption) (by first | omega | (simp; done) | (simp; omega)) (by first | omega | (simp; done) | (simp; omega)) ?_)); done) | (refine RR.below ?_ (by assumption); (repeat (first | with_reducible exact Below.refl _ _ | with_reducible refine below_drewN ?_ _ | with_reducible refine Below.drew ?_ | with_reducible refine Below.alloc ?_ (by first | omega | (simp; done) | (simp; omega)) _ | with_reducible refine Below.setCell ?_ (by first | omega | (simp; done) | (simp; omega)) _ | with_reducible refine bel_step (by assumption) (by first | omega | (simp; done) | (simp; omega)) ?_ | with_reducible refine bel_grown (by assumption) (by first | omega | (simp; done) | (simp; omega)) (by first | omega | (simp; done) | (simp; omega)) ?_)); done) | (refine RRs.below ?_ (by assumption); (repeat (first | with_reducible exact Below.refl _ _ | with_reducible refine below_drewN ?_ _ | with_reducible refine Below.drew ?_ | with_reducible refine Below.alloc ?_ (by first | omega | (simp; done) | (simp; omega)) _ | with_reducible refine Below.setCell ?_ (by first | omega | (simp; done) | (simp; omega)) _ | with_reducible refine bel_step (by assumption) (by first | omega | (simp; done) | (simp; omega)) ?_ | with_reducible refine bel_grown (by assumption) (by first | omega | (simp; done) | (simp; omega)) (by first | omega | (simp; done) | (simp; omega)) ?_)); done))).mono ?_; rintro e w' ⟨rfl, hb'⟩)
  go_ret
  exact ⟨rfl, by (repeat (first | with_reducible exact Below.refl _ _ | with_reducible refine below_drewN ?_ _ | with_reducible refine Below.drew ?_ | with_reducible refine Below.alloc ?_ (by first | omega | (simp; done) | (simp; omega)) _ | with_reducible refine Below.setCell ?_ (by first | omega | (simp; done) | (simp; omega)) _ | with_reducible refine bel_step (by assumption) (by first | omega | (simp; done) | (simp; omega)) ?_ | with_reducible refine bel_grown (by assumption) (by first | omega | (simp; done) | (simp; omega)) (by first | omega | (simp; done) | (simp; omega)) ?_))⟩

end Go.Proofs.Ytcdffikambbleaa
