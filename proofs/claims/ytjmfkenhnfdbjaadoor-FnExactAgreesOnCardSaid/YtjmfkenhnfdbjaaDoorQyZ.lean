/- Records of the laws, one by one and in lists: copies, comparisons, marks. No condition but those stated. -/
import Derived.Test.YtjmfkenhnfdbjaaDoorQyY
namespace Go.Proofs.YtjmfkenhnfdbjaaDoor
set_option linter.unusedVariables false
set_option linter.unusedSimpArgs false
open Go.RowKit Go.Sort
theorem FE.setCell {lo hi : Nat} {w : World} {v : Value} {R : Rc} (h : FE lo hi w v R) {b i : Nat} (hb : b < lo) (u : Value) : FE lo hi (w.setCell ⟨b, i, none⟩ u) v R := by
  obtain ⟨g, e, h1, h2, hn, hr⟩ := h
  exact ⟨g, e, h1, h2, hn, hr.setOther (a := ⟨b, i, none⟩) (by show g ≠ b; omega) u⟩
/-- The slice is the records. -/
def RcAt (w : World) (b o : Nat) (R : Rc) (sv : Value) : Prop :=
  EvS w sv R ∧ w.cell? ⟨b, o, none⟩ = some (.int .i64 R.id) ∧ w.cell? ⟨b, o + 1, none⟩ = some (.int .i64 R.ser) ∧ w.cell? ⟨b, o + 2, none⟩ = some (.int .i64 R.made) ∧ w.cell? ⟨b, o + 3, none⟩ = some sv
theorem RcAt.below {w w' : World} {b o : Nat} {R : Rc} {sv : Value} (hb : Below w.heap.size w w') (hl : b < w.heap.size) (h : RcAt w b o R sv) : RcAt w' b o R sv :=
  ⟨h.1.below hb, (hb.cell (p := ⟨b, o, none⟩) hl).trans h.2.1, (hb.cell (p := ⟨b, o + 1, none⟩) hl).trans h.2.2.1, (hb.cell (p := ⟨b, o + 2, none⟩) hl).trans h.2.2.2.1, (hb.cell (p := ⟨b, o + 3, none⟩) hl).trans h.2.2.2.2⟩
def RcR (w : World) (A : Option Addr) (n : Nat) (R : Nat → Rc) : Prop :=
  0 < n → ∃ b off, A = some ⟨b, off, none⟩ ∧ b < w.heap.size ∧ ∀ j, j < n → ∃ sv, RcAt w b (off + j * 4) (R j) sv
theorem RcR.below {w w' : World} {A : Option Addr} {n : Nat} {R : Nat → Rc} (hb : Below w.heap.size w w') (h : RcR w A n R) : RcR w' A n R := fun h0 => by
  obtain ⟨b, off, e, hl, hc⟩ := h h0
  refine ⟨b, off, e, Nat.lt_of_lt_of_le hl hb.size, fun j hj => ?_⟩
  obtain ⟨sv, hs⟩ := hc j hj
  exact ⟨sv, hs.below hb hl⟩
def RcS (w : World) (v : Value) (n : Nat) (R : Nat → Rc) : Prop :=
  ∃ A cap, v = .slice A n cap ∧ RcR w A n R ∧ n ≤ cap ∧ cap ≤ 9223372036854775807
theorem RcS.below {w w' : World} {v : Value} {n : Nat} {R : Nat → Rc} (hb : Below w.heap.size w w') (h : RcS w v n R) : RcS w' v n R :=
  let ⟨A, cap, e, hr, h2⟩ := h
  ⟨A, cap, e, hr.below hb, h2⟩
/-- How much of the budget is left. -/
def szR (left : Int) (R : Nat → Rc) : Nat → Int
  | 0 => left
  | k + 1 => if szR left R k < 0 then -1 else szE (szR left R k) (R k).n
def szRs (left : Int) (n : Nat) (R : Nat → Rc) : Int := if left - n < 0 then -1 else szR (left - n) R n
theorem szR_neg {left : Int} {R : Nat → Rc} {k : Nat} (h : szR left R (k + 1) < 0) : ∀ m, k + 1 ≤ m → szR left R m = -1 := by
  intro m hm
  induction m with
  | zero => omega
  | succ m ih =>
    by_cases e : k + 1 ≤ m
    · have := ih e
      simp [szR, this]
    · obtain rfl : k = m := by omega
      simp only [szR] at h ⊢
      split
      · rfl
      · rename_i h2
        rw [if_neg h2] at h
        exact szE_neg h
theorem szR_pos {left : Int} {R : Nat → Rc} {k : Nat} (h : 0 ≤ szR left R (k + 1)) : 0 ≤ szR left R k ∧ szR left R (k + 1) ≤ szR left R k ∧ ((R k).n : Int) ≤ szR left R k := by
  simp only [szR] at h ⊢
  by_cases h2 : szR left R k < 0
  · rw [if_pos h2] at h; omega
  · rw [if_neg h2] at h ⊢
    have := szE_small h
    omega
theorem szR_small {left : Int} {R : Nat → Rc} {k : Nat} (h : 0 ≤ szR left R k) : szR left R k ≤ left ∧ ∀ j, j < k → ((R j).n : Int) ≤ left := by
  induction k with
  | zero => exact ⟨by simp [szR], fun j hj => by omega⟩
  | succ k ih =>
    obtain ⟨h1, h2, h3⟩ := szR_pos h
    obtain ⟨h4, h5⟩ := ih h1
    refine ⟨by omega, fun j hj => ?_⟩
    by_cases e : j = k
    · subst e; omega
    · exact h5 j (by omega)
theorem szRs_small {n : Nat} {R : Nat → Rc} (h : 0 ≤ szRs 1048576 n R) : n ≤ 1048576 ∧ ∀ j, j < n → (R j).n ≤ 1048576 := by
  unfold szRs at h
  split at h
  · omega
  · obtain ⟨h1, h2⟩ := szR_small h
    exact ⟨by omega, fun j hj => by have := h2 j hj; omega⟩
set_option maxHeartbeats 1000000 in
theorem C_szRecordS (v : Value) (n : Nat) (R : Nat → Rc) (left : Int) (w : World) (h : RcS w v n R) (h0 : 0 ≤ left) (h1 : left ≤ 1048576) :
    Calls Tryd.prog 15 #[v, .int .i64 left] w fun e w' => e = .returned (.int .i64 (szRs left n R)) ∧ Below w.heap.size w w' := by
  obtain ⟨A, cap, rfl, hr, hc, hm⟩ := h
  have HR := Lib.hid hr; clear hr
  by_cases hlt0 : left - n < 0
  · go_enter Tryd.func15, Tryd.ntmps15
    go_wp2
    go_ret
    exact ⟨ret_int (by unfold szRs; rw [if_pos hlt0]), Below.refl _ _⟩
  have hge0 : 0 ≤ left - n := by omega
  clear hlt0
  go_enter Tryd.func15, Tryd.ntmps15
  go_wp2
  go_loopw [1, 5] (fun l i wr => ∃ k : Nat, k ≤ n ∧ i = .int .i64 k ∧ l = .int .i64 (szR (left - n) R k) ∧ 0 ≤ szR (left - n) R k ∧ Below w.heap.size w wr) (fun _ i _ => n - (intOf i).toNat)
  case atStart => exact ⟨0, Nat.zero_le _, rfl, rfl, by simpa [szR] using hge0, Below.refl _ _⟩
  case round =>
    obtain ⟨k, hk, rfl, rfl, hl0, hB⟩ := hrel; have hzB := hB.size
    by_cases hlt : k < n
    · obtain ⟨b, off, rfl, hb, hcell⟩ := (HR.out.below hB) (by omega)
      obtain ⟨sv, hsv, c0, c1, c2, c3⟩ := hcell k hlt
      have hl1 := (szR_small hl0).1
      have HS : Hid (szR (left - n) R (k + 1) = szE (szR (left - n) R k) (R k).n) := by show _ = _; simp only [szR]; rw [if_neg (by omega)]
      have hk0 : (0 : Int) ≤ (k : Int) := by omega
      clear hcell
      go_wp2_with (go_at_call 10; refine (C_szRecord (R k) sv _ _ hsv (by omega) (by omega)).mono ?_; rintro e w' ⟨rfl, hb'⟩)
      all_goals first
        | (go_ret; refine ⟨ret_int ?_, by (repeat (first | with_reducible exact Below.refl _ _ | with_reducible exact below_regrown _ _ _ | with_reducible refine bel_step0 (by assumption) ?_ | with_reducible refine bel_alloc0 ?_ _ | with_reducible refine bel_regrown0 ?_ _ _ | with_reducible refine bel_regrown ?_ (by first | omega | (simp; done) | (simp; omega)) _ _ | with_reducible refine below_drewN ?_ _ | with_reducible refine Below.drew ?_ | with_reducible refine Below.alloc ?_ (by first | omega | (simp; done) | (simp; omega)) _ | with_reducible refine Below.setCell ?_ (by first | omega | (simp; done) | (simp; omega)) _ | with_reducible refine bel_step (by assumption) (by first | omega | (simp; done) | (simp; omega)) ?_ | with_reducible refine bel_grown (by assumption) (by first | omega | (simp; done) | (simp; omega)) (by first | omega | (simp; done) | (simp; omega)) ?_))⟩; unfold szRs; rw [if_neg (by omega), szR_neg (k := k) (by rw [HS.out]; assumption) n (by omega)])
        | (go_roundw; (case rel => exact ⟨k + 1, by omega, by go_num, by rw [HS.out], by rw [HS.out]; assumption, by (repeat (first | with_reducible exact Below.refl _ _ | with_reducible exact below_regrown _ _ _ | with_reducible refine bel_step0 (by assumption) ?_ | with_reducible refine bel_alloc0 ?_ _ | with_reducible refine bel_regrown0 ?_ _ _ | with_reducible refine bel_regrown ?_ (by first | omega | (simp; done) | (simp; omega)) _ _ | with_reducible refine below_drewN ?_ _ | with_reducible refine Below.drew ?_ | with_reducible refine Below.alloc ?_ (by first | omega | (simp; done) | (simp; omega)) _ | with_reducible refine Below.setCell ?_ (by first | omega | (simp; done) | (simp; omega)) _ | with_reducible refine bel_step (by assumption) (by first | omega | (simp; done) | (simp; omega)) ?_ | with_reducible refine bel_grown (by assumption) (by first | omega | (simp; done) | (simp; omega)) (by first | omega | (simp; done) | (simp; omega)) ?_))⟩); (case measure => simp [intOf]; omega))
    · go_wp2
      go_ret
      obtain rfl : k = n := by omega
      exact ⟨ret_int (by unfold szRs; rw [if_neg (by omega)]), hB⟩
set_option maxHeartbeats 4000000 in
set_option maxRecDepth 100000 in
theorem C_toRecord (R : Rc) (sv : Value) (w : World) (h : EvS w sv R) (hn : R.n ≤ 1048576) :
    Calls Tryd.prog 12 #[.agg #[.int .i64 (R).id, .int .i64 (R).ser, .int .i64 (R).made, sv]] w fun e w' => ∃ v', e = .returned (.agg #[.int .i64 (R).id, .int .i64 (R).ser, .int .i64 (R).made, v']) ∧ FE w.heap.size w'.heap.size w' v' R ∧ Below w.heap.size w w' := by
  have HC := Lib.hid (fun w' (hb : Below w.heap.size w w') => C_toEventS R sv w' (h.below hb) hn)
  clear h
  go_enter Tryd.func12, Tryd.ntmps12
  go_wp2_with fail
  refine (HC.out _ (by (repeat (first | with_reducible exact Below.refl _ _ | with_reducible exact below_regrown _ _ _ | with_reducible refine bel_step0 (by assumption) ?_ | with_reducible refine bel_alloc0 ?_ _ | with_reducible refine bel_regrown0 ?_ _ _ | with_reducible refine bel_regrown ?_ (by first | omega | (simp; done) | (simp; omega)) _ _ | with_reducible refine below_drewN ?_ _ | with_reducible refine Below.drew ?_ | with_reducible refine Below.alloc ?_ (by first | omega | (simp; done) | (simp; omega)) _ | with_reducible refine Below.setCell ?_ (by first | omega | (simp; done) | (simp; omega)) _ | with_reducible refine bel_step (by assumption) (by first | omega | (simp; done) | (simp; omega)) ?_ | with_reducible refine bel_grown (by assumption) (by first | omega | (simp; done) | (simp; omega)) (by first | omega | (simp; done) | (simp; omega)) ?_)))).mono ?_; rintro e w' ⟨v', rfl, hv', hb'⟩
  obtain ⟨hc', hf'⟩ := bcell hb'; have hz' := bsize hb'; (try simp only [World.size_alloc, World.size_drew, World.size_setCell] at hz'); (try have hq0 : w.heap.size < w'.heap.size := by omega); (try have hq1 : w.heap.size + 1 < w'.heap.size := by omega); (try have hq2 : w.heap.size + 1 + 1 < w'.heap.size := by omega); (try have hq3 : w.heap.size + 1 + 1 + 1 < w'.heap.size := by omega)
  have hvs := hv'; simp only [World.size_alloc] at hvs
  have HV := Lib.hid hvs
  clear HC hvs
  obtain ⟨g, rfl, _⟩ := hv'
  go_wp2
  (go_light; refine bodyPost_ret (by simp (maxDischargeDepth := 3) [results, Tryd.results12, go_sem, *]; try rfl) rfl ?_)
  refine ⟨_, rfl, FE.mono (hi := w'.heap.size) (lo := w.heap.size + 1 + 1 + 1) ?_ (by omega) (by simp), by (repeat (first | with_reducible exact Below.refl _ _ | with_reducible exact below_regrown _ _ _ | with_reducible refine bel_step0 (by assumption) ?_ | with_reducible refine bel_alloc0 ?_ _ | with_reducible refine bel_regrown0 ?_ _ _ | with_reducible refine bel_regrown ?_ (by first | omega | (simp; done) | (simp; omega)) _ _ | with_reducible refine below_drewN ?_ _ | with_reducible refine Below.drew ?_ | with_reducible refine Below.alloc ?_ (by first | omega | (simp; done) | (simp; omega)) _ | with_reducible refine Below.setCell ?_ (by first | omega | (simp; done) | (simp; omega)) _ | with_reducible refine bel_step (by assumption) (by first | omega | (simp; done) | (simp; omega)) ?_ | with_reducible refine bel_grown (by assumption) (by first | omega | (simp; done) | (simp; omega)) (by first | omega | (simp; done) | (simp; omega)) ?_))⟩
  repeat (first | exact HV.out | refine FE.setCell ?_ (by first | omega | (simp; done) | (simp; omega)) _)
set_option maxHeartbeats 1000000 in
theorem C_eqRecord (R : Rc) (v v' : Value) (w : World) (h : EvS w v R) (h' : EvS w v' R) :
    Calls Tryd.prog 14 #[.agg #[.int .i64 (R).id, .int .i64 (R).ser, .int .i64 (R).made, v], .agg #[.int .i64 (R).id, .int .i64 (R).ser, .int .i64 (R).made, v']] w fun e w' => e = .returned (.bool true) ∧ Below w.heap.size w w' := by
  have HC := Lib.hid (fun w1 (hb : Below w.heap.size w w1) => C_eqEventS R v v' w1 (h.below hb) (h'.below hb))
  clear h h'
  go_enter Tryd.func14, Tryd.ntmps14
  go_wp2_with fail
  refine (HC.out _ (by (repeat (first | with_reducible exact Below.refl _ _ | with_reducible exact below_regrown _ _ _ | with_reducible refine bel_step0 (by assumption) ?_ | with_reducible refine bel_alloc0 ?_ _ | with_reducible refine bel_regrown0 ?_ _ _ | with_reducible refine bel_regrown ?_ (by first | omega | (simp; done) | (simp; omega)) _ _ | with_reducible refine below_drewN ?_ _ | with_reducible refine Below.drew ?_ | with_reducible refine Below.alloc ?_ (by first | omega | (simp; done) | (simp; omega)) _ | with_reducible refine Below.setCell ?_ (by first | omega | (simp; done) | (simp; omega)) _ | with_reducible refine bel_step (by assumption) (by first | omega | (simp; done) | (simp; omega)) ?_ | with_reducible refine bel_grown (by assumption) (by first | omega | (simp; done) | (simp; omega)) (by first | omega | (simp; done) | (simp; omega)) ?_)))).mono ?_; rintro e w1 ⟨rfl, hb1⟩
  go_wp2
  go_ret
  exact ⟨rfl, by (repeat (first | with_reducible exact Below.refl _ _ | with_reducible exact below_regrown _ _ _ | with_reducible refine bel_step0 (by assumption) ?_ | with_reducible refine bel_alloc0 ?_ _ | with_reducible refine bel_regrown0 ?_ _ _ | with_reducible refine bel_regrown ?_ (by first | omega | (simp; done) | (simp; omega)) _ _ | with_reducible refine below_drewN ?_ _ | with_reducible refine Below.drew ?_ | with_reducible refine Below.alloc ?_ (by first | omega | (simp; done) | (simp; omega)) _ | with_reducible refine Below.setCell ?_ (by first | omega | (simp; done) | (simp; omega)) _ | with_reducible refine bel_step (by assumption) (by first | omega | (simp; done) | (simp; omega)) ?_ | with_reducible refine bel_grown (by assumption) (by first | omega | (simp; done) | (simp; omega)) (by first | omega | (simp; done) | (simp; omega)) ?_))⟩
end Go.Proofs.YtjmfkenhnfdbjaaDoor
