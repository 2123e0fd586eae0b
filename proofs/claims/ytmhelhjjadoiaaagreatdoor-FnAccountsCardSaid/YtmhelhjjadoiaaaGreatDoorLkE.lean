/- Reads since the last change: the program and the reference. No condition but those stated. -/
import Derived.Test.YtmhelhjjadoiaaaGreatDoorLkD
namespace Go.Proofs.YtmhelhjjadoiaaaGreatDoor
set_option linter.unusedVariables false
set_option linter.unusedSimpArgs false
open Go.RowKit Go.Sort
/-- How many of the first n, behind the place p, are of the record x. -/
def rsM (R : Nat → Lk) (x p : Int) : Nat → Nat
  | 0 => 0
  | k + 1 => if decide (p < (k : Int)) && (R k).rid == x then rsM R x p k + 1 else rsM R x p k
theorem rsM_le (R : Nat → Lk) (x p : Int) (n : Nat) : rsM R x p n ≤ n := by
  induction n with
  | zero => exact Nat.le_refl _
  | succ n ih => simp only [rsM]; split <;> omega
theorem rsM_start (R : Nat → Lk) (x p : Int) (q : Nat) (h : (q : Int) = p + 1) : rsM R x p q = 0 := by
  have key : ∀ k, k ≤ q → rsM R x p k = 0 := by
    intro k
    induction k with
    | zero => intro _; rfl
    | succ k ih =>
      intro hk
      have : decide (p < (k : Int)) = false := by simp; omega
      simp only [rsM, this, Bool.false_and]
      exact ih (by omega)
  exact key q (Nat.le_refl _)
theorem rsM_yes {R : Nat → Lk} {x p : Int} {k : Nat} (h : p < (k : Int)) (h2 : ((R k).rid == x) = true) : rsM R x p (k + 1) = rsM R x p k + 1 := by
  simp only [rsM, h2, decide_eq_true h]; rfl
theorem rsM_no {R : Nat → Lk} {x p : Int} {k : Nat} (h2 : ((R k).rid == x) = false) : rsM R x p (k + 1) = rsM R x p k := by
  simp only [rsM, h2, Bool.and_false]; rfl
def rsOk (n : Nat) (R : Nat → Lk) (x : Int) : Bool := accB n R && within x 1 999
def rsV (n : Nat) (R : Nat → Lk) (x : Int) : Int := if rsOk n R x then (rsM R x (lastM R x n) n : Int) else 0
theorem C_ReadsSinceS (v : Value) (n : Nat) (R : Nat → Lk) (x : Int) (w : World) (h : LKs w v n R) (hs : ∀ j, j < n → (R j).why.size ≤ 9223372036854775807) :
    Calls Tryz.prog 14 #[v, .int .i64 x] w fun e w' => e = .returned (.tuple #[.int .i64 (rsV n R x), .bool (rsOk n R x)]) ∧ Below w.heap.size w w' := by
  have HH := Lib.hid h
  have HS := Lib.hid hs
  obtain ⟨A, cap, rfl, hr, hc, hm⟩ := h
  have HR := Lib.hid hr
  clear hr hs
  cases hd : accB n R
  · have e0 : rsOk n R x = false := by unfold rsOk; rw [hd]; rfl
    have e1 : rsV n R x = 0 := by unfold rsV; rw [e0]; rfl
    rw [e0, e1]; clear e0 e1
    go_enter Tryz.func14, Tryz.ntmps14
    go_wp2_with fail
    refine (C_l22Good _ _ _ _ HH.out HS.out).mono ?_; rintro e w1 ⟨rfl, hb1⟩; rw [hd]
    go_wp2_with fail
    go_ret2
    exact ⟨rfl, hb1⟩
  cases hx : within x 1 999
  · have e0 : rsOk n R x = false := by unfold rsOk; rw [hd, hx]; rfl
    have e1 : rsV n R x = 0 := by unfold rsV; rw [e0]; rfl
    rw [e0, e1]; clear e0 e1
    go_enter Tryz.func14, Tryz.ntmps14
    go_wp2_with fail
    refine (C_l22Good _ _ _ _ HH.out HS.out).mono ?_; rintro e w1 ⟨rfl, hb1⟩; rw [hd]
    go_wp2_with fail
    refine (C_l17Record _ _).mono ?_; rintro e w2 ⟨rfl, rfl⟩; rw [hx]
    go_wp2_with fail
    go_ret2
    exact ⟨rfl, hb1⟩
  have hn15 := accB_le hd
  have hbd := lastM_bd R x n
  obtain ⟨q, hq⟩ : ∃ q : Nat, lastM R x n = (q : Int) - 1 := ⟨(lastM R x n + 1).toNat, by omega⟩
  have e0 : rsOk n R x = true := by unfold rsOk; rw [hd, hx]; rfl
  have e1 : rsV n R x = (rsM R x ((q : Int) - 1) n : Int) := by unfold rsV; rw [e0, hq]; rfl
  rw [e0, e1]; clear e0 e1
  have hqn : q ≤ n := by omega
  have HST := Lib.hid (rsM_start R x ((q : Int) - 1) q (by omega))
  have HL := Lib.hid (fun W hW => C_l22Change (.slice A n cap) n R x W hW)
  rw [hq] at HL
  clear hq hbd
  go_enter Tryz.func14, Tryz.ntmps14
  go_wp2_with fail
  refine (C_l22Good _ _ _ _ HH.out HS.out).mono ?_; rintro e w1 ⟨rfl, hb1⟩; rw [hd]
  go_wp2_with fail
  refine (C_l17Record _ _).mono ?_; rintro e w2 ⟨rfl, rfl⟩; rw [hx]
  go_wp2_with fail
  refine (HL.out _ (HH.out.below hb1)).mono ?_; rintro e w3 ⟨rfl, hb3⟩
  have B3 := bel_step0 hb3 hb1
  go_wp2_with fail
  go_loop [6, 7] (fun c i => ∃ k : Nat, k ≤ n ∧ q ≤ k ∧ i = .int .i64 k ∧ c = .int .i64 (rsM R x ((q : Int) - 1) k)) (fun _ i => n - (intOf i).toNat)
  case atStart => exact ⟨q, hqn, Nat.le_refl _, by first | rfl | (congr 1; omega), by rw [HST.out]; rfl⟩
  case round =>
    obtain ⟨k, hk, hqk, rfl, hcv⟩ := hrel
    have hle := rsM_le R x ((q : Int) - 1) k
    by_cases hlt : k < n
    · obtain ⟨b, off, rfl, hb, hcell⟩ := (HR.out.below B3) (by omega)
      obtain ⟨c0, c1, c2, c3, c4⟩ := hcell k hlt
      clear hcell c0 c1 c3 c4
      obtain ⟨p, hp⟩ : ∃ p : Nat, rsM R x ((q : Int) - 1) k = p := ⟨_, rfl⟩
      rw [hp] at hcv hle
      have HP := Lib.hid hp
      clear hp
      subst hcv
      cases h1 : ((R k).rid == x)
      · go_wp2
        go_round
        case rel => exact ⟨k + 1, by omega, by omega, by go_num, by rw [rsM_no h1, HP.out]⟩
        case measure => simp [intOf]; omega
      · go_wp2
        go_round
        case rel => exact ⟨k + 1, by omega, by omega, by go_num, by rw [rsM_yes (by omega) h1, HP.out]; go_num⟩
        case measure => simp [intOf]; omega
    · obtain rfl : k = n := by omega
      subst hcv
      go_wp2
      go_ret2
      exact ⟨rfl, B3⟩
theorem C_ReadsSinceI (v : Value) (n : Nat) (R : Nat → Lk) (x : Int) (w : World) (h : LKs w v n R) (hs : ∀ j, j < n → (R j).why.size ≤ 9223372036854775807) :
    Calls Tryz.prog 13 #[v, .int .i64 x] w fun e w' => e = .returned (.tuple #[.int .i64 (rsV n R x), .bool (rsOk n R x)]) ∧ Below w.heap.size w w' := by
  have HH := Lib.hid h
  have HS := Lib.hid hs
  obtain ⟨A, cap, rfl, hr, hc, hm⟩ := h
  have HR := Lib.hid hr
  clear hr hs
  cases hd : accB n R
  · have e0 : rsOk n R x = false := by unfold rsOk; rw [hd]; rfl
    have e1 : rsV n R x = 0 := by unfold rsV; rw [e0]; rfl
    rw [e0, e1]; clear e0 e1
    go_enter Tryz.func13, Tryz.ntmps13
    go_wp2_with fail
    refine (C_IsAccount _ _ _ _ HH.out HS.out).mono ?_; rintro e w1 ⟨rfl, hb1⟩; rw [hd]
    go_wp2_with fail
    go_ret2
    exact ⟨rfl, hb1⟩
  cases hx : within x 1 999
  · have e0 : rsOk n R x = false := by unfold rsOk; rw [hd, hx]; rfl
    have e1 : rsV n R x = 0 := by unfold rsV; rw [e0]; rfl
    rw [e0, e1]; clear e0 e1
    go_enter Tryz.func13, Tryz.ntmps13
    go_wp2_with fail
    refine (C_IsAccount _ _ _ _ HH.out HS.out).mono ?_; rintro e w1 ⟨rfl, hb1⟩; rw [hd]
    go_wp2_with fail
    refine (C_isRecordId _ _).mono ?_; rintro e w2 ⟨rfl, rfl⟩; rw [hx]
    go_wp2_with fail
    go_ret2
    exact ⟨rfl, hb1⟩
  have hn15 := accB_le hd
  have hbd := lastM_bd R x n
  obtain ⟨q, hq⟩ : ∃ q : Nat, lastM R x n = (q : Int) - 1 := ⟨(lastM R x n + 1).toNat, by omega⟩
  have e0 : rsOk n R x = true := by unfold rsOk; rw [hd, hx]; rfl
  have e1 : rsV n R x = (rsM R x ((q : Int) - 1) n : Int) := by unfold rsV; rw [e0, hq]; rfl
  rw [e0, e1]; clear e0 e1
  have hqn : q ≤ n := by omega
  have HST := Lib.hid (rsM_start R x ((q : Int) - 1) q (by omega))
  have HL := Lib.hid (fun W hW => C_lastChange (.slice A n cap) n R x W hW)
  rw [hq] at HL
  clear hq hbd
  go_enter Tryz.func13, Tryz.ntmps13
  go_wp2_with fail
  refine (C_IsAccount _ _ _ _ HH.out HS.out).mono ?_; rintro e w1 ⟨rfl, hb1⟩; rw [hd]
  go_wp2_with fail
  refine (C_isRecordId _ _).mono ?_; rintro e w2 ⟨rfl, rfl⟩; rw [hx]
  go_wp2_with fail
  refine (HL.out _ (HH.out.below hb1)).mono ?_; rintro e w3 ⟨rfl, hb3⟩
  have B3 := bel_step0 hb3 hb1
  by_cases hq1 : q < n
  · obtain ⟨b, off, rfl, hb, hcell⟩ := (HR.out.below B3) (by omega)
    have HCELL := Lib.hid hcell
    have HB3 := Lib.hid B3
    clear hcell B3 hb1 hb3
    go_wp2_with fail
    go_loopw [6, 24] (fun c i wr => ∃ m : Nat, q + m ≤ n ∧ i = .int .i64 m ∧ c = .int .i64 (rsM R x ((q : Int) - 1) (q + m)) ∧ Below w.heap.size w wr) (fun _ i _ => n - (intOf i).toNat)
    case atStart => exact ⟨0, by omega, rfl, by rw [Nat.add_zero, HST.out]; rfl, HB3.out⟩
    case round =>
      obtain ⟨m, hk, rfl, hcv, hB⟩ := hrel
      have hzB := hB.size
      have hle := rsM_le R x ((q : Int) - 1) (q + m)
      by_cases hlt : q + m < n
      · obtain ⟨b', off', e', hb, hcell⟩ := (HR.out.below hB) (by omega)
        injection e' with e'; injection e' with e1 e2 _; subst e1 e2
        have hx5 := hcell (q + m) hlt
        rw [show off + (q + m) * 5 = off + q * 5 + m * 5 by omega] at hx5
        obtain ⟨c0, c1, c2, c3, c4⟩ := hx5
        clear hcell
        obtain ⟨p, hp⟩ : ∃ p : Nat, rsM R x ((q : Int) - 1) (q + m) = p := ⟨_, rfl⟩
        rw [hp] at hcv hle
        have HP := Lib.hid hp
        clear hp
        subst hcv
        have hmi : (m : Int) < (n : Int) - (q : Int) := by omega
        have hmn : m < n - q := by omega
        cases h1 : ((R (q + m)).rid == x)
        · go_wp2
          go_roundw
          case rel => exact ⟨m + 1, by omega, by go_num, by rw [← Nat.add_assoc, rsM_no h1, HP.out], by (repeat (first | with_reducible exact Below.refl _ _ | with_reducible exact below_regrown _ _ _ | with_reducible refine bel_step0 (by assumption) ?_ | with_reducible refine bel_alloc0 ?_ _ | with_reducible refine bel_regrown0 ?_ _ _ | with_reducible refine bel_regrown ?_ (by first | omega | (simp; done) | (simp; omega)) _ _ | with_reducible refine below_drewN ?_ _ | with_reducible refine Below.drew ?_ | with_reducible refine Below.alloc ?_ (by first | omega | (simp; done) | (simp; omega)) _ | with_reducible refine Below.setCell ?_ (by first | omega | (simp; done) | (simp; omega)) _ | with_reducible refine bel_step (by assumption) (by first | omega | (simp; done) | (simp; omega)) ?_ | with_reducible refine bel_grown (by assumption) (by first | omega | (simp; done) | (simp; omega)) (by first | omega | (simp; done) | (simp; omega)) ?_))⟩
          case measure => simp [intOf]; omega
        · go_wp2
          go_roundw
          case rel => exact ⟨m + 1, by omega, by go_num, by rw [← Nat.add_assoc, rsM_yes (by omega) h1, HP.out]; go_num, by (repeat (first | with_reducible exact Below.refl _ _ | with_reducible exact below_regrown _ _ _ | with_reducible refine bel_step0 (by assumption) ?_ | with_reducible refine bel_alloc0 ?_ _ | with_reducible refine bel_regrown0 ?_ _ _ | with_reducible refine bel_regrown ?_ (by first | omega | (simp; done) | (simp; omega)) _ _ | with_reducible refine below_drewN ?_ _ | with_reducible refine Below.drew ?_ | with_reducible refine Below.alloc ?_ (by first | omega | (simp; done) | (simp; omega)) _ | with_reducible refine Below.setCell ?_ (by first | omega | (simp; done) | (simp; omega)) _ | with_reducible refine bel_step (by assumption) (by first | omega | (simp; done) | (simp; omega)) ?_ | with_reducible refine bel_grown (by assumption) (by first | omega | (simp; done) | (simp; omega)) (by first | omega | (simp; done) | (simp; omega)) ?_))⟩
          case measure => simp [intOf]; omega
      · obtain rfl : n = q + m := by omega
        subst hcv
        have hmn : ¬ m < q + m - q := by omega
        go_wp2
        go_ret2
        exact ⟨rfl, hB⟩
  · obtain rfl : q = n := by omega
    have HB3 := Lib.hid B3
    clear B3 hb1 hb3
    go_wp2_with fail
    all_goals
      go_loop [6, 24] (fun c i => i = .int .i64 0 ∧ c = .int .i64 0) (fun _ i => 0)
      case atStart => exact ⟨rfl, rfl⟩
      case round =>
        obtain ⟨rfl, rfl⟩ := hrel
        go_wp2
        go_ret2
        exact ⟨by rw [HST.out]; rfl, HB3.out⟩
end Go.Proofs.YtmhelhjjadoiaaaGreatDoor
