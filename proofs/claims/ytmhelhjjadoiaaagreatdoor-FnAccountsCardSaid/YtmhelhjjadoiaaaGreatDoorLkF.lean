/- The longest burst: the program and the reference. No condition but those stated. -/
import Derived.Test.YtmhelhjjadoiaaaGreatDoorLkC
namespace Go.Proofs.YtmhelhjjadoiaaaGreatDoor
set_option linter.unusedVariables false
set_option linter.unusedSimpArgs false
open Go.RowKit Go.Sort
structure Bs where
  best : Int
  most : Int
  fst : Int
  run : Int
  last : Int
def bstep (g : Int) (x : Lk) (s : Bs) : Bs :=
  if 0 < s.run ∧ x.tick - s.last ≤ g then (if s.most < s.run + 1 then ⟨s.fst, s.run + 1, s.fst, s.run + 1, x.tick⟩ else ⟨s.best, s.most, s.fst, s.run + 1, x.tick⟩)
  else (if s.most < 1 then ⟨x.tick, 1, x.tick, 1, x.tick⟩ else ⟨s.best, s.most, x.tick, 1, x.tick⟩)
def brM (R : Nat → Lk) (z g : Int) : Nat → Bs
  | 0 => ⟨0, 0, 0, 0, 0⟩
  | k + 1 => if (R k).who == z then bstep g (R k) (brM R z g k) else brM R z g k
theorem brM_bd {n : Nat} {R : Nat → Lk} (z g : Int) (h : accB n R = true) : ∀ k, k ≤ n → (0 ≤ (brM R z g k).run ∧ (brM R z g k).run ≤ k) ∧ (0 ≤ (brM R z g k).most ∧ (brM R z g k).most ≤ k) ∧ (0 ≤ (brM R z g k).last ∧ (brM R z g k).last ≤ 999999) := by
  intro k
  induction k with
  | zero => intro _; simp [brM]
  | succ k ih =>
    intro hk
    obtain ⟨⟨h1, h2⟩, ⟨h3, h4⟩, h5, h6⟩ := ih (by omega)
    obtain ⟨⟨t1, t2⟩, _⟩ := accB_bd h (show k < n by omega)
    simp only [brM]
    split
    · unfold bstep
      split <;> split <;> (refine ⟨⟨?_, ?_⟩, ⟨?_, ?_⟩, ?_, ?_⟩ <;> first | assumption | (simp only; omega))
    · refine ⟨⟨?_, ?_⟩, ⟨?_, ?_⟩, ?_, ?_⟩ <;> omega
section
variable {R : Nat → Lk} {z g : Int} {k : Nat} {be mo fi ru la : Int}
theorem brM_no (h : ((R k).who == z) = false) : brM R z g (k + 1) = brM R z g k := by simp only [brM, h]; rfl
theorem brM_C (hS : brM R z g k = ⟨be, mo, fi, ru, la⟩) (h : ((R k).who == z) = true) (h1 : 0 < ru) (h2 : (R k).tick - la ≤ g) (h3 : mo < ru + 1) : brM R z g (k + 1) = ⟨fi, ru + 1, fi, ru + 1, (R k).tick⟩ := by
  simp only [brM, h, if_true, hS, bstep]; rw [if_pos ⟨h1, h2⟩, if_pos h3]
theorem brM_D (hS : brM R z g k = ⟨be, mo, fi, ru, la⟩) (h : ((R k).who == z) = true) (h1 : 0 < ru) (h2 : (R k).tick - la ≤ g) (h3 : ¬ mo < ru + 1) : brM R z g (k + 1) = ⟨be, mo, fi, ru + 1, (R k).tick⟩ := by
  simp only [brM, h, if_true, hS, bstep]; rw [if_pos ⟨h1, h2⟩, if_neg h3]
theorem brM_E (hS : brM R z g k = ⟨be, mo, fi, ru, la⟩) (h : ((R k).who == z) = true) (h1 : ¬ (0 < ru ∧ (R k).tick - la ≤ g)) (h3 : mo < 1) : brM R z g (k + 1) = ⟨(R k).tick, 1, (R k).tick, 1, (R k).tick⟩ := by
  simp only [brM, h, if_true, hS, bstep]; rw [if_neg h1, if_pos h3]
theorem brM_F (hS : brM R z g k = ⟨be, mo, fi, ru, la⟩) (h : ((R k).who == z) = true) (h1 : ¬ (0 < ru ∧ (R k).tick - la ≤ g)) (h3 : ¬ mo < 1) : brM R z g (k + 1) = ⟨be, mo, (R k).tick, 1, (R k).tick⟩ := by
  simp only [brM, h, if_true, hS, bstep]; rw [if_neg h1, if_neg h3]
end
def lbOk (n : Nat) (R : Nat → Lk) (z g : Int) : Bool := accB n R && within z 1 99 && within g 1 1000000
def lbF (n : Nat) (R : Nat → Lk) (z g : Int) : Int := if lbOk n R z g then (brM R z g n).best else 0
def lbM (n : Nat) (R : Nat → Lk) (z g : Int) : Int := if lbOk n R z g then (brM R z g n).most else 0
def lbK (n : Nat) (R : Nat → Lk) (z g : Int) : Bool := lbOk n R z g && decide (0 < (brM R z g n).most)
set_option maxHeartbeats 4000000 in
theorem C_LongestBurstI (v : Value) (n : Nat) (R : Nat → Lk) (z g : Int) (w : World) (h : LKs w v n R) (hs : ∀ j, j < n → (R j).why.size ≤ 9223372036854775807) :
    Calls Tryz.prog 16 #[v, .int .i64 z, .int .i64 g] w fun e w' => e = .returned (.tuple #[.int .i64 (lbF n R z g), .int .i64 (lbM n R z g), .bool (lbK n R z g)]) ∧ Below w.heap.size w w' := by
  have HH := Lib.hid h
  have HS := Lib.hid hs
  obtain ⟨A, cap, rfl, hr, hc, hm⟩ := h
  have HR := Lib.hid hr
  clear hr hs
  cases hd : accB n R
  · have e0 : lbOk n R z g = false := by unfold lbOk; rw [hd]; rfl
    (have e1 : lbF n R z g = 0 := (by unfold lbF; rw [e0]; rfl); have e2 : lbM n R z g = 0 := (by unfold lbM; rw [e0]; rfl); have e3 : lbK n R z g = false := (by unfold lbK; rw [e0]; rfl); rw [e1, e2, e3]; clear e0 e1 e2 e3)
    go_enter Tryz.func16, Tryz.ntmps16
    go_wp2_with fail
    refine (C_IsAccount _ _ _ _ HH.out HS.out).mono ?_; rintro e w1 ⟨rfl, hb1⟩; rw [hd]
    go_wp2_with fail
    go_ret3
    exact ⟨rfl, hb1⟩
  cases hz : within z 1 99
  · have e0 : lbOk n R z g = false := by unfold lbOk; rw [hd, hz]; rfl
    (have e1 : lbF n R z g = 0 := (by unfold lbF; rw [e0]; rfl); have e2 : lbM n R z g = 0 := (by unfold lbM; rw [e0]; rfl); have e3 : lbK n R z g = false := (by unfold lbK; rw [e0]; rfl); rw [e1, e2, e3]; clear e0 e1 e2 e3)
    go_enter Tryz.func16, Tryz.ntmps16
    go_wp2_with fail
    refine (C_IsAccount _ _ _ _ HH.out HS.out).mono ?_; rintro e w1 ⟨rfl, hb1⟩; rw [hd]
    go_wp2_with fail
    refine (C_isId _ _).mono ?_; rintro e w2 ⟨rfl, rfl⟩; rw [hz]
    go_wp2_with fail
    go_ret3
    exact ⟨rfl, hb1⟩
  cases hg : within g 1 1000000
  · have e0 : lbOk n R z g = false := by unfold lbOk; rw [hd, hz, hg]; rfl
    (have e1 : lbF n R z g = 0 := (by unfold lbF; rw [e0]; rfl); have e2 : lbM n R z g = 0 := (by unfold lbM; rw [e0]; rfl); have e3 : lbK n R z g = false := (by unfold lbK; rw [e0]; rfl); rw [e1, e2, e3]; clear e0 e1 e2 e3)
    go_enter Tryz.func16, Tryz.ntmps16
    go_wp2_with fail
    refine (C_IsAccount _ _ _ _ HH.out HS.out).mono ?_; rintro e w1 ⟨rfl, hb1⟩; rw [hd]
    go_wp2_with fail
    refine (C_isId _ _).mono ?_; rintro e w2 ⟨rfl, rfl⟩; rw [hz]
    go_wp2_with fail
    refine (C_within _ _ _ _).mono ?_; rintro e w3 ⟨rfl, rfl⟩; rw [hg]
    go_wp2_with fail
    go_ret3
    exact ⟨rfl, hb1⟩
  have hn15 := accB_le hd
  have e0 : lbOk n R z g = true := by unfold lbOk; rw [hd, hz, hg]; rfl
  have e1 : lbF n R z g = (brM R z g n).best := by unfold lbF; rw [e0]; rfl
  have e2 : lbM n R z g = (brM R z g n).most := by unfold lbM; rw [e0]; rfl
  have e3 : lbK n R z g = decide (0 < (brM R z g n).most) := by unfold lbK; rw [e0]; rfl
  rw [e1, e2, e3]; clear e0 e1 e2 e3
  obtain ⟨g1, g2⟩ := within_iff.1 hg
  have HBD := Lib.hid (brM_bd z g hd)
  have HAB := Lib.hid (fun k (hk : k < n) => (accB_bd hd hk).1)
  go_enter Tryz.func16, Tryz.ntmps16
  go_wp2_with fail
  refine (C_IsAccount _ _ _ _ HH.out HS.out).mono ?_; rintro e w1 ⟨rfl, hb1⟩; rw [hd]
  go_wp2_with fail
  refine (C_isId _ _).mono ?_; rintro e w2 ⟨rfl, rfl⟩; rw [hz]
  go_wp2_with fail
  refine (C_within _ _ _ _).mono ?_; rintro e w3 ⟨rfl, rfl⟩; rw [hg]
  go_wp2_with fail
  go_loopw [9, 10, 11, 12, 13, 31] (fun s9 s10 s11 s12 s13 i wr => ∃ k : Nat, k ≤ n ∧ i = .int .i64 k ∧ s9 = .int .i64 (brM R z g k).best ∧ s10 = .int .i64 (brM R z g k).most ∧ s11 = .int .i64 (brM R z g k).fst ∧ s12 = .int .i64 (brM R z g k).run ∧ s13 = .int .i64 (brM R z g k).last ∧ Below w.heap.size w wr) (fun _ _ _ _ _ i _ => n - (intOf i).toNat)
  case atStart => exact ⟨0, Nat.zero_le _, rfl, rfl, rfl, rfl, rfl, rfl, hb1⟩
  case round =>
    obtain ⟨k, hk, rfl, h9, h10, h11, h12, h13, hB⟩ := hrel
    have hzB := hB.size
    obtain ⟨⟨q1, q2⟩, ⟨q3, q4⟩, q5, q6⟩ := HBD.out k hk
    obtain ⟨S, hS⟩ : ∃ S, brM R z g k = S := ⟨_, rfl⟩
    rw [hS] at h9 h10 h11 h12 h13 q1 q2 q3 q4 q5 q6
    obtain ⟨be, mo, fi, ru, la⟩ := S
    simp only at h9 h10 h11 h12 h13 q1 q2 q3 q4 q5 q6
    have HSS := Lib.hid hS
    clear hS
    subst h9 h10 h11 h12 h13
    by_cases hlt : k < n
    · obtain ⟨b, off, rfl, hb, hcell⟩ := (HR.out.below hB) (by omega)
      obtain ⟨c0, c1, c2, c3, c4⟩ := hcell k hlt
      obtain ⟨t1, t2⟩ := HAB.out k hlt
      clear hcell
      cases hw : ((R k).who == z)
      · have hw2 : ((R k).who != z) = true := by simp [bne, hw]
        have hnx := brM_no (g := g) hw
        have HNX := Lib.hid (hnx.trans HSS.out)
        clear hnx
        go_wp2
        (go_roundw; (case rel => exact ⟨k + 1, by omega, by go_num, by rw [HNX.out], by rw [HNX.out]; try go_num, by rw [HNX.out], by rw [HNX.out]; try go_num, by rw [HNX.out], by (repeat (first | with_reducible exact Below.refl _ _ | with_reducible exact below_regrown _ _ _ | with_reducible refine bel_step0 (by assumption) ?_ | with_reducible refine bel_alloc0 ?_ _ | with_reducible refine bel_regrown0 ?_ _ _ | with_reducible refine bel_regrown ?_ (by first | omega | (simp; done) | (simp; omega)) _ _ | with_reducible refine below_drewN ?_ _ | with_reducible refine Below.drew ?_ | with_reducible refine Below.alloc ?_ (by first | omega | (simp; done) | (simp; omega)) _ | with_reducible refine Below.setCell ?_ (by first | omega | (simp; done) | (simp; omega)) _ | with_reducible refine bel_step (by assumption) (by first | omega | (simp; done) | (simp; omega)) ?_ | with_reducible refine bel_grown (by assumption) (by first | omega | (simp; done) | (simp; omega)) (by first | omega | (simp; done) | (simp; omega)) ?_))⟩); (case measure => simp [intOf]; omega))
      · have hw2 : ((R k).who != z) = false := by simp [bne, hw]
        by_cases hr0 : 0 < ru
        · have hr1 : (ru == 0) = false := by simp; omega
          by_cases hgp : (R k).tick - la ≤ g
          · by_cases hmo : mo < ru + 1
            · have HNX := Lib.hid (brM_C HSS.out hw hr0 hgp hmo)
              go_wp2
              (go_roundw; (case rel => exact ⟨k + 1, by omega, by go_num, by rw [HNX.out], by rw [HNX.out]; try go_num, by rw [HNX.out], by rw [HNX.out]; try go_num, by rw [HNX.out], by (repeat (first | with_reducible exact Below.refl _ _ | with_reducible exact below_regrown _ _ _ | with_reducible refine bel_step0 (by assumption) ?_ | with_reducible refine bel_alloc0 ?_ _ | with_reducible refine bel_regrown0 ?_ _ _ | with_reducible refine bel_regrown ?_ (by first | omega | (simp; done) | (simp; omega)) _ _ | with_reducible refine below_drewN ?_ _ | with_reducible refine Below.drew ?_ | with_reducible refine Below.alloc ?_ (by first | omega | (simp; done) | (simp; omega)) _ | with_reducible refine Below.setCell ?_ (by first | omega | (simp; done) | (simp; omega)) _ | with_reducible refine bel_step (by assumption) (by first | omega | (simp; done) | (simp; omega)) ?_ | with_reducible refine bel_grown (by assumption) (by first | omega | (simp; done) | (simp; omega)) (by first | omega | (simp; done) | (simp; omega)) ?_))⟩); (case measure => simp [intOf]; omega))
            · have HNX := Lib.hid (brM_D HSS.out hw hr0 hgp hmo)
              go_wp2
              (go_roundw; (case rel => exact ⟨k + 1, by omega, by go_num, by rw [HNX.out], by rw [HNX.out]; try go_num, by rw [HNX.out], by rw [HNX.out]; try go_num, by rw [HNX.out], by (repeat (first | with_reducible exact Below.refl _ _ | with_reducible exact below_regrown _ _ _ | with_reducible refine bel_step0 (by assumption) ?_ | with_reducible refine bel_alloc0 ?_ _ | with_reducible refine bel_regrown0 ?_ _ _ | with_reducible refine bel_regrown ?_ (by first | omega | (simp; done) | (simp; omega)) _ _ | with_reducible refine below_drewN ?_ _ | with_reducible refine Below.drew ?_ | with_reducible refine Below.alloc ?_ (by first | omega | (simp; done) | (simp; omega)) _ | with_reducible refine Below.setCell ?_ (by first | omega | (simp; done) | (simp; omega)) _ | with_reducible refine bel_step (by assumption) (by first | omega | (simp; done) | (simp; omega)) ?_ | with_reducible refine bel_grown (by assumption) (by first | omega | (simp; done) | (simp; omega)) (by first | omega | (simp; done) | (simp; omega)) ?_))⟩); (case measure => simp [intOf]; omega))
          · by_cases hmo : mo < 1
            · have HNX := Lib.hid (brM_E (g := g) HSS.out hw (fun h => hgp h.2) hmo)
              go_wp2
              (go_roundw; (case rel => exact ⟨k + 1, by omega, by go_num, by rw [HNX.out], by rw [HNX.out]; try go_num, by rw [HNX.out], by rw [HNX.out]; try go_num, by rw [HNX.out], by (repeat (first | with_reducible exact Below.refl _ _ | with_reducible exact below_regrown _ _ _ | with_reducible refine bel_step0 (by assumption) ?_ | with_reducible refine bel_alloc0 ?_ _ | with_reducible refine bel_regrown0 ?_ _ _ | with_reducible refine bel_regrown ?_ (by first | omega | (simp; done) | (simp; omega)) _ _ | with_reducible refine below_drewN ?_ _ | with_reducible refine Below.drew ?_ | with_reducible refine Below.alloc ?_ (by first | omega | (simp; done) | (simp; omega)) _ | with_reducible refine Below.setCell ?_ (by first | omega | (simp; done) | (simp; omega)) _ | with_reducible refine bel_step (by assumption) (by first | omega | (simp; done) | (simp; omega)) ?_ | with_reducible refine bel_grown (by assumption) (by first | omega | (simp; done) | (simp; omega)) (by first | omega | (simp; done) | (simp; omega)) ?_))⟩); (case measure => simp [intOf]; omega))
            · have HNX := Lib.hid (brM_F (g := g) HSS.out hw (fun h => hgp h.2) hmo)
              go_wp2
              (go_roundw; (case rel => exact ⟨k + 1, by omega, by go_num, by rw [HNX.out], by rw [HNX.out]; try go_num, by rw [HNX.out], by rw [HNX.out]; try go_num, by rw [HNX.out], by (repeat (first | with_reducible exact Below.refl _ _ | with_reducible exact below_regrown _ _ _ | with_reducible refine bel_step0 (by assumption) ?_ | with_reducible refine bel_alloc0 ?_ _ | with_reducible refine bel_regrown0 ?_ _ _ | with_reducible refine bel_regrown ?_ (by first | omega | (simp; done) | (simp; omega)) _ _ | with_reducible refine below_drewN ?_ _ | with_reducible refine Below.drew ?_ | with_reducible refine Below.alloc ?_ (by first | omega | (simp; done) | (simp; omega)) _ | with_reducible refine Below.setCell ?_ (by first | omega | (simp; done) | (simp; omega)) _ | with_reducible refine bel_step (by assumption) (by first | omega | (simp; done) | (simp; omega)) ?_ | with_reducible refine bel_grown (by assumption) (by first | omega | (simp; done) | (simp; omega)) (by first | omega | (simp; done) | (simp; omega)) ?_))⟩); (case measure => simp [intOf]; omega))
        · obtain rfl : ru = 0 := by omega
          by_cases hmo : mo < 1
          · have HNX := Lib.hid (brM_E (g := g) HSS.out hw (fun h => hr0 h.1) hmo)
            go_wp2
            (go_roundw; (case rel => exact ⟨k + 1, by omega, by go_num, by rw [HNX.out], by rw [HNX.out]; try go_num, by rw [HNX.out], by rw [HNX.out]; try go_num, by rw [HNX.out], by (repeat (first | with_reducible exact Below.refl _ _ | with_reducible exact below_regrown _ _ _ | with_reducible refine bel_step0 (by assumption) ?_ | with_reducible refine bel_alloc0 ?_ _ | with_reducible refine bel_regrown0 ?_ _ _ | with_reducible refine bel_regrown ?_ (by first | omega | (simp; done) | (simp; omega)) _ _ | with_reducible refine below_drewN ?_ _ | with_reducible refine Below.drew ?_ | with_reducible refine Below.alloc ?_ (by first | omega | (simp; done) | (simp; omega)) _ | with_reducible refine Below.setCell ?_ (by first | omega | (simp; done) | (simp; omega)) _ | with_reducible refine bel_step (by assumption) (by first | omega | (simp; done) | (simp; omega)) ?_ | with_reducible refine bel_grown (by assumption) (by first | omega | (simp; done) | (simp; omega)) (by first | omega | (simp; done) | (simp; omega)) ?_))⟩); (case measure => simp [intOf]; omega))
          · have HNX := Lib.hid (brM_F (g := g) HSS.out hw (fun h => hr0 h.1) hmo)
            go_wp2
            (go_roundw; (case rel => exact ⟨k + 1, by omega, by go_num, by rw [HNX.out], by rw [HNX.out]; try go_num, by rw [HNX.out], by rw [HNX.out]; try go_num, by rw [HNX.out], by (repeat (first | with_reducible exact Below.refl _ _ | with_reducible exact below_regrown _ _ _ | with_reducible refine bel_step0 (by assumption) ?_ | with_reducible refine bel_alloc0 ?_ _ | with_reducible refine bel_regrown0 ?_ _ _ | with_reducible refine bel_regrown ?_ (by first | omega | (simp; done) | (simp; omega)) _ _ | with_reducible refine below_drewN ?_ _ | with_reducible refine Below.drew ?_ | with_reducible refine Below.alloc ?_ (by first | omega | (simp; done) | (simp; omega)) _ | with_reducible refine Below.setCell ?_ (by first | omega | (simp; done) | (simp; omega)) _ | with_reducible refine bel_step (by assumption) (by first | omega | (simp; done) | (simp; omega)) ?_ | with_reducible refine bel_grown (by assumption) (by first | omega | (simp; done) | (simp; omega)) (by first | omega | (simp; done) | (simp; omega)) ?_))⟩); (case measure => simp [intOf]; omega))
    · obtain rfl : k = n := by omega
      go_wp2
      go_ret3
      exact ⟨by rw [HSS.out]; first | done | rfl | simp, hB⟩
set_option maxHeartbeats 4000000 in
theorem C_LongestBurstS (v : Value) (n : Nat) (R : Nat → Lk) (z g : Int) (w : World) (h : LKs w v n R) (hs : ∀ j, j < n → (R j).why.size ≤ 9223372036854775807) :
    Calls Tryz.prog 17 #[v, .int .i64 z, .int .i64 g] w fun e w' => e = .returned (.tuple #[.int .i64 (lbF n R z g), .int .i64 (lbM n R z g), .bool (lbK n R z g)]) ∧ Below w.heap.size w w' := by
  have HH := Lib.hid h
  have HS := Lib.hid hs
  obtain ⟨A, cap, rfl, hr, hc, hm⟩ := h
  have HR := Lib.hid hr
  clear hr hs
  cases hd : accB n R
  · have e0 : lbOk n R z g = false := by unfold lbOk; rw [hd]; rfl
    (have e1 : lbF n R z g = 0 := (by unfold lbF; rw [e0]; rfl); have e2 : lbM n R z g = 0 := (by unfold lbM; rw [e0]; rfl); have e3 : lbK n R z g = false := (by unfold lbK; rw [e0]; rfl); rw [e1, e2, e3]; clear e0 e1 e2 e3)
    go_enter Tryz.func17, Tryz.ntmps17
    go_wp2_with fail
    refine (C_l22Good _ _ _ _ HH.out HS.out).mono ?_; rintro e w1 ⟨rfl, hb1⟩; rw [hd]
    go_wp2_with fail
    go_ret3
    exact ⟨rfl, hb1⟩
  cases hz : within z 1 99
  · have e0 : lbOk n R z g = false := by unfold lbOk; rw [hd, hz]; rfl
    (have e1 : lbF n R z g = 0 := (by unfold lbF; rw [e0]; rfl); have e2 : lbM n R z g = 0 := (by unfold lbM; rw [e0]; rfl); have e3 : lbK n R z g = false := (by unfold lbK; rw [e0]; rfl); rw [e1, e2, e3]; clear e0 e1 e2 e3)
    go_enter Tryz.func17, Tryz.ntmps17
    go_wp2_with fail
    refine (C_l22Good _ _ _ _ HH.out HS.out).mono ?_; rintro e w1 ⟨rfl, hb1⟩; rw [hd]
    go_wp2_with fail
    refine (C_l22Who _ _).mono ?_; rintro e w2 ⟨rfl, rfl⟩; rw [hz]
    go_wp2_with fail
    go_ret3
    exact ⟨rfl, hb1⟩
  cases hg : within g 1 1000000
  · have e0 : lbOk n R z g = false := by unfold lbOk; rw [hd, hz, hg]; rfl
    (have e1 : lbF n R z g = 0 := (by unfold lbF; rw [e0]; rfl); have e2 : lbM n R z g = 0 := (by unfold lbM; rw [e0]; rfl); have e3 : lbK n R z g = false := (by unfold lbK; rw [e0]; rfl); rw [e1, e2, e3]; clear e0 e1 e2 e3)
    go_enter Tryz.func17, Tryz.ntmps17
    go_wp2_with fail
    refine (C_l22Good _ _ _ _ HH.out HS.out).mono ?_; rintro e w1 ⟨rfl, hb1⟩; rw [hd]
    go_wp2_with fail
    refine (C_l22Who _ _).mono ?_; rintro e w2 ⟨rfl, rfl⟩; rw [hz]
    go_wp2_with fail
    refine (C_l1In _ _ _ _).mono ?_; rintro e w3 ⟨rfl, rfl⟩; rw [hg]
    go_wp2_with fail
    go_ret3
    exact ⟨rfl, hb1⟩
  have hn15 := accB_le hd
  have e0 : lbOk n R z g = true := by unfold lbOk; rw [hd, hz, hg]; rfl
  have e1 : lbF n R z g = (brM R z g n).best := by unfold lbF; rw [e0]; rfl
  have e2 : lbM n R z g = (brM R z g n).most := by unfold lbM; rw [e0]; rfl
  have e3 : lbK n R z g = decide (0 < (brM R z g n).most) := by unfold lbK; rw [e0]; rfl
  rw [e1, e2, e3]; clear e0 e1 e2 e3
  obtain ⟨g1, g2⟩ := within_iff.1 hg
  have HBD := Lib.hid (brM_bd z g hd)
  have HAB := Lib.hid (fun k (hk : k < n) => (accB_bd hd hk).1)
  go_enter Tryz.func17, Tryz.ntmps17
  go_wp2_with fail
  refine (C_l22Good _ _ _ _ HH.out HS.out).mono ?_; rintro e w1 ⟨rfl, hb1⟩; rw [hd]
  go_wp2_with fail
  refine (C_l22Who _ _).mono ?_; rintro e w2 ⟨rfl, rfl⟩; rw [hz]
  go_wp2_with fail
  refine (C_l1In _ _ _ _).mono ?_; rintro e w3 ⟨rfl, rfl⟩; rw [hg]
  go_wp2_with fail
  go_loopw [9, 10, 11, 12, 13, 14] (fun s9 s10 s11 s12 s13 i wr => ∃ k : Nat, k ≤ n ∧ i = .int .i64 k ∧ s9 = .int .i64 (brM R z g k).best ∧ s10 = .int .i64 (brM R z g k).most ∧ s11 = .int .i64 (brM R z g k).fst ∧ s12 = .int .i64 (brM R z g k).run ∧ s13 = .int .i64 (brM R z g k).last ∧ Below w.heap.size w wr) (fun _ _ _ _ _ i _ => n - (intOf i).toNat)
  case atStart => exact ⟨0, Nat.zero_le _, rfl, rfl, rfl, rfl, rfl, rfl, hb1⟩
  case round =>
    obtain ⟨k, hk, rfl, h9, h10, h11, h12, h13, hB⟩ := hrel
    have hzB := hB.size
    obtain ⟨⟨q1, q2⟩, ⟨q3, q4⟩, q5, q6⟩ := HBD.out k hk
    obtain ⟨S, hS⟩ : ∃ S, brM R z g k = S := ⟨_, rfl⟩
    rw [hS] at h9 h10 h11 h12 h13 q1 q2 q3 q4 q5 q6
    obtain ⟨be, mo, fi, ru, la⟩ := S
    simp only at h9 h10 h11 h12 h13 q1 q2 q3 q4 q5 q6
    have HSS := Lib.hid hS
    clear hS
    subst h9 h10 h11 h12 h13
    by_cases hlt : k < n
    · obtain ⟨b, off, rfl, hb, hcell⟩ := (HR.out.below hB) (by omega)
      obtain ⟨c0, c1, c2, c3, c4⟩ := hcell k hlt
      obtain ⟨t1, t2⟩ := HAB.out k hlt
      clear hcell
      cases hw : ((R k).who == z)
      · have hw2 : ((R k).who != z) = true := by simp [bne, hw]
        have hnx := brM_no (g := g) hw
        have HNX := Lib.hid (hnx.trans HSS.out)
        clear hnx
        go_wp2
        (go_roundw; (case rel => exact ⟨k + 1, by omega, by go_num, by rw [HNX.out], by rw [HNX.out]; try go_num, by rw [HNX.out], by rw [HNX.out]; try go_num, by rw [HNX.out], by (repeat (first | with_reducible exact Below.refl _ _ | with_reducible exact below_regrown _ _ _ | with_reducible refine bel_step0 (by assumption) ?_ | with_reducible refine bel_alloc0 ?_ _ | with_reducible refine bel_regrown0 ?_ _ _ | with_reducible refine bel_regrown ?_ (by first | omega | (simp; done) | (simp; omega)) _ _ | with_reducible refine below_drewN ?_ _ | with_reducible refine Below.drew ?_ | with_reducible refine Below.alloc ?_ (by first | omega | (simp; done) | (simp; omega)) _ | with_reducible refine Below.setCell ?_ (by first | omega | (simp; done) | (simp; omega)) _ | with_reducible refine bel_step (by assumption) (by first | omega | (simp; done) | (simp; omega)) ?_ | with_reducible refine bel_grown (by assumption) (by first | omega | (simp; done) | (simp; omega)) (by first | omega | (simp; done) | (simp; omega)) ?_))⟩); (case measure => simp [intOf]; omega))
      · have hw2 : ((R k).who != z) = false := by simp [bne, hw]
        by_cases hr0 : 0 < ru
        · have hr1 : (ru == 0) = false := by simp; omega
          by_cases hgp : (R k).tick - la ≤ g
          · by_cases hmo : mo < ru + 1
            · have HNX := Lib.hid (brM_C HSS.out hw hr0 hgp hmo)
              go_wp2
              (go_roundw; (case rel => exact ⟨k + 1, by omega, by go_num, by rw [HNX.out], by rw [HNX.out]; try go_num, by rw [HNX.out], by rw [HNX.out]; try go_num, by rw [HNX.out], by (repeat (first | with_reducible exact Below.refl _ _ | with_reducible exact below_regrown _ _ _ | with_reducible refine bel_step0 (by assumption) ?_ | with_reducible refine bel_alloc0 ?_ _ | with_reducible refine bel_regrown0 ?_ _ _ | with_reducible refine bel_regrown ?_ (by first | omega | (simp; done) | (simp; omega)) _ _ | with_reducible refine below_drewN ?_ _ | with_reducible refine Below.drew ?_ | with_reducible refine Below.alloc ?_ (by first | omega | (simp; done) | (simp; omega)) _ | with_reducible refine Below.setCell ?_ (by first | omega | (simp; done) | (simp; omega)) _ | with_reducible refine bel_step (by assumption) (by first | omega | (simp; done) | (simp; omega)) ?_ | with_reducible refine bel_grown (by assumption) (by first | omega | (simp; done) | (simp; omega)) (by first | omega | (simp; done) | (simp; omega)) ?_))⟩); (case measure => simp [intOf]; omega))
            · have HNX := Lib.hid (brM_D HSS.out hw hr0 hgp hmo)
              go_wp2
              (go_roundw; (case rel => exact ⟨k + 1, by omega, by go_num, by rw [HNX.out], by rw [HNX.out]; try go_num, by rw [HNX.out], by rw [HNX.out]; try go_num, by rw [HNX.out], by (repeat (first | with_reducible exact Below.refl _ _ | with_reducible exact below_regrown _ _ _ | with_reducible refine bel_step0 (by assumption) ?_ | with_reducible refine bel_alloc0 ?_ _ | with_reducible refine bel_regrown0 ?_ _ _ | with_reducible refine bel_regrown ?_ (by first | omega | (simp; done) | (simp; omega)) _ _ | with_reducible refine below_drewN ?_ _ | with_reducible refine Below.drew ?_ | with_reducible refine Below.alloc ?_ (by first | omega | (simp; done) | (simp; omega)) _ | with_reducible refine Below.setCell ?_ (by first | omega | (simp; done) | (simp; omega)) _ | with_reducible refine bel_step (by assumption) (by first | omega | (simp; done) | (simp; omega)) ?_ | with_reducible refine bel_grown (by assumption) (by first | omega | (simp; done) | (simp; omega)) (by first | omega | (simp; done) | (simp; omega)) ?_))⟩); (case measure => simp [intOf]; omega))
          · by_cases hmo : mo < 1
            · have HNX := Lib.hid (brM_E (g := g) HSS.out hw (fun h => hgp h.2) hmo)
              go_wp2
              (go_roundw; (case rel => exact ⟨k + 1, by omega, by go_num, by rw [HNX.out], by rw [HNX.out]; try go_num, by rw [HNX.out], by rw [HNX.out]; try go_num, by rw [HNX.out], by (repeat (first | with_reducible exact Below.refl _ _ | with_reducible exact below_regrown _ _ _ | with_reducible refine bel_step0 (by assumption) ?_ | with_reducible refine bel_alloc0 ?_ _ | with_reducible refine bel_regrown0 ?_ _ _ | with_reducible refine bel_regrown ?_ (by first | omega | (simp; done) | (simp; omega)) _ _ | with_reducible refine below_drewN ?_ _ | with_reducible refine Below.drew ?_ | with_reducible refine Below.alloc ?_ (by first | omega | (simp; done) | (simp; omega)) _ | with_reducible refine Below.setCell ?_ (by first | omega | (simp; done) | (simp; omega)) _ | with_reducible refine bel_step (by assumption) (by first | omega | (simp; done) | (simp; omega)) ?_ | with_reducible refine bel_grown (by assumption) (by first | omega | (simp; done) | (simp; omega)) (by first | omega | (simp; done) | (simp; omega)) ?_))⟩); (case measure => simp [intOf]; omega))
            · have HNX := Lib.hid (brM_F (g := g) HSS.out hw (fun h => hgp h.2) hmo)
              go_wp2
              (go_roundw; (case rel => exact ⟨k + 1, by omega, by go_num, by rw [HNX.out], by rw [HNX.out]; try go_num, by rw [HNX.out], by rw [HNX.out]; try go_num, by rw [HNX.out], by (repeat (first | with_reducible exact Below.refl _ _ | with_reducible exact below_regrown _ _ _ | with_reducible refine bel_step0 (by assumption) ?_ | with_reducible refine bel_alloc0 ?_ _ | with_reducible refine bel_regrown0 ?_ _ _ | with_reducible refine bel_regrown ?_ (by first | omega | (simp; done) | (simp; omega)) _ _ | with_reducible refine below_drewN ?_ _ | with_reducible refine Below.drew ?_ | with_reducible refine Below.alloc ?_ (by first | omega | (simp; done) | (simp; omega)) _ | with_reducible refine Below.setCell ?_ (by first | omega | (simp; done) | (simp; omega)) _ | with_reducible refine bel_step (by assumption) (by first | omega | (simp; done) | (simp; omega)) ?_ | with_reducible refine bel_grown (by assumption) (by first | omega | (simp; done) | (simp; omega)) (by first | omega | (simp; done) | (simp; omega)) ?_))⟩); (case measure => simp [intOf]; omega))
        · obtain rfl : ru = 0 := by omega
          by_cases hmo : mo < 1
          · have HNX := Lib.hid (brM_E (g := g) HSS.out hw (fun h => hr0 h.1) hmo)
            go_wp2
            (go_roundw; (case rel => exact ⟨k + 1, by omega, by go_num, by rw [HNX.out], by rw [HNX.out]; try go_num, by rw [HNX.out], by rw [HNX.out]; try go_num, by rw [HNX.out], by (repeat (first | with_reducible exact Below.refl _ _ | with_reducible exact below_regrown _ _ _ | with_reducible refine bel_step0 (by assumption) ?_ | with_reducible refine bel_alloc0 ?_ _ | with_reducible refine bel_regrown0 ?_ _ _ | with_reducible refine bel_regrown ?_ (by first | omega | (simp; done) | (simp; omega)) _ _ | with_reducible refine below_drewN ?_ _ | with_reducible refine Below.drew ?_ | with_reducible refine Below.alloc ?_ (by first | omega | (simp; done) | (simp; omega)) _ | with_reducible refine Below.setCell ?_ (by first | omega | (simp; done) | (simp; omega)) _ | with_reducible refine bel_step (by assumption) (by first | omega | (simp; done) | (simp; omega)) ?_ | with_reducible refine bel_grown (by assumption) (by first | omega | (simp; done) | (simp; omega)) (by first | omega | (simp; done) | (simp; omega)) ?_))⟩); (case measure => simp [intOf]; omega))
          · have HNX := Lib.hid (brM_F (g := g) HSS.out hw (fun h => hr0 h.1) hmo)
            go_wp2
            (go_roundw; (case rel => exact ⟨k + 1, by omega, by go_num, by rw [HNX.out], by rw [HNX.out]; try go_num, by rw [HNX.out], by rw [HNX.out]; try go_num, by rw [HNX.out], by (repeat (first | with_reducible exact Below.refl _ _ | with_reducible exact below_regrown _ _ _ | with_reducible refine bel_step0 (by assumption) ?_ | with_reducible refine bel_alloc0 ?_ _ | with_reducible refine bel_regrown0 ?_ _ _ | with_reducible refine bel_regrown ?_ (by first | omega | (simp; done) | (simp; omega)) _ _ | with_reducible refine below_drewN ?_ _ | with_reducible refine Below.drew ?_ | with_reducible refine Below.alloc ?_ (by first | omega | (simp; done) | (simp; omega)) _ | with_reducible refine Below.setCell ?_ (by first | omega | (simp; done) | (simp; omega)) _ | with_reducible refine bel_step (by assumption) (by first | omega | (simp; done) | (simp; omega)) ?_ | with_reducible refine bel_grown (by assumption) (by first | omega | (simp; done) | (simp; omega)) (by first | omega | (simp; done) | (simp; omega)) ?_))⟩); (case measure => simp [intOf]; omega))
    · obtain rfl : k = n := by omega
      go_wp2
      go_ret3
      exact ⟨by rw [HSS.out]; first | done | rfl | simp, hB⟩
end Go.Proofs.YtmhelhjjadoiaaaGreatDoor
