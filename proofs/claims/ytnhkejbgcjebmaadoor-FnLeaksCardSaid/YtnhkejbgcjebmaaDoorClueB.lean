/- Dictionaries. No condition but those stated. -/
import Derived.Test.YtnhkejbgcjebmaaDoorClueA
import Derived.Test.YtnhkejbgcjebmaaDoorTxtB
namespace Go.Proofs.YtnhkejbgcjebmaaDoor
set_option linter.unusedVariables false
set_option linter.unusedSimpArgs false
open Go.RowKit Go.Sort
def lessB (x y : ByteArray) : Bool := Op.bytesLess x.toList y.toList
def dict1 (f : Nat → ByteArray) (j : Nat) : Bool := wordB (f j) && (decide (j = 0) || Op.bytesLess (f (j - 1)).toList (f j).toList)
def dictB (n : Nat) (f : Nat → ByteArray) : Bool := allB n (dict1 f) && within n 1 12
theorem dict1_zero (f : Nat → ByteArray) : dict1 f 0 = wordB (f 0) := by simp [dict1]
theorem dict1_succ (f : Nat → ByteArray) (m : Nat) : dict1 f (m + 1) = (wordB (f (m + 1)) && Op.bytesLess (f m).toList (f (m + 1)).toList) := by simp [dict1]
theorem dictB_word {n : Nat} {f : Nat → ByteArray} (h : dictB n f = true) {j : Nat} (hj : j < n) : wordB (f j) = true := by
  unfold dictB at h
  rw [Bool.and_eq_true] at h
  have := allB_iff.1 h.1 j hj
  unfold dict1 at this
  rw [Bool.and_eq_true] at this
  exact this.1
theorem dictB_len {n : Nat} {f : Nat → ByteArray} (h : dictB n f = true) : 1 ≤ n ∧ n ≤ 12 := by
  unfold dictB at h
  rw [Bool.and_eq_true] at h
  obtain ⟨h1, h2⟩ := within_iff.1 h.2
  omega
theorem wordB_size {s : ByteArray} (h : wordB s = true) : 1 ≤ s.size ∧ s.size ≤ 10 := by
  unfold wordB at h
  rw [Bool.and_eq_true] at h
  obtain ⟨h1, h2⟩ := within_iff.1 h.1
  omega
theorem C_IsDictionary (v : Value) (n : Nat) (f : Nat → ByteArray) (w : World) (h : TI w v n f) (hs : ∀ j, j < n → (f j).size ≤ 9223372036854775807) :
    Calls Tryd.prog 27 #[v] w fun e w' => e = .returned (.bool (dictB n f)) ∧ Below w.heap.size w w' := by
  obtain ⟨A, cap, rfl, hr, hc, hm⟩ := h
  have HR := Lib.hid hr; clear hr
  have HS := Lib.hid hs; clear hs
  go_enter Tryd.func27, Tryd.ntmps27
  go_wp2
  go_loopw [7] (fun i wr => ∃ k : Nat, k ≤ n ∧ i = .int .i64 k ∧ allB k (dict1 f) = true ∧ Below w.heap.size w wr) (fun i _ => n - (intOf i).toNat)
  case atStart => exact ⟨0, Nat.zero_le _, rfl, rfl, Below.refl _ _⟩
  case round =>
    obtain ⟨k, hk, rfl, ha, hB⟩ := hrel
    have HA := Lib.hid ha; clear ha
    by_cases hlt : k < n
    · obtain ⟨b, off, rfl, hb, hcell⟩ := (HR.out.below hB) (by omega)
      have hsk := HS.out k hlt
      rcases k with _ | m
      · have hck := hcell 0 hlt
        simp only [Nat.add_zero] at hck
        have hn0 : (0 : Int) < (n : Int) := by omega
        have HG := Lib.hid (dict1_zero f)
        clear hcell
        cases hok : wordB (f 0)
        all_goals
          go_wp2_with (go_at_call 56; refine (C_isWord _ _ hsk).mono ?_; rintro e w' ⟨rfl, hb'⟩; rw [hok])
        · go_ret; exact ⟨ret_bool (by unfold dictB; rw [allB_of_not hlt (by rw [HG.out]; exact hok)]; rfl), by (repeat (first | with_reducible exact Below.refl _ _ | with_reducible exact below_regrown _ _ _ | with_reducible refine bel_step0 (by assumption) ?_ | with_reducible refine bel_alloc0 ?_ _ | with_reducible refine bel_regrown0 ?_ _ _ | with_reducible refine bel_regrown ?_ (by first | omega | (simp; done) | (simp; omega)) _ _ | with_reducible refine below_drewN ?_ _ | with_reducible refine Below.drew ?_ | with_reducible refine Below.alloc ?_ (by first | omega | (simp; done) | (simp; omega)) _ | with_reducible refine Below.setCell ?_ (by first | omega | (simp; done) | (simp; omega)) _ | with_reducible refine bel_step (by assumption) (by first | omega | (simp; done) | (simp; omega)) ?_ | with_reducible refine bel_grown (by assumption) (by first | omega | (simp; done) | (simp; omega)) (by first | omega | (simp; done) | (simp; omega)) ?_))⟩
        · go_roundw
          case rel => exact ⟨0 + 1, by omega, by go_num, allB_next HA.out (by rw [HG.out]; exact hok), by (repeat (first | with_reducible exact Below.refl _ _ | with_reducible exact below_regrown _ _ _ | with_reducible refine bel_step0 (by assumption) ?_ | with_reducible refine bel_alloc0 ?_ _ | with_reducible refine bel_regrown0 ?_ _ _ | with_reducible refine bel_regrown ?_ (by first | omega | (simp; done) | (simp; omega)) _ _ | with_reducible refine below_drewN ?_ _ | with_reducible refine Below.drew ?_ | with_reducible refine Below.alloc ?_ (by first | omega | (simp; done) | (simp; omega)) _ | with_reducible refine Below.setCell ?_ (by first | omega | (simp; done) | (simp; omega)) _ | with_reducible refine bel_step (by assumption) (by first | omega | (simp; done) | (simp; omega)) ?_ | with_reducible refine bel_grown (by assumption) (by first | omega | (simp; done) | (simp; omega)) (by first | omega | (simp; done) | (simp; omega)) ?_))⟩
          case measure => simp [intOf]; omega
      · have hck := hcell (m + 1) hlt
        have hcp := hcell m (by omega)
        have hn0 : (0 : Int) ≤ (m : Int) := by omega
        have hn1 : (m : Int) + 1 < (n : Int) := by omega
        have hn2 : (m : Int) < (n : Int) := by omega
        have HG := Lib.hid (dict1_succ f m)
        clear hcell
        cases hok : wordB (f (m + 1))
        · go_wp2_with (go_at_call 56; refine (C_isWord _ _ hsk).mono ?_; rintro e w' ⟨rfl, hb'⟩; rw [hok])
          go_ret; exact ⟨ret_bool (by unfold dictB; rw [allB_of_not hlt (by rw [HG.out, hok]; rfl)]; rfl), by (repeat (first | with_reducible exact Below.refl _ _ | with_reducible exact below_regrown _ _ _ | with_reducible refine bel_step0 (by assumption) ?_ | with_reducible refine bel_alloc0 ?_ _ | with_reducible refine bel_regrown0 ?_ _ _ | with_reducible refine bel_regrown ?_ (by first | omega | (simp; done) | (simp; omega)) _ _ | with_reducible refine below_drewN ?_ _ | with_reducible refine Below.drew ?_ | with_reducible refine Below.alloc ?_ (by first | omega | (simp; done) | (simp; omega)) _ | with_reducible refine Below.setCell ?_ (by first | omega | (simp; done) | (simp; omega)) _ | with_reducible refine bel_step (by assumption) (by first | omega | (simp; done) | (simp; omega)) ?_ | with_reducible refine bel_grown (by assumption) (by first | omega | (simp; done) | (simp; omega)) (by first | omega | (simp; done) | (simp; omega)) ?_))⟩
        · go_wp2_with (go_at_call 56; refine (C_isWord _ _ hsk).mono ?_; rintro e w' ⟨rfl, hb'⟩; rw [hok]; have hcq := (hb'.cell (p := ⟨b, off + m, none⟩) hb).trans hcp)
          all_goals first
            | (go_ret; exact ⟨ret_bool (by unfold dictB; rw [allB_of_not hlt (by rw [HG.out, hok]; exact (by (first | (simp [*]; done) | (go_light; simp_all; done) | (go_light; simp_all; omega))))]; rfl), by (repeat (first | with_reducible exact Below.refl _ _ | with_reducible exact below_regrown _ _ _ | with_reducible refine bel_step0 (by assumption) ?_ | with_reducible refine bel_alloc0 ?_ _ | with_reducible refine bel_regrown0 ?_ _ _ | with_reducible refine bel_regrown ?_ (by first | omega | (simp; done) | (simp; omega)) _ _ | with_reducible refine below_drewN ?_ _ | with_reducible refine Below.drew ?_ | with_reducible refine Below.alloc ?_ (by first | omega | (simp; done) | (simp; omega)) _ | with_reducible refine Below.setCell ?_ (by first | omega | (simp; done) | (simp; omega)) _ | with_reducible refine bel_step (by assumption) (by first | omega | (simp; done) | (simp; omega)) ?_ | with_reducible refine bel_grown (by assumption) (by first | omega | (simp; done) | (simp; omega)) (by first | omega | (simp; done) | (simp; omega)) ?_))⟩)
            | (go_roundw; (case rel => exact ⟨m + 1 + 1, by omega, by go_num, allB_next HA.out (by rw [HG.out, hok]; exact (by (first | (simp [*]; done) | (go_light; simp_all; done) | (go_light; simp_all; omega)))), by (repeat (first | with_reducible exact Below.refl _ _ | with_reducible exact below_regrown _ _ _ | with_reducible refine bel_step0 (by assumption) ?_ | with_reducible refine bel_alloc0 ?_ _ | with_reducible refine bel_regrown0 ?_ _ _ | with_reducible refine bel_regrown ?_ (by first | omega | (simp; done) | (simp; omega)) _ _ | with_reducible refine below_drewN ?_ _ | with_reducible refine Below.drew ?_ | with_reducible refine Below.alloc ?_ (by first | omega | (simp; done) | (simp; omega)) _ | with_reducible refine Below.setCell ?_ (by first | omega | (simp; done) | (simp; omega)) _ | with_reducible refine bel_step (by assumption) (by first | omega | (simp; done) | (simp; omega)) ?_ | with_reducible refine bel_grown (by assumption) (by first | omega | (simp; done) | (simp; omega)) (by first | omega | (simp; done) | (simp; omega)) ?_))⟩); (case measure => simp [intOf]; omega))
    · obtain rfl : k = n := by omega
      go_wp2_with (go_at_call 57; refine (C_within _ _ _ _).mono ?_; rintro e w' ⟨rfl, rfl⟩)
      go_ret
      exact ⟨ret_bool (by unfold dictB; rw [HA.out]; rfl), hB⟩
set_option maxHeartbeats 1000000 in
theorem C_l20Good (v : Value) (n : Nat) (f : Nat → ByteArray) (w : World) (h : TI w v n f) (hs : ∀ j, j < n → (f j).size ≤ 9223372036854775807) :
    Calls Tryd.prog 60 #[v] w fun e w' => e = .returned (.bool (dictB n f)) ∧ Below w.heap.size w w' := by
  obtain ⟨A, cap, rfl, hr, hc, hm⟩ := h
  have HR := Lib.hid hr; clear hr
  have HS := Lib.hid hs; clear hs
  go_enter Tryd.func60, Tryd.ntmps60
  go_wp2
  go_loopw [3] (fun i wr => ∃ k : Nat, k ≤ n ∧ i = .int .i64 k ∧ allB k (dict1 f) = true ∧ Below w.heap.size w wr) (fun i _ => n - (intOf i).toNat)
  case atStart => exact ⟨0, Nat.zero_le _, rfl, rfl, Below.refl _ _⟩
  case round =>
    obtain ⟨k, hk, rfl, ha, hB⟩ := hrel
    have HA := Lib.hid ha; clear ha
    by_cases hlt : k < n
    · obtain ⟨b, off, rfl, hb, hcell⟩ := (HR.out.below hB) (by omega)
      have hsk := HS.out k hlt
      have HE : ∀ W, Calls Tryd.prog 53 #[.string (f k)] W fun e w' => e = .returned (.bool (wordB (f k))) ∧ w' = W := fun W => (C_l2Word _ W hsk).mono fun e w' hh => ⟨hh.1, hh.2.symm⟩
      rcases k with _ | m
      · have hck := hcell 0 hlt
        simp only [Nat.add_zero] at hck
        have hn0 : (0 : Int) < (n : Int) := by omega
        have HG := Lib.hid (dict1_zero f)
        clear hcell
        cases hok : wordB (f 0)
        all_goals
          simp only [hok] at HE
          go_wp2
          go_quiet ((exact Calls.quiet_of_same (HE _)))
          go_wp2
        · go_ret; exact ⟨ret_bool (by unfold dictB; rw [allB_of_not hlt (by rw [HG.out]; exact hok)]; rfl), by (repeat (first | with_reducible exact Below.refl _ _ | with_reducible exact below_regrown _ _ _ | with_reducible refine bel_step0 (by assumption) ?_ | with_reducible refine bel_alloc0 ?_ _ | with_reducible refine bel_regrown0 ?_ _ _ | with_reducible refine bel_regrown ?_ (by first | omega | (simp; done) | (simp; omega)) _ _ | with_reducible refine below_drewN ?_ _ | with_reducible refine Below.drew ?_ | with_reducible refine Below.alloc ?_ (by first | omega | (simp; done) | (simp; omega)) _ | with_reducible refine Below.setCell ?_ (by first | omega | (simp; done) | (simp; omega)) _ | with_reducible refine bel_step (by assumption) (by first | omega | (simp; done) | (simp; omega)) ?_ | with_reducible refine bel_grown (by assumption) (by first | omega | (simp; done) | (simp; omega)) (by first | omega | (simp; done) | (simp; omega)) ?_))⟩
        · go_roundw
          case rel => exact ⟨0 + 1, by omega, by go_num, allB_next HA.out (by rw [HG.out]; exact hok), by (repeat (first | with_reducible exact Below.refl _ _ | with_reducible exact below_regrown _ _ _ | with_reducible refine bel_step0 (by assumption) ?_ | with_reducible refine bel_alloc0 ?_ _ | with_reducible refine bel_regrown0 ?_ _ _ | with_reducible refine bel_regrown ?_ (by first | omega | (simp; done) | (simp; omega)) _ _ | with_reducible refine below_drewN ?_ _ | with_reducible refine Below.drew ?_ | with_reducible refine Below.alloc ?_ (by first | omega | (simp; done) | (simp; omega)) _ | with_reducible refine Below.setCell ?_ (by first | omega | (simp; done) | (simp; omega)) _ | with_reducible refine bel_step (by assumption) (by first | omega | (simp; done) | (simp; omega)) ?_ | with_reducible refine bel_grown (by assumption) (by first | omega | (simp; done) | (simp; omega)) (by first | omega | (simp; done) | (simp; omega)) ?_))⟩
          case measure => simp [intOf]; omega
      · have hck := hcell (m + 1) hlt
        have hcp := hcell m (by omega)
        have hn0 : (0 : Int) ≤ (m : Int) := by omega
        have hn1 : (m : Int) + 1 < (n : Int) := by omega
        have hn2 : (m : Int) < (n : Int) := by omega
        have HG := Lib.hid (dict1_succ f m)
        clear hcell
        cases hok : wordB (f (m + 1))
        all_goals
          simp only [hok] at HE
          go_wp2
          go_quiet ((exact Calls.quiet_of_same (HE _)))
          go_wp2
        all_goals first
          | (go_ret; exact ⟨ret_bool (by unfold dictB; rw [allB_of_not hlt (by rw [HG.out, hok]; exact (by (first | (simp [*]; done) | (go_light; simp_all; done) | (go_light; simp_all; omega))))]; rfl), by (repeat (first | with_reducible exact Below.refl _ _ | with_reducible exact below_regrown _ _ _ | with_reducible refine bel_step0 (by assumption) ?_ | with_reducible refine bel_alloc0 ?_ _ | with_reducible refine bel_regrown0 ?_ _ _ | with_reducible refine bel_regrown ?_ (by first | omega | (simp; done) | (simp; omega)) _ _ | with_reducible refine below_drewN ?_ _ | with_reducible refine Below.drew ?_ | with_reducible refine Below.alloc ?_ (by first | omega | (simp; done) | (simp; omega)) _ | with_reducible refine Below.setCell ?_ (by first | omega | (simp; done) | (simp; omega)) _ | with_reducible refine bel_step (by assumption) (by first | omega | (simp; done) | (simp; omega)) ?_ | with_reducible refine bel_grown (by assumption) (by first | omega | (simp; done) | (simp; omega)) (by first | omega | (simp; done) | (simp; omega)) ?_))⟩)
          | (go_roundw; (case rel => exact ⟨m + 1 + 1, by omega, by go_num, allB_next HA.out (by rw [HG.out, hok]; exact (by (first | (simp [*]; done) | (go_light; simp_all; done) | (go_light; simp_all; omega)))), by (repeat (first | with_reducible exact Below.refl _ _ | with_reducible exact below_regrown _ _ _ | with_reducible refine bel_step0 (by assumption) ?_ | with_reducible refine bel_alloc0 ?_ _ | with_reducible refine bel_regrown0 ?_ _ _ | with_reducible refine bel_regrown ?_ (by first | omega | (simp; done) | (simp; omega)) _ _ | with_reducible refine below_drewN ?_ _ | with_reducible refine Below.drew ?_ | with_reducible refine Below.alloc ?_ (by first | omega | (simp; done) | (simp; omega)) _ | with_reducible refine Below.setCell ?_ (by first | omega | (simp; done) | (simp; omega)) _ | with_reducible refine bel_step (by assumption) (by first | omega | (simp; done) | (simp; omega)) ?_ | with_reducible refine bel_grown (by assumption) (by first | omega | (simp; done) | (simp; omega)) (by first | omega | (simp; done) | (simp; omega)) ?_))⟩); (case measure => simp [intOf]; omega))
    · obtain rfl : k = n := by omega
      go_wp2_with (go_at_call 54; refine (C_l1In _ _ _ _).mono ?_; rintro e w' ⟨rfl, rfl⟩)
      go_ret
      exact ⟨ret_bool (by unfold dictB; rw [HA.out]; rfl), hB⟩
theorem C_IsDictionaryS (v : Value) (n : Nat) (f : Nat → ByteArray) (w : World) (h : TI w v n f) (hs : ∀ j, j < n → (f j).size ≤ 9223372036854775807) :
    Calls Tryd.prog 25 #[v] w fun e w' => e = .returned (.bool (dictB n f)) ∧ Below w.heap.size w w' := by
  obtain ⟨A, cap, rfl, hr, hc, hm⟩ := id h
  go_enter Tryd.func25, Tryd.ntmps25
  go_wp2_with (go_at_call 60; refine (C_l20Good _ _ _ _ h hs).mono ?_; rintro e w' ⟨rfl, hb'⟩)
  go_ret
  exact ⟨rfl, hb'⟩
end Go.Proofs.YtnhkejbgcjebmaaDoor
