/- Valid looks and accounts: the program and the reference. No condition but those stated. -/
import Derived.Test.YtmhelhjjadoiaaaGreatDoorLkB
namespace Go.Proofs.YtmhelhjjadoiaaaGreatDoor
set_option linter.unusedVariables false
set_option linter.unusedSimpArgs false
open Go.RowKit Go.Sort
theorem C_isId (n : Int) (w : World) :
    Calls Tryz.prog 51 #[.int .i64 n] w fun e w' => e = .returned (.bool (within n 1 99)) ∧ w = w' := by
  go_enter Tryz.func51, Tryz.ntmps51
  go_wp2_with (go_at_call 52; refine (C_within _ _ _ _).mono ?_; rintro e w' ⟨rfl, rfl⟩)
  go_ret
  exact ⟨rfl, rfl⟩

theorem C_isRecordId (n : Int) (w : World) :
    Calls Tryz.prog 40 #[.int .i64 n] w fun e w' => e = .returned (.bool (within n 1 999)) ∧ w = w' := by
  go_enter Tryz.func40, Tryz.ntmps40
  go_wp2_with (go_at_call 52; refine (C_within _ _ _ _).mono ?_; rintro e w' ⟨rfl, rfl⟩)
  go_ret
  exact ⟨rfl, rfl⟩

theorem C_l22Who (n : Int) (w : World) :
    Calls Tryz.prog 53 #[.int .i64 n] w fun e w' => e = .returned (.bool (within n 1 99)) ∧ w = w' := by
  go_enter Tryz.func53, Tryz.ntmps53
  go_wp2_with (go_at_call 54; refine (C_l1In _ _ _ _).mono ?_; rintro e w' ⟨rfl, rfl⟩)
  go_ret
  exact ⟨rfl, rfl⟩

theorem C_l17Record (n : Int) (w : World) :
    Calls Tryz.prog 44 #[.int .i64 n] w fun e w' => e = .returned (.bool (within n 1 999)) ∧ w = w' := by
  go_enter Tryz.func44, Tryz.ntmps44
  go_wp2_with (go_at_call 54; refine (C_l1In _ _ _ _).mono ?_; rintro e w' ⟨rfl, rfl⟩)
  go_ret
  exact ⟨rfl, rfl⟩



def okK (x : Lk) : Bool := within x.tick 0 999999 && within x.who 1 99 && within x.rid 1 999 && within x.kind 0 2 && wordB x.why
set_option maxHeartbeats 1000000 in
theorem C_IsLook (a b c d : Int) (s : ByteArray) (w : World) (hs : s.size ≤ 9223372036854775807) :
    Calls Tryz.prog 21 #[.agg #[.int .i64 a, .int .i64 b, .int .i64 c, .int .i64 d, .string s]] w fun e w' => e = .returned (.bool (okK ⟨a, b, c, d, s⟩)) ∧ Below w.heap.size w w' := by
  go_enter Tryz.func21, Tryz.ntmps21
  go_wp2_with (first | (go_at_call 52; refine (C_within _ _ _ _).mono ?_; rintro e w' ⟨rfl, rfl⟩) | (go_at_call 51; refine (C_isId _ _).mono ?_; rintro e w' ⟨rfl, rfl⟩) | (go_at_call 40; refine (C_isRecordId _ _).mono ?_; rintro e w' ⟨rfl, rfl⟩) | (go_at_call 59; refine (C_isWord _ _ (by assumption)).mono ?_; rintro e w' ⟨rfl, hb'⟩; obtain ⟨hc', hf'⟩ := bcell hb'; (try simp only [World.size_drew] at hc' hf'); have hz' := bsize hb'; (try simp at hz'); have ht' := (by first | exact lt_le5 hz' | exact lt_le4 hz' | exact lt_le3 hz' | exact lt_le2 hz' | exact lt_le1 hz' | exact lt_le0 hz' : ∀ n, n < _ → n < w'.heap.size); (first | (obtain ⟨hs1, hs2, hs3, hs4, hs5⟩ := sz5 hz') | (obtain ⟨hs1, hs2, hs3, hs4⟩ := sz4 hz') | (obtain ⟨hs1, hs2, hs3⟩ := sz3 hz') | (obtain ⟨hs1, hs2⟩ := sz2 hz') | (have hs1 := sz1 hz') | skip); (try have hq0 : w.heap.size < w'.heap.size := by omega); (try have hq1 : w.heap.size + 1 < w'.heap.size := by omega); (try have hq2 : w.heap.size + 1 + 1 < w'.heap.size := by omega); (try have hq3 : w.heap.size + 1 + 1 + 1 < w'.heap.size := by omega)))
  all_goals (go_ret; refine ⟨ret_bool ?_, by (repeat (first | with_reducible exact Below.refl _ _ | with_reducible exact below_regrown _ _ _ | with_reducible refine bel_step0 (by assumption) ?_ | with_reducible refine bel_alloc0 ?_ _ | with_reducible refine bel_regrown0 ?_ _ _ | with_reducible refine bel_regrown ?_ (by first | omega | (simp; done) | (simp; omega)) _ _ | with_reducible refine below_drewN ?_ _ | with_reducible refine Below.drew ?_ | with_reducible refine Below.alloc ?_ (by first | omega | (simp; done) | (simp; omega)) _ | with_reducible refine Below.setCell ?_ (by first | omega | (simp; done) | (simp; omega)) _ | with_reducible refine bel_step (by assumption) (by first | omega | (simp; done) | (simp; omega)) ?_ | with_reducible refine bel_grown (by assumption) (by first | omega | (simp; done) | (simp; omega)) (by first | omega | (simp; done) | (simp; omega)) ?_))⟩; simp_all [okK]; done)
set_option maxHeartbeats 1000000 in
theorem C_l22One (a b c d : Int) (s : ByteArray) (w : World) (hs : s.size ≤ 9223372036854775807) :
    Calls Tryz.prog 57 #[.agg #[.int .i64 a, .int .i64 b, .int .i64 c, .int .i64 d, .string s]] w fun e w' => e = .returned (.bool (okK ⟨a, b, c, d, s⟩)) ∧ Below w.heap.size w w' := by
  go_enter Tryz.func57, Tryz.ntmps57
  go_wp2_with (first | (go_at_call 54; refine (C_l1In _ _ _ _).mono ?_; rintro e w' ⟨rfl, rfl⟩) | (go_at_call 53; refine (C_l22Who _ _).mono ?_; rintro e w' ⟨rfl, rfl⟩) | (go_at_call 44; refine (C_l17Record _ _).mono ?_; rintro e w' ⟨rfl, rfl⟩) | (go_at_call 78; refine (C_l2Word _ _ (by assumption)).mono ?_; rintro e w' ⟨rfl, rfl⟩))
  all_goals (go_ret; refine ⟨ret_bool ?_, by (repeat (first | with_reducible exact Below.refl _ _ | with_reducible exact below_regrown _ _ _ | with_reducible refine bel_step0 (by assumption) ?_ | with_reducible refine bel_alloc0 ?_ _ | with_reducible refine bel_regrown0 ?_ _ _ | with_reducible refine bel_regrown ?_ (by first | omega | (simp; done) | (simp; omega)) _ _ | with_reducible refine below_drewN ?_ _ | with_reducible refine Below.drew ?_ | with_reducible refine Below.alloc ?_ (by first | omega | (simp; done) | (simp; omega)) _ | with_reducible refine Below.setCell ?_ (by first | omega | (simp; done) | (simp; omega)) _ | with_reducible refine bel_step (by assumption) (by first | omega | (simp; done) | (simp; omega)) ?_ | with_reducible refine bel_grown (by assumption) (by first | omega | (simp; done) | (simp; omega)) (by first | omega | (simp; done) | (simp; omega)) ?_))⟩; simp_all [okK]; done)

def acc1 (R : Nat → Lk) (j : Nat) : Bool := okK (R j) && (decide (j = 0) || decide ((R (j - 1)).tick < (R j).tick))
def accB (n : Nat) (R : Nat → Lk) : Bool := allB n (acc1 R) && decide ((n : Int) ≤ 15)
theorem acc1_zero (R : Nat → Lk) : acc1 R 0 = okK (R 0) := by simp [acc1]
theorem acc1_succ (R : Nat → Lk) (m : Nat) : acc1 R (m + 1) = (okK (R (m + 1)) && decide ((R m).tick < (R (m + 1)).tick)) := by simp [acc1]
theorem accB_le {n : Nat} {R : Nat → Lk} (h : accB n R = true) : n ≤ 15 := by
  unfold accB at h; simp at h; omega
theorem accB_ok {n : Nat} {R : Nat → Lk} (h : accB n R = true) {j : Nat} (hj : j < n) : okK (R j) = true := by
  unfold accB at h
  rw [Bool.and_eq_true] at h
  have := allB_iff.1 h.1 j hj
  unfold acc1 at this
  rw [Bool.and_eq_true] at this
  exact this.1
theorem accB_bd {n : Nat} {R : Nat → Lk} (h : accB n R = true) {j : Nat} (hj : j < n) : (0 ≤ (R j).tick ∧ (R j).tick ≤ 999999) ∧ (1 ≤ (R j).who ∧ (R j).who ≤ 99) ∧ (1 ≤ (R j).rid ∧ (R j).rid ≤ 999) ∧ (0 ≤ (R j).kind ∧ (R j).kind ≤ 2) := by
  have := accB_ok h hj
  simp [okK, within] at this
  omega
set_option maxHeartbeats 4000000 in
theorem C_l22Good (v : Value) (n : Nat) (R : Nat → Lk) (w : World) (h : LKs w v n R) (hs : ∀ j, j < n → (R j).why.size ≤ 9223372036854775807) :
    Calls Tryz.prog 43 #[v] w fun e w' => e = .returned (.bool (accB n R)) ∧ Below w.heap.size w w' := by
  obtain ⟨A, cap, rfl, hr, hc, hm⟩ := h
  have HR := Lib.hid hr; clear hr
  have HS := Lib.hid hs; clear hs
  go_enter Tryz.func43, Tryz.ntmps43
  go_wp2
  go_loopw [3] (fun i wr => ∃ k : Nat, k ≤ n ∧ i = .int .i64 k ∧ allB k (acc1 R) = true ∧ Below w.heap.size w wr) (fun i _ => n - (intOf i).toNat)
  case atStart => exact ⟨0, Nat.zero_le _, rfl, rfl, Below.refl _ _⟩
  case round =>
    obtain ⟨k, hk, rfl, ha, hB⟩ := hrel
    have HA := Lib.hid ha; clear ha
    by_cases hlt : k < n
    · obtain ⟨b, off, rfl, hb, hcell⟩ := (HR.out.below hB) (by omega)
      have hsk := HS.out k hlt
      obtain ⟨ok, hok⟩ : ∃ ok, okK (R k) = ok := ⟨_, rfl⟩
      have HE : ∀ d os, Calls Tryz.prog 57 #[.agg #[.int .i64 (R k).tick, .int .i64 (R k).who, .int .i64 (R k).rid, .int .i64 (R k).kind, .string (R k).why]] (grow (redrawn wr d) os) fun e w'' => e = .returned (.bool ok) ∧ ∃ p : Regrown, w'' = grow (redrawn wr p.d) p.os :=
        fun d os => Calls.regrown_of ((C_l22One _ _ _ _ _ _ hsk).mono fun e w' hh => ⟨hh.1.trans (by rw [← hok]), hh.2⟩)
      rcases k with _ | m
      · obtain ⟨c0, c1, c2, c3, c4⟩ := hcell 0 hlt
        simp only [Nat.add_zero, Nat.zero_mul] at c0 c1 c2 c3 c4
        have g0 := cell_regrown c0; have g1 := cell_regrown c1; have g2 := cell_regrown c2; have g3 := cell_regrown c3; have g4 := cell_regrown c4
        have hn0 : (0 : Int) < (n : Int) := by omega
        have HG := Lib.hid (acc1_zero R)
        have HOK := Lib.hid hok
        clear hcell c0 c1 c2 c3 c4 hok
        cases ok
        all_goals
          go_wp2
          (refine wp_region_quiet_below (by kernel_rfl) (by kernel_rfl) ?_; (repeat (go_big_quiet_step (exact HE _ _))); refine wpQuiet_nil ?_; intro _ hw'; obtain ⟨⟨dq, osq⟩, hw''⟩ := hw'; subst hw'')
          go_wp2
        · go_ret; exact ⟨ret_bool (by unfold accB; rw [allB_of_not hlt (by rw [HG.out]; exact HOK.out)]; rfl), by (repeat (first | with_reducible exact Below.refl _ _ | with_reducible exact below_regrown _ _ _ | with_reducible refine bel_step0 (by assumption) ?_ | with_reducible refine bel_alloc0 ?_ _ | with_reducible refine bel_regrown0 ?_ _ _ | with_reducible refine bel_regrown ?_ (by first | omega | (simp; done) | (simp; omega)) _ _ | with_reducible refine below_drewN ?_ _ | with_reducible refine Below.drew ?_ | with_reducible refine Below.alloc ?_ (by first | omega | (simp; done) | (simp; omega)) _ | with_reducible refine Below.setCell ?_ (by first | omega | (simp; done) | (simp; omega)) _ | with_reducible refine bel_step (by assumption) (by first | omega | (simp; done) | (simp; omega)) ?_ | with_reducible refine bel_grown (by assumption) (by first | omega | (simp; done) | (simp; omega)) (by first | omega | (simp; done) | (simp; omega)) ?_))⟩
        · go_roundw
          case rel => exact ⟨0 + 1, by omega, by go_num, allB_next HA.out (by rw [HG.out]; exact HOK.out), by (repeat (first | with_reducible exact Below.refl _ _ | with_reducible exact below_regrown _ _ _ | with_reducible refine bel_step0 (by assumption) ?_ | with_reducible refine bel_alloc0 ?_ _ | with_reducible refine bel_regrown0 ?_ _ _ | with_reducible refine bel_regrown ?_ (by first | omega | (simp; done) | (simp; omega)) _ _ | with_reducible refine below_drewN ?_ _ | with_reducible refine Below.drew ?_ | with_reducible refine Below.alloc ?_ (by first | omega | (simp; done) | (simp; omega)) _ | with_reducible refine Below.setCell ?_ (by first | omega | (simp; done) | (simp; omega)) _ | with_reducible refine bel_step (by assumption) (by first | omega | (simp; done) | (simp; omega)) ?_ | with_reducible refine bel_grown (by assumption) (by first | omega | (simp; done) | (simp; omega)) (by first | omega | (simp; done) | (simp; omega)) ?_))⟩
          case measure => simp [intOf]; omega
      · obtain ⟨c0, c1, c2, c3, c4⟩ := hcell (m + 1) hlt
        have p0 := (hcell m (by omega)).c0
        have g0 := cell_regrown c0; have g1 := cell_regrown c1; have g2 := cell_regrown c2; have g3 := cell_regrown c3; have g4 := cell_regrown c4
        have h0 := cell_regrown p0
        have hn0 : (0 : Int) ≤ (m : Int) := by omega
        have hn1 : (m : Int) + 1 < (n : Int) := by omega
        have hn2 : (m : Int) < (n : Int) := by omega
        have HG := Lib.hid (acc1_succ R m)
        have HOK := Lib.hid hok
        clear hcell c0 c1 c2 c3 c4 p0 hok
        cases ok
        all_goals
          go_wp2
          (refine wp_region_quiet_below (by kernel_rfl) (by kernel_rfl) ?_; (repeat (go_big_quiet_step (exact HE _ _))); refine wpQuiet_nil ?_; intro _ hw'; obtain ⟨⟨dq, osq⟩, hw''⟩ := hw'; subst hw'')
          go_wp2
        all_goals first
          | (go_ret; exact ⟨ret_bool (by unfold accB; rw [allB_of_not hlt (by rw [HG.out, HOK.out]; first | rfl | exact (by (first | (simp [*]; done) | (go_light; simp_all; done) | (go_light; simp_all; omega))))]; rfl), by (repeat (first | with_reducible exact Below.refl _ _ | with_reducible exact below_regrown _ _ _ | with_reducible refine bel_step0 (by assumption) ?_ | with_reducible refine bel_alloc0 ?_ _ | with_reducible refine bel_regrown0 ?_ _ _ | with_reducible refine bel_regrown ?_ (by first | omega | (simp; done) | (simp; omega)) _ _ | with_reducible refine below_drewN ?_ _ | with_reducible refine Below.drew ?_ | with_reducible refine Below.alloc ?_ (by first | omega | (simp; done) | (simp; omega)) _ | with_reducible refine Below.setCell ?_ (by first | omega | (simp; done) | (simp; omega)) _ | with_reducible refine bel_step (by assumption) (by first | omega | (simp; done) | (simp; omega)) ?_ | with_reducible refine bel_grown (by assumption) (by first | omega | (simp; done) | (simp; omega)) (by first | omega | (simp; done) | (simp; omega)) ?_))⟩)
          | (go_roundw; (case rel => exact ⟨m + 1 + 1, by omega, by go_num, allB_next HA.out (by rw [HG.out, HOK.out]; exact (by (first | (simp [*]; done) | (go_light; simp_all; done) | (go_light; simp_all; omega)))), by (repeat (first | with_reducible exact Below.refl _ _ | with_reducible exact below_regrown _ _ _ | with_reducible refine bel_step0 (by assumption) ?_ | with_reducible refine bel_alloc0 ?_ _ | with_reducible refine bel_regrown0 ?_ _ _ | with_reducible refine bel_regrown ?_ (by first | omega | (simp; done) | (simp; omega)) _ _ | with_reducible refine below_drewN ?_ _ | with_reducible refine Below.drew ?_ | with_reducible refine Below.alloc ?_ (by first | omega | (simp; done) | (simp; omega)) _ | with_reducible refine Below.setCell ?_ (by first | omega | (simp; done) | (simp; omega)) _ | with_reducible refine bel_step (by assumption) (by first | omega | (simp; done) | (simp; omega)) ?_ | with_reducible refine bel_grown (by assumption) (by first | omega | (simp; done) | (simp; omega)) (by first | omega | (simp; done) | (simp; omega)) ?_))⟩); (case measure => simp [intOf]; omega))
    · obtain rfl : k = n := by omega
      go_wp2
      go_ret
      exact ⟨ret_bool (by unfold accB; rw [HA.out]; first | rfl | (rw [Bool.eq_iff_iff]; simp; done) | (rw [Bool.eq_iff_iff]; simp; omega)), hB⟩
set_option maxHeartbeats 4000000 in
theorem C_IsAccount (v : Value) (n : Nat) (R : Nat → Lk) (w : World) (h : LKs w v n R) (hs : ∀ j, j < n → (R j).why.size ≤ 9223372036854775807) :
    Calls Tryz.prog 26 #[v] w fun e w' => e = .returned (.bool (accB n R)) ∧ Below w.heap.size w w' := by
  obtain ⟨A, cap, rfl, hr, hc, hm⟩ := h
  have HR := Lib.hid hr; clear hr
  have HS := Lib.hid hs; clear hs
  go_enter Tryz.func26, Tryz.ntmps26
  go_wp2
  go_loopw [7] (fun i wr => ∃ k : Nat, k ≤ n ∧ i = .int .i64 k ∧ allB k (acc1 R) = true ∧ Below w.heap.size w wr) (fun i _ => n - (intOf i).toNat)
  case atStart => exact ⟨0, Nat.zero_le _, rfl, rfl, Below.refl _ _⟩
  case round =>
    obtain ⟨k, hk, rfl, ha, hB⟩ := hrel
    have HA := Lib.hid ha; clear ha
    by_cases hlt : k < n
    · obtain ⟨b, off, rfl, hb, hcell⟩ := (HR.out.below hB) (by omega)
      have hsk := HS.out k hlt
      obtain ⟨ok, hok⟩ : ∃ ok, okK (R k) = ok := ⟨_, rfl⟩
      obtain ⟨wl, hwl⟩ : ∃ wl, wl = wr.alloc (.cells #[.int .i64 (R k).tick, .int .i64 (R k).who, .int .i64 (R k).rid, .int .i64 (R k).kind, .string (R k).why] 37) := ⟨_, rfl⟩
      have hbl : Below wr.heap.size wr wl := by rw [hwl]; exact (Below.refl _ _).alloc (Nat.le_refl _) _
      have hl : LkAt wl wr.heap.size 0 (R k) := by rw [hwl]; exact ⟨by simp, by simp, by simp, by simp, by simp⟩
      have hzl : wl.heap.size = wr.heap.size + 1 := by rw [hwl]; simp
      have HWL := Lib.hid hwl
      have HZL := Lib.hid hzl
      have HBW := Lib.hid (bel_step0 hbl hB)
      have HE : ∀ d os, Calls Tryz.prog 21 #[.agg #[.int .i64 (R k).tick, .int .i64 (R k).who, .int .i64 (R k).rid, .int .i64 (R k).kind, .string (R k).why]] (grow (redrawn wl d) os) fun e w'' => e = .returned (.bool ok) ∧ ∃ p : Regrown, w'' = grow (redrawn wl p.d) p.os :=
        fun d os => Calls.regrown_of ((C_IsLook _ _ _ _ _ _ hsk).mono fun e w' hh => ⟨hh.1.trans (by rw [← hok]), hh.2⟩)
      obtain ⟨l0, l1, l2, l3, l4⟩ := hl
      simp only [Nat.zero_add] at l1 l2 l3 l4
      have k0 := cell_regrown l0; have k1 := cell_regrown l1; have k2 := cell_regrown l2; have k3 := cell_regrown l3; have k4 := cell_regrown l4
      clear hwl hzl l0 l1 l2 l3 l4
      rcases k with _ | m
      · obtain ⟨c0, c1, c2, c3, c4⟩ := hcell 0 hlt
        simp only [Nat.add_zero, Nat.zero_mul] at c0 c1 c2 c3 c4
        have hn0 : (0 : Int) < (n : Int) := by omega
        have HG := Lib.hid (acc1_zero R)
        have HOK := Lib.hid hok
        clear hcell hok hbl
        cases ok
        all_goals
          go_upto_region 4 with fail
          rw [← HWL.out]
          clear c0 c1 c2 c3 c4
          (refine wp_region_quiet_below (by kernel_rfl) (by kernel_rfl) ?_; (repeat (go_big_quiet_step (exact HE _ _))); refine wpQuiet_nil ?_; intro _ hw'; obtain ⟨⟨dq, osq⟩, hw''⟩ := hw'; subst hw'')
          go_wp2
        · go_ret; exact ⟨ret_bool (by unfold accB; rw [allB_of_not hlt (by rw [HG.out]; exact HOK.out)]; rfl), by have hB := HBW.out; (repeat (first | with_reducible exact Below.refl _ _ | with_reducible exact below_regrown _ _ _ | with_reducible refine bel_step0 (by assumption) ?_ | with_reducible refine bel_alloc0 ?_ _ | with_reducible refine bel_regrown0 ?_ _ _ | with_reducible refine bel_regrown ?_ (by first | omega | (simp; done) | (simp; omega)) _ _ | with_reducible refine below_drewN ?_ _ | with_reducible refine Below.drew ?_ | with_reducible refine Below.alloc ?_ (by first | omega | (simp; done) | (simp; omega)) _ | with_reducible refine Below.setCell ?_ (by first | omega | (simp; done) | (simp; omega)) _ | with_reducible refine bel_step (by assumption) (by first | omega | (simp; done) | (simp; omega)) ?_ | with_reducible refine bel_grown (by assumption) (by first | omega | (simp; done) | (simp; omega)) (by first | omega | (simp; done) | (simp; omega)) ?_))⟩
        · go_roundw
          case rel => exact ⟨0 + 1, by omega, by go_num, allB_next HA.out (by rw [HG.out]; exact HOK.out), by have hB := HBW.out; (repeat (first | with_reducible exact Below.refl _ _ | with_reducible exact below_regrown _ _ _ | with_reducible refine bel_step0 (by assumption) ?_ | with_reducible refine bel_alloc0 ?_ _ | with_reducible refine bel_regrown0 ?_ _ _ | with_reducible refine bel_regrown ?_ (by first | omega | (simp; done) | (simp; omega)) _ _ | with_reducible refine below_drewN ?_ _ | with_reducible refine Below.drew ?_ | with_reducible refine Below.alloc ?_ (by first | omega | (simp; done) | (simp; omega)) _ | with_reducible refine Below.setCell ?_ (by first | omega | (simp; done) | (simp; omega)) _ | with_reducible refine bel_step (by assumption) (by first | omega | (simp; done) | (simp; omega)) ?_ | with_reducible refine bel_grown (by assumption) (by first | omega | (simp; done) | (simp; omega)) (by first | omega | (simp; done) | (simp; omega)) ?_))⟩
          case measure => simp [intOf]; omega
      · obtain ⟨c0, c1, c2, c3, c4⟩ := hcell (m + 1) hlt
        have p0 := (hbl.cell (p := ⟨b, off + m * 5, none⟩) hb).trans (hcell m (by omega)).c0
        have h0 := cell_regrown p0
        have hn0 : (0 : Int) ≤ (m : Int) := by omega
        have hn1 : (m : Int) + 1 < (n : Int) := by omega
        have hn2 : (m : Int) < (n : Int) := by omega
        have HG := Lib.hid (acc1_succ R m)
        have HOK := Lib.hid hok
        clear hcell p0 hok hbl
        cases ok
        all_goals
          go_upto_region 4 with fail
          rw [← HWL.out]
          clear c0 c1 c2 c3 c4
          (refine wp_region_quiet_below (by kernel_rfl) (by kernel_rfl) ?_; (repeat (go_big_quiet_step (exact HE _ _))); refine wpQuiet_nil ?_; intro _ hw'; obtain ⟨⟨dq, osq⟩, hw''⟩ := hw'; subst hw'')
          go_wp2
        all_goals first
          | (go_ret; exact ⟨ret_bool (by unfold accB; rw [allB_of_not hlt (by rw [HG.out, HOK.out]; first | rfl | exact (by (first | (simp [*]; done) | (go_light; simp_all; done) | (go_light; simp_all; omega))))]; rfl), by have hB := HBW.out; (repeat (first | with_reducible exact Below.refl _ _ | with_reducible exact below_regrown _ _ _ | with_reducible refine bel_step0 (by assumption) ?_ | with_reducible refine bel_alloc0 ?_ _ | with_reducible refine bel_regrown0 ?_ _ _ | with_reducible refine bel_regrown ?_ (by first | omega | (simp; done) | (simp; omega)) _ _ | with_reducible refine below_drewN ?_ _ | with_reducible refine Below.drew ?_ | with_reducible refine Below.alloc ?_ (by first | omega | (simp; done) | (simp; omega)) _ | with_reducible refine Below.setCell ?_ (by first | omega | (simp; done) | (simp; omega)) _ | with_reducible refine bel_step (by assumption) (by first | omega | (simp; done) | (simp; omega)) ?_ | with_reducible refine bel_grown (by assumption) (by first | omega | (simp; done) | (simp; omega)) (by first | omega | (simp; done) | (simp; omega)) ?_))⟩)
          | (go_roundw; (case rel => exact ⟨m + 1 + 1, by omega, by go_num, allB_next HA.out (by rw [HG.out, HOK.out]; exact (by (first | (simp [*]; done) | (go_light; simp_all; done) | (go_light; simp_all; omega)))), by have hB := HBW.out; (repeat (first | with_reducible exact Below.refl _ _ | with_reducible exact below_regrown _ _ _ | with_reducible refine bel_step0 (by assumption) ?_ | with_reducible refine bel_alloc0 ?_ _ | with_reducible refine bel_regrown0 ?_ _ _ | with_reducible refine bel_regrown ?_ (by first | omega | (simp; done) | (simp; omega)) _ _ | with_reducible refine below_drewN ?_ _ | with_reducible refine Below.drew ?_ | with_reducible refine Below.alloc ?_ (by first | omega | (simp; done) | (simp; omega)) _ | with_reducible refine Below.setCell ?_ (by first | omega | (simp; done) | (simp; omega)) _ | with_reducible refine bel_step (by assumption) (by first | omega | (simp; done) | (simp; omega)) ?_ | with_reducible refine bel_grown (by assumption) (by first | omega | (simp; done) | (simp; omega)) (by first | omega | (simp; done) | (simp; omega)) ?_))⟩); (case measure => simp [intOf]; omega))
    · obtain rfl : k = n := by omega
      go_wp2
      go_ret
      exact ⟨ret_bool (by unfold accB; rw [HA.out]; first | rfl | (rw [Bool.eq_iff_iff]; simp; done) | (rw [Bool.eq_iff_iff]; simp; omega)), hB⟩
end Go.Proofs.YtmhelhjjadoiaaaGreatDoor
