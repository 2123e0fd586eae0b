/- StepFor: the reference. No condition but those stated. -/
import Derived.Test.YtnhkejbgcjebmaaDoorClueN
namespace Go.Proofs.YtnhkejbgcjebmaaDoor
set_option linter.unusedVariables false
set_option linter.unusedSimpArgs false
open Go.RowKit Go.Sort Go.WideMaps Go.Maps
theorem ok_next (n : Nat) (f : Nat → ByteArray) (k s : Int) (j : Nat) : allB (j + 1) (ok1 n f k s) = (allB j (ok1 n f k s) && decide (k ≤ (cP n f s (pF f s j) : Int))) := by
  rw [Bool.eq_iff_iff, Bool.and_eq_true, allB_iff, allB_iff]
  constructor
  · intro h
    exact ⟨fun i hi => h i (by omega), h j (by omega)⟩
  · rintro ⟨h1, h2⟩ i hi
    by_cases e : i = j
    · subst e; exact h2
    · exact h1 i (by omega)
set_option maxRecDepth 100000 in
set_option maxHeartbeats 4000000 in
theorem C_StepForS (v : Value) (n : Nat) (f : Nat → ByteArray) (k : Int) (w : World) (h : TI w v n f) (hs : ∀ j, j < n → (f j).size ≤ 9223372036854775807) :
    Calls Tryd.prog 31 #[v, .int .i64 k] w fun e w' => e = .returned (.tuple #[.int .i64 (if stepG n f k then stepI n f k else 0), .bool (stepG n f k && stepB n f k)]) ∧ Below w.heap.size w w' := by
  have HH := Lib.hid h
  have HS := Lib.hid hs
  obtain ⟨A, cap, rfl, hr, hc, hm⟩ := h
  have HR := Lib.hid hr
  clear hr hs
  cases hG : stepG n f k
  · have hg : (dictB n f && within k 1 12) = false := hG
    go_enter Tryd.func31, Tryd.ntmps31
    go_wp2_with fail
    refine (C_l20K _ _ _ _ _ HH.out HS.out).mono ?_; rintro e w1 ⟨rfl, hb1⟩; rw [hg]
    go_wp2_with fail
    go_ret2
    exact ⟨rfl, hb1⟩
  have hg : (dictB n f && within k 1 12) = true := hG
  have hd : dictB n f = true := by rw [Bool.and_eq_true] at hg; exact hg.1
  have hw : ∀ j, j < n → (f j).size ≤ 1048576 := fun j hj => by have := wordB_size (dictB_word hd hj); omega
  have hn := (dictB_len hd).2
  have HW := Lib.hid hw
  have HG := Lib.hid hg
  clear hw hd hG hg
  go_enter Tryd.func31, Tryd.ntmps31
  go_wp2_with fail
  refine (C_l20K _ _ _ _ _ HH.out HS.out).mono ?_; rintro e w1 ⟨rfl, hb1⟩; rw [HG.out]
  go_wp2
  go_loopw [6] (fun p wr => ∃ i : Nat, i ≤ 10 ∧ p = .int .i64 ((i : Int) + 1) ∧ anyB i (okS n f k) = false ∧ Below w.heap.size w wr) (fun p _ => (20 - intOf p).toNat)
  case atStart => exact ⟨0, by omega, rfl, rfl, hb1⟩
  case round =>
    obtain ⟨i, hi, rfl, ha, hB⟩ := hrel
    have HA := Lib.hid ha
    have HB := Lib.hid hB
    clear ha hb1 hB
    by_cases hlt : i < 10
    · have hdec : decide ((i : Int) + 1 ≤ 10) = true := by simp; omega
      go_wp2
      clear hdec
      obtain ⟨wo, rfl⟩ : ∃ wo : World, wo = wr := ⟨_, rfl⟩
      go_loopw [7, 8] (fun b p wr => ∃ j : Nat, j ≤ n ∧ p = .int .i64 j ∧ b = .bool (allB j (ok1 n f k ((i : Int) + 1))) ∧ Below w.heap.size w wr) (fun _ p _ => n - (intOf p).toNat)
      case atStart => exact ⟨0, Nat.zero_le _, rfl, rfl, HB.out⟩
      case round =>
        obtain ⟨j, hj, rfl, rfl, hBj⟩ := hrel
        have HBJ := Lib.hid hBj
        clear hBj
        obtain ⟨bj, hbj⟩ : ∃ b, allB j (ok1 n f k ((i : Int) + 1)) = b := ⟨_, rfl⟩
        by_cases hlj : j < n
        · rw [hbj]
          have hnx := ok_next n f k ((i : Int) + 1) j
          rw [hbj] at hnx
          have HBJ2 := Lib.hid hbj
          clear hbj
          obtain ⟨x, hx⟩ : ∃ x, pF f ((i : Int) + 1) j = x := ⟨_, rfl⟩
          rw [hx] at hnx
          have HNX := Lib.hid hnx
          have HX := Lib.hid hx
          clear hnx hx
          have hj0 : (0 : Int) ≤ (j : Int) := by omega
          have hjn : (j : Int) < (n : Int) := by omega
          go_wp2
          obtain ⟨wq, rfl⟩ : ∃ wq : World, wq = wr := ⟨_, rfl⟩
          go_loopw [9, 10] (fun c p wr => ∃ q : Nat, q ≤ n ∧ p = .int .i64 q ∧ c = .int .i64 (cP q f ((i : Int) + 1) x : Nat) ∧ Below w.heap.size w wr) (fun _ p _ => n - (intOf p).toNat)
          case atStart => exact ⟨0, Nat.zero_le _, rfl, rfl, HBJ.out⟩
          case round =>
            obtain ⟨q, hq, rfl, rfl, hBq⟩ := hrel
            have HBQ := Lib.hid hBq
            clear hBq
            have hle := cP_le q f ((i : Int) + 1) x
            have hsu := cP_succ q f ((i : Int) + 1) x
            obtain ⟨c, hc0⟩ : ∃ c, cP q f ((i : Int) + 1) x = c := ⟨_, rfl⟩
            rw [hc0] at hle hsu
            by_cases hlq : q < n
            · rw [hc0]
              have HSU := Lib.hid hsu
              clear hsu hc0
              obtain ⟨b, off, rfl, hb, hcell⟩ := (HR.out.below HBQ.out) (by omega)
              have hck := hcell q hlq
              have hcj := hcell j hlj
              have hq0 : (0 : Int) ≤ (q : Int) := by omega
              have hqn : (q : Int) < (n : Int) := by omega
              have hzj := HW.out j hlj
              have hzq := HW.out q hlq
              have HE1 := fun W => (C_l20Padded (f q) ((i : Int) + 1) W (by omega) (by omega) hzq).mono fun e w' hh => (⟨hh.1, hh.2.symm⟩ : _ ∧ w' = W)
              have HE2 := fun W => (C_l20Padded (f j) ((i : Int) + 1) W (by omega) (by omega) hzj).mono fun e w' hh => (⟨hh.1.trans (by rw [show padN (f j).size ((i : Int) + 1) = x from HX.out]), hh.2.symm⟩ : e = .returned (.int .i64 x) ∧ w' = W)
              obtain ⟨y, hy⟩ : ∃ y, padN (f q).size ((i : Int) + 1) = y := ⟨_, rfl⟩
              have hsu2 : cP (q + 1) f ((i : Int) + 1) x = c + (if y = x then 1 else 0) := by rw [HSU.out]; unfold pF; rw [hy]
              rw [hy] at HE1
              have HSU2 := Lib.hid hsu2
              clear hy hsu2 HSU hcell
              cases he : (y == x)
              all_goals
                have hyx := he
                go_wp2
                go_quiet ((first | with_reducible exact Calls.quiet_of_same (HE1 _) | with_reducible exact Calls.quiet_of_same (HE2 _)))
                go_wp2
                go_roundw
                case rel => exact ⟨q + 1, by omega, by go_num, by rw [HSU2.out]; (first | rw [if_pos (by simpa using hyx)] | rw [if_neg (by simpa using hyx)]); (first | rfl | go_num), by have := HBQ.out; (repeat (first | with_reducible exact Below.refl _ _ | with_reducible exact below_regrown _ _ _ | with_reducible refine bel_step0 (by assumption) ?_ | with_reducible refine bel_alloc0 ?_ _ | with_reducible refine bel_regrown0 ?_ _ _ | with_reducible refine bel_regrown ?_ (by first | omega | (simp; done) | (simp; omega)) _ _ | with_reducible refine below_drewN ?_ _ | with_reducible refine Below.drew ?_ | with_reducible refine Below.alloc ?_ (by first | omega | (simp; done) | (simp; omega)) _ | with_reducible refine Below.setCell ?_ (by first | omega | (simp; done) | (simp; omega)) _ | with_reducible refine bel_step (by assumption) (by first | omega | (simp; done) | (simp; omega)) ?_ | with_reducible refine bel_grown (by assumption) (by first | omega | (simp; done) | (simp; omega)) (by first | omega | (simp; done) | (simp; omega)) ?_))⟩
                case measure => simp [intOf]; omega
            · obtain rfl : q = n := by omega
              rw [hc0]
              have HC0 := Lib.hid hc0
              clear hc0 hsu
              cases bj
              · go_wp2
                go_roundw
                case rel => exact ⟨j + 1, by omega, by go_num, by rw [HNX.out]; rfl, HBQ.out⟩
                case measure => simp [intOf]; omega
              · cases hkc : decide (k ≤ (c : Int))
                all_goals
                  have hkk := hkc
                  go_wp2
                  go_roundw
                  case rel => exact ⟨j + 1, by omega, by go_num, by rw [HNX.out, HC0.out, hkk]; rfl, HBQ.out⟩
                  case measure => simp [intOf]; omega
        · obtain rfl : j = n := by omega
          have hok : okS j f k i = bj := hbj
          rw [hbj]
          clear hbj
          cases bj
          · have HOK := Lib.hid hok
            clear hok
            go_wp2
            go_roundw
            case rel => exact ⟨i + 1, by omega, by go_num, anyB_next HA.out HOK.out, HBJ.out⟩
            case measure => simp [intOf]; omega
          · have hst := stepI_some hlt HA.out hok
            have HST := Lib.hid hst
            clear hst hok
            go_wp2
            go_ret2
            exact ⟨by rw [HST.out.1, HST.out.2]; rfl, HBJ.out⟩
    · obtain rfl : i = 10 := by omega
      have hst := stepI_none HA.out
      have HST := Lib.hid hst
      clear hst
      go_wp2
      go_ret2
      exact ⟨by rw [HST.out.1, HST.out.2]; rfl, HB.out⟩
end Go.Proofs.YtnhkejbgcjebmaaDoor
