/- Looks without a reason among some words: the reference. No condition but those stated. -/
import Derived.Test.YtmhelhjjadoiaaaDoorLkG
namespace Go.Proofs.YtmhelhjjadoiaaaDoor
set_option linter.unusedVariables false
set_option linter.unusedSimpArgs false
open Go.RowKit Go.Sort
set_option maxHeartbeats 4000000 in
theorem C_UnexplainedS (v u : Value) (n : Nat) (R : Nat → Lk) (m : Nat) (f : Nat → ByteArray) (w : World) (h : LKs w v n R) (hs : ∀ j, j < n → (R j).why.size ≤ 9223372036854775807) (hu : TI w u m f) (hf : ∀ j, j < m → (f j).size ≤ 9223372036854775807) :
    Calls Tryd.prog 36 #[v, u] w fun e w' => ∃ v', e = .returned (.tuple #[v', .bool (ueOk n R m f)]) ∧ OI w.heap.size w' v' (ueL n R m f) ∧ Below w.heap.size w w' := by
  obtain ⟨w0, hw0⟩ : ∃ w0, w0 = w.alloc (.cells #[] 3) := ⟨_, rfl⟩
  have hb0 : Below w.heap.size w w0 := by rw [hw0]; (repeat (first | with_reducible exact Below.refl _ _ | with_reducible exact below_regrown _ _ _ | with_reducible refine bel_step0 (by assumption) ?_ | with_reducible refine bel_alloc0 ?_ _ | with_reducible refine bel_regrown0 ?_ _ _ | with_reducible refine bel_regrown ?_ (by first | omega | (simp; done) | (simp; omega)) _ _ | with_reducible refine below_drewN ?_ _ | with_reducible refine Below.drew ?_ | with_reducible refine Below.alloc ?_ (by first | omega | (simp; done) | (simp; omega)) _ | with_reducible refine Below.setCell ?_ (by first | omega | (simp; done) | (simp; omega)) _ | with_reducible refine bel_step (by assumption) (by first | omega | (simp; done) | (simp; omega)) ?_ | with_reducible refine bel_grown (by assumption) (by first | omega | (simp; done) | (simp; omega)) (by first | omega | (simp; done) | (simp; omega)) ?_))
  have ho0 : OI w.heap.size w0 (.slice (some ⟨w.heap.size, 0, none⟩) 0 0) [] := by rw [hw0]; exact OI.empty (Nat.le_refl _)
  have HW0 := Lib.hid hw0
  have HO0 := Lib.hid ho0
  have HH := Lib.hid (h.below hb0)
  have HU := Lib.hid (hu.below hb0)
  have HS := Lib.hid hs
  have HF := Lib.hid hf
  obtain ⟨A, cap, rfl, hr, hc, hm⟩ := h
  obtain ⟨A2, cap2, rfl, hr2, hc2, hm2⟩ := hu
  have HR := Lib.hid hr
  have HR2 := Lib.hid hr2
  clear hr hr2 hs hf hw0 ho0
  cases hd : accB n R
  · have e0 : ueOk n R m f = false := by unfold ueOk; rw [hd]; rfl
    have e1 : ueL n R m f = [] := by unfold ueL; rw [e0]; rfl
    rw [e0, e1]; clear e0 e1
    go_enter Tryd.func36, Tryd.ntmps36
    go_wp2_with fail
    rw [← HW0.out]
    refine (C_l22Good _ _ _ _ HH.out HS.out).mono ?_; rintro e w1 ⟨rfl, hb1⟩; rw [hd]
    go_wp2_with fail
    go_ret2
    exact ⟨_, rfl, HO0.out.below hb1, bel_step0 hb1 hb0⟩
  by_cases hm10 : (m : Int) ≤ 10
  case neg =>
    have e0 : ueOk n R m f = false := by unfold ueOk; rw [decide_eq_false hm10]; simp
    have e1 : ueL n R m f = [] := by unfold ueL; rw [e0]; rfl
    rw [e0, e1]; clear e0 e1
    go_enter Tryd.func36, Tryd.ntmps36
    go_wp2_with fail
    rw [← HW0.out]
    refine (C_l22Good _ _ _ _ HH.out HS.out).mono ?_; rintro e w1 ⟨rfl, hb1⟩; rw [hd]
    go_wp2_with fail
    go_ret2
    exact ⟨_, rfl, HO0.out.below hb1, bel_step0 hb1 hb0⟩
  have hn15 := accB_le hd
  obtain ⟨ok, hok⟩ : ∃ ok, ueOk n R m f = ok := ⟨_, rfl⟩
  obtain ⟨L, hL⟩ : ∃ L, ueL n R m f = L := ⟨_, rfl⟩
  have hno : allB m (fun j => wordB (f j)) = false → ok = false ∧ L = [] := fun hw => by
    have e0 : ueOk n R m f = false := by unfold ueOk; rw [hw]; simp
    have e1 : ueL n R m f = [] := by unfold ueL; rw [e0]; rfl
    exact ⟨hok.symm.trans e0, hL.symm.trans e1⟩
  have hyes : allB m (fun j => wordB (f j)) = true → ok = true ∧ L = unL (ueB m f R) n := fun hw => by
    have e0 : ueOk n R m f = true := by unfold ueOk; rw [hd, hw, decide_eq_true hm10]; rfl
    have e1 : ueL n R m f = unL (ueB m f R) n := by unfold ueL; rw [e0]; rfl
    exact ⟨hok.symm.trans e0, hL.symm.trans e1⟩
  rw [hok, hL]
  have HNO := Lib.hid hno
  have HYES := Lib.hid hyes
  clear hok hL hno hyes
  go_enter Tryd.func36, Tryd.ntmps36
  go_wp2_with fail
  rw [← HW0.out]
  refine (C_l22Good _ _ _ _ HH.out HS.out).mono ?_; rintro e w1 ⟨rfl, hb1⟩; rw [hd]
  have HB1 := Lib.hid (bel_step0 hb1 hb0)
  have HO1 := Lib.hid (HO0.out.below hb1)
  clear hb1 hb0
  go_wp2_with fail
  go_loop [7] (fun i => ∃ k : Nat, k ≤ m ∧ i = .int .i64 k ∧ allB k (fun j => wordB (f j)) = true) (fun i => m - (intOf i).toNat)
  case atStart => exact ⟨0, Nat.zero_le _, rfl, rfl⟩
  case round =>
    obtain ⟨k, hk, rfl, ha⟩ := hrel
    have HA := Lib.hid ha; clear ha
    by_cases hlt : k < m
    · obtain ⟨bb, off, rfl, hb, hcell⟩ := (HR2.out.below HB1.out) (by omega)
      have hck := hcell k hlt
      have hsk := HF.out k hlt
      clear hcell
      cases hok : wordB (f k)
      all_goals
        go_wp2_with fail
        refine (C_l2Word _ _ hsk).mono ?_; rintro e w' ⟨rfl, rfl⟩; rw [hok]
        go_wp2
      · go_ret2
        obtain ⟨rfl, rfl⟩ := HNO.out (allB_of_not hlt hok)
        exact ⟨_, rfl, HO1.out, HB1.out⟩
      · go_round
        case rel => exact ⟨k + 1, by omega, by go_num, allB_next HA.out hok⟩
        case measure => simp [intOf]; omega
    · obtain rfl : k = m := by omega
      obtain ⟨rfl, rfl⟩ := HYES.out HA.out
      obtain ⟨p, hp⟩ : ∃ p, ueB k f R = p := ⟨_, rfl⟩
      have HP := Lib.hid (fun j => congrFun hp j)
      have HPE := Lib.hid hp
      clear hp
      go_wp2
      go_loopw [6, 8, 9, 10] (fun o i _ _ wr => ∃ q : Nat, q ≤ n ∧ i = .int .i64 q ∧ OI w.heap.size wr o (unL p q) ∧ Below w.heap.size w wr) (fun _ i _ _ _ => n - (intOf i).toNat)
      case atStart => exact ⟨0, Nat.zero_le _, rfl, HO1.out, HB1.out⟩
      case round =>
        obtain ⟨q, hq, rfl, ho, hB⟩ := hrel
        have HO := Lib.hid ho; clear ho
        obtain ⟨wo, rfl⟩ : ∃ wo : World, wo = wr := ⟨_, rfl⟩
        have HBB := Lib.hid hB
        have hbs := hB.size
        by_cases hql : q < n
        · obtain ⟨b, off, rfl, hb, hcell⟩ := (HR.out.below hB) (by omega)
          have HC4 := Lib.hid (hcell q hql).c4
          have hll := unL_le p q
          have hpk : (!inB k f (R q).why) = p q := HP.out q
          have HPK := Lib.hid hpk
          have hqi : (q : Int) < (n : Int) := by omega
          clear hcell hB hpk
          go_wp2
          go_loopw [9, 10] (fun z i wr => ∃ t : Nat, t ≤ k ∧ i = .int .i64 t ∧ z = .bool (anyB t fun j => (f j).toList == (R q).why.toList) ∧ Below wo.heap.size wo wr) (fun _ i _ => k - (intOf i).toNat)
          case atStart => exact ⟨0, Nat.zero_le _, rfl, rfl, Below.refl _ _⟩
          case round =>
            obtain ⟨t, ht, rfl, hz, hBt⟩ := hrel
            have hzt := hBt.size
            by_cases htl : t < k
            · obtain ⟨b2, off2, rfl, hb2, hcell2⟩ := (HR2.out.below (bel_step0 hBt HBB.out)) (by omega)
              have hck := cell_regrown (hcell2 t htl)
              have hc4 := cell_regrown ((hBt.cell (p := ⟨b, off + q * 5 + 4, none⟩) hb).trans HC4.out)
              have hti : (t : Int) < (k : Int) := by omega
              have hnx : (anyB (t + 1) fun j => (f j).toList == (R q).why.toList) = ((anyB t fun j => (f j).toList == (R q).why.toList) || ((f t).toList == (R q).why.toList)) := anyB_succ _ _
              obtain ⟨a, ha⟩ : ∃ a, (anyB t fun j => (f j).toList == (R q).why.toList) = a := ⟨_, rfl⟩
              rw [ha] at hnx hz
              have HNX := Lib.hid hnx
              clear hcell2 ha hnx
              subst hz
              cases a
              · cases he : ((f t).toList == (R q).why.toList)
                all_goals
                  go_wp2
                  (refine wp_region_quiet_below (by kernel_rfl) (by kernel_rfl) ?_; (repeat (go_big_quiet_step (fail))); refine wpQuiet_nil ?_; intro _ hw'; obtain ⟨⟨dq, osq⟩, hw''⟩ := hw'; subst hw'')
                  go_wp2
                  go_roundw
                  case rel => exact ⟨t + 1, by omega, by go_num, by rw [HNX.out, he]; rfl, by (repeat (first | with_reducible exact Below.refl _ _ | with_reducible exact below_regrown _ _ _ | with_reducible refine bel_step0 (by assumption) ?_ | with_reducible refine bel_alloc0 ?_ _ | with_reducible refine bel_regrown0 ?_ _ _ | with_reducible refine bel_regrown ?_ (by first | omega | (simp; done) | (simp; omega)) _ _ | with_reducible refine below_drewN ?_ _ | with_reducible refine Below.drew ?_ | with_reducible refine Below.alloc ?_ (by first | omega | (simp; done) | (simp; omega)) _ | with_reducible refine Below.setCell ?_ (by first | omega | (simp; done) | (simp; omega)) _ | with_reducible refine bel_step (by assumption) (by first | omega | (simp; done) | (simp; omega)) ?_ | with_reducible refine bel_grown (by assumption) (by first | omega | (simp; done) | (simp; omega)) (by first | omega | (simp; done) | (simp; omega)) ?_))⟩
                  case measure => simp [intOf]; omega
              · go_wp2
                (refine wp_region_quiet_below (by kernel_rfl) (by kernel_rfl) ?_; (repeat (go_big_quiet_step (fail))); refine wpQuiet_nil ?_; intro _ hw'; obtain ⟨⟨dq, osq⟩, hw''⟩ := hw'; subst hw'')
                go_wp2
                go_roundw
                case rel => exact ⟨t + 1, by omega, by go_num, by rw [HNX.out]; rfl, by (repeat (first | with_reducible exact Below.refl _ _ | with_reducible exact below_regrown _ _ _ | with_reducible refine bel_step0 (by assumption) ?_ | with_reducible refine bel_alloc0 ?_ _ | with_reducible refine bel_regrown0 ?_ _ _ | with_reducible refine bel_regrown ?_ (by first | omega | (simp; done) | (simp; omega)) _ _ | with_reducible refine below_drewN ?_ _ | with_reducible refine Below.drew ?_ | with_reducible refine Below.alloc ?_ (by first | omega | (simp; done) | (simp; omega)) _ | with_reducible refine Below.setCell ?_ (by first | omega | (simp; done) | (simp; omega)) _ | with_reducible refine bel_step (by assumption) (by first | omega | (simp; done) | (simp; omega)) ?_ | with_reducible refine bel_grown (by assumption) (by first | omega | (simp; done) | (simp; omega)) (by first | omega | (simp; done) | (simp; omega)) ?_))⟩
                case measure => simp [intOf]; omega
            · obtain rfl : t = k := by omega
              have hz2 : (anyB t fun j => (f j).toList == (R q).why.toList) = !p q := by rw [← HPK.out]; simp [inB]
              rw [hz2] at hz
              have HO2 := Lib.hid (HO.out.below hBt)
              have HB2 := Lib.hid (bel_step0 hBt HBB.out)
              have hz3 := HB2.out.size
              clear hz2
              subst hz
              cases hpq : p q
              · go_wp2
                go_roundw
                case rel => exact ⟨q + 1, by omega, by go_num, by rw [unL_no hpq]; exact HO2.out, HB2.out⟩
                case measure => simp [intOf]; omega
              · go_wp2_with (at_builtin; refine wp_app1 _ rfl (.tmp 61) (.tmp 63) rfl w.heap.size _ _ rfl (HO2.out.alloc _) wr.heap.size (q : Int) rfl (by simp) (by omega) (by simp; omega) ?_; intro v1 w1 ho1 hb1; have HO1' := Lib.hid ho1; have HB1' := Lib.hid (show Below w.heap.size w w1 from Below.trans (by have hB := HB2.out; (repeat (first | with_reducible exact Below.refl _ _ | with_reducible exact below_regrown _ _ _ | with_reducible refine bel_step0 (by assumption) ?_ | with_reducible refine bel_alloc0 ?_ _ | with_reducible refine bel_regrown0 ?_ _ _ | with_reducible refine bel_regrown ?_ (by first | omega | (simp; done) | (simp; omega)) _ _ | with_reducible refine below_drewN ?_ _ | with_reducible refine Below.drew ?_ | with_reducible refine Below.alloc ?_ (by first | omega | (simp; done) | (simp; omega)) _ | with_reducible refine Below.setCell ?_ (by first | omega | (simp; done) | (simp; omega)) _ | with_reducible refine bel_step (by assumption) (by first | omega | (simp; done) | (simp; omega)) ?_ | with_reducible refine bel_grown (by assumption) (by first | omega | (simp; done) | (simp; omega)) (by first | omega | (simp; done) | (simp; omega)) ?_))) hb1); clear ho1 hb1)
                go_roundw
                case rel => exact ⟨q + 1, by omega, by go_num, by rw [unL_yes hpq]; exact HO1'.out, HB1'.out⟩
                case measure => simp [intOf]; omega
        · obtain rfl : q = n := by omega
          go_wp2
          go_ret2
          exact ⟨_, rfl, by rw [HPE.out]; exact HO.out, HBB.out⟩
end Go.Proofs.YtmhelhjjadoiaaaDoor
