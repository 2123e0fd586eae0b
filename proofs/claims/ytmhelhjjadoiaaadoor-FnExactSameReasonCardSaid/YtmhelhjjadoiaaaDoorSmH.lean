/- The reference's SameReason. No condition but those stated. -/
import Derived.Test.YtmhelhjjadoiaaaDoorSmE
import Derived.Test.YtmhelhjjadoiaaaDoorSmF
import Derived.Test.YtmhelhjjadoiaaaDoorSmG
import Derived.Deep.CutBlock
import Derived.Deep.DeepCutAuto
namespace Go.Proofs.YtmhelhjjadoiaaaDoor
set_option linter.unusedVariables false
set_option linter.unusedSimpArgs false
open Go.RowKit Go.Sort Go.WideMaps Go.Maps
theorem again_succ (R : Nat → Lk) (x : ByteArray) (t : Nat) : (cntS R x (t + 1) != 0) = ((cntS R x t != 0) || ((R t).why.toList == x.toList)) := by
  cases h : ((R t).why.toList == x.toList)
  · rw [cntS_no h]; simp
  · rw [cntS_yes h]; simp
/-- What the reference's loop keeps. -/
structure SR (c : Lit → Int) (R : Nat → Lk) (k : Nat) (w0 w : World) (v1 v2 : Value) (W : List ByteArray) : Prop where
  sp : SortP c R k W
  ot : OT w0.heap.size w v1 W
  oi : OI w0.heap.size w v2 (W.map fun x => c (kS x))
  be : Below w0.heap.size w0 w
theorem SR.old {c : Lit → Int} {R : Nat → Lk} {k : Nat} {w0 w : World} {v1 v2 : Value} {W : List ByteArray} (h : SR c R k w0 w v1 v2 W) (hc : ¬ cL R k (kS (R k).why) = 0) : SR c R (k + 1) w0 w v1 v2 W := ⟨h.sp.old hc, h.ot, h.oi, h.be⟩
theorem SR.begin (c : Lit → Int) (R : Nat → Lk) (w : World) (T T' : TypeId) : True := trivial
set_option maxRecDepth 100000 in
set_option maxHeartbeats 8000000 in
theorem C_SameReasonS (v : Value) (n : Nat) (R : Nat → Lk) (w : World) (h : LKs w v n R) (hs : ∀ j, j < n → (R j).why.size ≤ 9223372036854775807) (hd : accB n R = true) :
    Calls Tryd.prog 51 #[v] w fun e w' => ∃ (v1 v2 : Value) (W : List ByteArray), e = .returned (.tuple #[v1, v2, .bool true]) ∧ SR (cL R n) R n w w' v1 v2 W := by
  have HH := Lib.hid h
  have HS := Lib.hid hs
  have hn15 := accB_le hd
  obtain ⟨A, cap, rfl, hr, hc, hm⟩ := h
  have HR := Lib.hid hr
  obtain ⟨w0, hw0⟩ : ∃ w0, w0 = (w.alloc (.cells #[] 9)).alloc (.cells #[] 3) := ⟨_, rfl⟩
  have hb0 : Below w.heap.size w w0 := by rw [hw0]; (repeat (first | with_reducible exact Below.refl _ _ | with_reducible exact below_regrown _ _ _ | with_reducible refine bel_step0 (by assumption) ?_ | with_reducible refine bel_alloc0 ?_ _ | with_reducible refine bel_regrown0 ?_ _ _ | with_reducible refine bel_regrown ?_ (by first | omega | (simp; done) | (simp; omega)) _ _ | with_reducible refine below_drewN ?_ _ | with_reducible refine Below.drew ?_ | with_reducible refine Below.alloc ?_ (by first | omega | (simp; done) | (simp; omega)) _ | with_reducible refine Below.setCell ?_ (by first | omega | (simp; done) | (simp; omega)) _ | with_reducible refine bel_step (by assumption) (by first | omega | (simp; done) | (simp; omega)) ?_ | with_reducible refine bel_grown (by assumption) (by first | omega | (simp; done) | (simp; omega)) (by first | omega | (simp; done) | (simp; omega)) ?_))
  have HT0 := Lib.hid (show OT w.heap.size w0 (.slice (some ⟨w.heap.size, 0, none⟩) 0 0) [] by rw [hw0]; exact OT.alloc _ (OT.emptyAt rfl (Nat.le_refl _)))
  have HI0 := Lib.hid (show OI w.heap.size w0 (.slice (some ⟨w.heap.size + 1, 0, none⟩) 0 0) [] by rw [hw0]; exact OI.emptyAt (by simp) (by omega))
  have HW0 := Lib.hid hw0
  have HH0 := Lib.hid (HH.out.below hb0)
  have HB0 := Lib.hid hb0
  obtain ⟨c, hcc⟩ : ∃ c, cL R n = c := ⟨_, rfl⟩
  rw [hcc]
  have HCC := Lib.hid hcc
  clear hr hs hw0 hb0 hcc
  go_enter Tryd.func51, Tryd.ntmps51
  go_wp2_with fail
  rw [← HW0.out]
  refine (C_l22Good _ _ _ _ HH0.out HS.out).mono ?_; rintro e w1 ⟨rfl, hb1⟩; rw [hd]
  have HSR := Lib.hid (show SR c R 0 w w1 (.slice (some ⟨w.heap.size, 0, none⟩) 0 0) (.slice (some ⟨w.heap.size + 1, 0, none⟩) 0 0) [] from ⟨SortP.zero c R, HT0.out.below hb1, HI0.out.below hb1, bel_step0 hb1 HB0.out⟩)
  clear hb1 HB0 HT0 HI0 HW0 HH0
  go_wp2_with fail
  go_loopw [5, 6, 7, 8, 9, 10, 11, 12] (fun v1 v2 i _ _ _ _ _ wr => ∃ (k : Nat) (W : List ByteArray), k ≤ n ∧ i = .int .i64 k ∧ SR c R k w wr v1 v2 W) (fun _ _ i _ _ _ _ _ _ => n - (intOf i).toNat)
  case atStart => exact ⟨0, [], Nat.zero_le _, rfl, HSR.out⟩
  case round =>
    clear HSR
    obtain ⟨k, W, hk, rfl, hM⟩ := hrel
    have HM := Lib.hid hM
    by_cases hlt : k < n
    · obtain ⟨b, off, rfl, hb, hcell⟩ := (HR.out.below hM.be) (by omega)
      have c4 := (hcell k hlt).c4
      have HCELL := Lib.hid hcell
      obtain ⟨x, hx⟩ : ∃ x, (R k).why = x := ⟨_, rfl⟩
      rw [hx] at c4
      have HX := Lib.hid hx
      have hki : (k : Int) < (n : Int) := by omega
      have hk0 : (0 : Int) ≤ (k : Int) := by omega
      have hn0 : (n : Int) ≤ 1048576 := by omega
      have HWL := Lib.hid hM.sp.length
      have HSX := Lib.hid (HS.out k hlt)
      rw [hx] at HSX
      clear hcell hM hx
      go_wp2
      go_loop [9, 10] (fun z i => ∃ t : Nat, t ≤ k ∧ i = .int .i64 t ∧ z = .bool (cntS R x t != 0)) (fun _ i => k - (intOf i).toNat)
      case atStart => exact ⟨0, Nat.zero_le _, rfl, rfl⟩
      case round =>
        obtain ⟨t, ht, rfl, hz⟩ := hrel
        by_cases htl : t < k
        · have hck := (HCELL.out t (by omega)).c4
          have hti : (t : Int) < (k : Int) := by omega
          have hnx := again_succ R x t
          obtain ⟨a, ha⟩ : ∃ a, (cntS R x t != 0) = a := ⟨_, rfl⟩
          rw [ha] at hnx hz
          have HNX := Lib.hid hnx
          clear ha hnx
          subst hz
          cases a
          · cases he : ((R t).why.toList == x.toList)
            all_goals
              go_wp2
              go_round
              case rel => exact ⟨t + 1, by omega, by go_num, by rw [HNX.out, he]; rfl⟩
              case measure => simp [intOf]; omega
          · go_wp2
            go_round
            case rel => exact ⟨t + 1, by omega, by go_num, by rw [HNX.out]; rfl⟩
            case measure => simp [intOf]; omega
        · obtain rfl : t = k := by omega
          have HZ0 := Lib.hid (cL_cnt R x t)
          obtain ⟨a, ha⟩ : ∃ a, (cntS R x t != 0) = a := ⟨_, rfl⟩
          rw [ha] at hz
          have HA := Lib.hid ha
          clear ha
          subst hz
          cases a
          · have hnew : cL R t (kS x) = 0 := by have := HA.out; rw [HZ0.out]; simpa using this
            have HNEW := Lib.hid hnew
            obtain ⟨N, hN⟩ : ∃ N, c (kS x) = N := ⟨_, rfl⟩
            have hNc : ((cntS R x n : Nat) : Int) = N := by rw [← cL_cnt, HCC.out, hN]
            have HN := Lib.hid hN
            have HNC := Lib.hid hNc
            obtain ⟨L, hL⟩ : ∃ L, W.length = L := ⟨_, rfl⟩
            have hLt : L ≤ t := by rw [← hL]; exact HWL.out
            obtain ⟨F, hF⟩ : ∃ F, atT W = F := ⟨_, rfl⟩
            obtain ⟨G, hG⟩ : ∃ G, ai (W.map fun x => c (kS x)) = G := ⟨_, rfl⟩
            have h5 := HM.out.ot.wt.ti
            have h6 := HM.out.oi.wi.si
            rw [List.length_map] at h6
            rw [hL, hF] at h5
            rw [hL, hG] at h6
            have H5 := Lib.hid h5
            have H6 := Lib.hid h6
            obtain ⟨A5, cap5, rfl, hr5, hc5, hm5⟩ := h5
            obtain ⟨A6, cap6, rfl, hr6, hc6, hm6⟩ := h6
            have HR5 := Lib.hid hr5
            have HR6 := Lib.hid hr6
            have HHR := Lib.hid (HH.out.below HM.out.be)
            have HLW := Lib.hid hL
            have HF := Lib.hid hF
            have HGE := Lib.hid hG
            have HG := Lib.hid (show ∀ j, j < L → G j = c (kS (F j)) from fun j hj => by
              rw [← hG, ← hF]
              have h1 := ai_lt (xs := W.map fun x => c (kS x)) (j := j) (by rw [List.length_map, hL]; exact hj)
              have h2 := atT_lt (xs := W) (j := j) (by rw [hL]; exact hj)
              rw [List.getElem?_map, h2] at h1
              injection h1 with h1
              exact h1.symm)
            have hL0 : (L : Int) ≤ 1048576 := by omega
            clear hnew hN hNc hL hF hG hr5 hr6
            go_upto_block 4 with (go_at_call 82; refine (C_l22Count _ n R x _ HHR.out (by omega)).mono ?_; rintro e w' ⟨rfl, rfl⟩; rw [HNC.out])
            go_cut [11] (fun s11 wx => wx = wr ∧ ∃ q : Nat, q ≤ L ∧ s11 = .int .i64 q ∧ (∀ j, q ≤ j → j < L → behind c x (F j)) ∧ (0 < q → ¬ behind c x (F (q - 1))))
            case first =>
              go_wp2
              go_loop [11] (fun i => ∃ q : Nat, q ≤ L ∧ i = .int .i64 q ∧ ∀ j, q ≤ j → j < L → behind c x (F j)) (fun i => (intOf i).toNat)
              case atStart => exact ⟨L, Nat.le_refl _, rfl, fun j h1 h2 => absurd h1 (by omega)⟩
              case round =>
                obtain ⟨q, hq, rfl, hbh⟩ := hrel
                have HBH := Lib.hid hbh
                clear hbh
                rcases Nat.eq_zero_or_pos q with hq0 | hq0
                · have hq9 : ¬ (0 : Int) < (q : Int) := by omega
                  have HQ0 := Lib.hid hq0
                  clear hq0
                  go_wp2
                  go_meet
                  exact ⟨rfl, q, hq, rfl, HBH.out, fun h => absurd h (by rw [HQ0.out]; omega)⟩
                · obtain ⟨p, hp⟩ : ∃ p, p = q - 1 := ⟨_, rfl⟩
                  have hpw : IntKind.i64.wrap ((q : Int) - 1) = (p : Int) := by rw [IntKind.wrap_i64]; omega
                  have hq9 : (0 : Int) < (q : Int) := by omega
                  have HPQ := Lib.hid (show q = p + 1 by omega)
                  obtain ⟨b5, off5, rfl, hb5, hcell5⟩ := HR5.out (by omega)
                  obtain ⟨b6, off6, rfl, hb6, hcell6⟩ := HR6.out (by omega)
                  have e5 := hcell5 p (by omega)
                  have e6 := hcell6 p (by omega)
                  have hGp := HG.out p (by omega)
                  obtain ⟨y, hy⟩ : ∃ y, G p = y := ⟨_, rfl⟩
                  obtain ⟨z, hz⟩ : ∃ z, F p = z := ⟨_, rfl⟩
                  rw [hy] at e6 hGp
                  rw [hz] at e5 hGp
                  have HZZ := Lib.hid hz
                  have HGP := Lib.hid (show c (kS z) = y by rw [hGp])
                  have HP := Lib.hid hp
                  have hp2 : (0 : Int) ≤ (p : Int) := by omega
                  have hp1 : (p : Int) < (L : Int) := by omega
                  have HNO := Lib.hid (show ¬ behind c x z → 0 < q → ¬ behind c x (F (q - 1)) from fun h _ => by rw [← HP.out, HZZ.out]; exact h)
                  have HYES := Lib.hid (show behind c x z → ∀ j, p ≤ j → j < L → behind c x (F j) from fun h j h1 h2 => by
                    by_cases e : j = p
                    · rw [e, HZZ.out]; exact h
                    · exact HBH.out j (by have := HPQ.out; omega) h2)
                  clear hcell5 hcell6 hy hz hGp hp hq0
                  by_cases h1 : y < N
                  · go_wp2
                    go_round
                    case rel => exact ⟨p, by have := HPQ.out; omega, by go_num, HYES.out (.inl (by rw [HGP.out, HN.out]; exact h1))⟩
                    case measure => have := HPQ.out; simp [intOf]; omega
                  · by_cases h2 : y = N
                    · have h2b : (y == N) = true := by simp [h2]
                      have HYN := Lib.hid h2
                      have hgt := gtS z x
                      clear h2
                      cases h3 : (!(Op.bytesLess z.toList x.toList || (z.toList == x.toList)))
                      · have HNB := Lib.hid (show ¬ behind c x z by
                          rw [h3] at hgt
                          unfold behind
                          rw [HGP.out, HN.out]
                          rintro (h | ⟨_, h⟩)
                          · exact h1 h
                          · simp [h] at hgt)
                        clear hgt
                        go_wp2
                        all_goals go_meet
                        all_goals exact ⟨rfl, q, hq, rfl, HBH.out, HNO.out HNB.out⟩
                      · have HNB := Lib.hid (show behind c x z by
                          rw [h3] at hgt
                          unfold behind
                          rw [HGP.out, HN.out]
                          exact .inr ⟨HYN.out, of_decide_eq_true hgt.symm⟩)
                        clear hgt
                        go_wp2
                        all_goals go_round
                        case rel => exact ⟨p, by have := HPQ.out; omega, by go_num, HYES.out HNB.out⟩
                        case measure => have := HPQ.out; simp [intOf]; omega
                    · have h2b : (y == N) = false := by simp [h2]
                      have HNB := Lib.hid (show ¬ behind c x z by
                        unfold behind
                        rw [HGP.out, HN.out]
                        rintro (h | ⟨h, _⟩)
                        · exact h1 h
                        · exact h2 h)
                      go_wp2
                      go_meet
                      exact ⟨rfl, q, hq, rfl, HBH.out, HNO.out HNB.out⟩
            case rest =>
              rename World => wx
              obtain ⟨hwx, q, hq, rfl, hbh, hlo⟩ := hcut
              subst wx
              have hq1 : (q : Int) ≤ (L : Int) := by omega
              have hq2 : (0 : Int) ≤ (q : Int) := by omega
              have hq3 : (q : Int) ≤ (cap5 : Int) := by omega
              have hq4 : (q : Int) ≤ (cap6 : Int) := by omega
              have hq5 : (L : Int) ≤ (cap5 : Int) := by omega
              have hq6 : (L : Int) ≤ (cap6 : Int) := by omega
              have HMS := Lib.hid HM.out.be.size
              have HP := Lib.hid (HM.out.sp.put HX.out HSX.out HNEW.out (by rw [HLW.out]; exact hq) (fun j h1 h2 => by rw [HF.out]; exact hbh j h1 (by rw [← HLW.out]; exact h2)) (fun h => by rw [HF.out]; exact hlo h))
              clear hbh hlo
              have HC5 := Lib.hid (H5.out.cut hq)
              have HC6 := Lib.hid (H6.out.cut hq)
              have he5 : [] ++ lstT q F ++ lstT 1 (fun _ => x) ++ lstT (L - q) (fun j => F (q + j)) = W.take q ++ x :: W.drop q := by
                rw [← HF.out, ← HLW.out, lstT_take W q (by rw [HLW.out]; exact hq), lstT_drop W q (by rw [HLW.out]; exact hq)]; simp [lstT]
              have he6 : [] ++ lst q G ++ lst 1 (fun _ => N) ++ lst (L - q) (fun j => G (q + j)) = (W.take q ++ x :: W.drop q).map (fun x => c (kS x)) := by
                have hml : (W.map fun x => c (kS x)).length = L := by rw [List.length_map]; exact HLW.out
                rw [← HGE.out, ← hml, lst_ai _ q (by rw [hml]; exact hq), lst_ai_drop _ q (by rw [hml]; exact hq)]; simp [lst, HN.out, List.map_take, List.map_drop]
              have HE5' := Lib.hid he5
              have HE6' := Lib.hid he6
              clear he5 he6
              have hz5 : ∀ W A c, c ≤ 9223372036854775807 → TI W (.slice A 0 c) 0 (fun _ => x) := fun W A c hc => ⟨A, c, rfl, fun h => absurd h (by omega), by omega, hc⟩
              have hz6 : ∀ W A c, c ≤ 9223372036854775807 → SI W (.slice A 0 c) 0 (fun _ => 0) := fun W A c hc => ⟨A, c, rfl, fun h => absurd h (by omega), by omega, hc⟩
              have HZ5 := Lib.hid hz5
              have HZ6 := Lib.hid hz6
              clear hz5 hz6
              have HNN := Lib.hid (And.intro HM.out.ot HM.out.oi)
              go_upto_region 16 with fail
              go_cut [5] (fun s5 wx => OT wr.heap.size wx s5 (W.take q ++ x :: W.drop q) ∧ Below wr.heap.size wr wx)
              case first =>
                rcases Nat.lt_or_ge q L with hqL | hqL
                · obtain ⟨b5, off5, rfl, hb5, hcell5⟩ := HR5.out (by omega)
                  clear hcell5
                  have HT5 := Lib.hid (H5.out.tail (k := q) hq)
                  have HE5 := HE5'
                  have hq7 : ¬ cap5 = q := by omega
                  clear HE5' HE6'
                  (go_region_held3 (fun W => Below wr.heap.size wr W) (((repeat (first | with_reducible exact Below.refl _ _ | with_reducible exact below_regrown _ _ _ | with_reducible refine bel_step0 (by assumption) ?_ | with_reducible refine bel_alloc0 ?_ _ | with_reducible refine bel_regrown0 ?_ _ _ | with_reducible refine bel_regrown ?_ (by first | omega | (simp; done) | (simp; omega)) _ _ | with_reducible refine below_drewN ?_ _ | with_reducible refine Below.drew ?_ | with_reducible refine Below.alloc ?_ (by first | omega | (simp; done) | (simp; omega)) _ | with_reducible refine Below.setCell ?_ (by first | omega | (simp; done) | (simp; omega)) _ | with_reducible refine bel_step (by assumption) (by first | omega | (simp; done) | (simp; omega)) ?_ | with_reducible refine bel_grown (by assumption) (by first | omega | (simp; done) | (simp; omega)) (by first | omega | (simp; done) | (simp; omega)) ?_)))) (first | ((refine step_appT _ (by rfl) (.tmp 83) (.tmp 86) (by rfl) wr _ _ (by rfl) (by first | exact OT.emptyAt (by simp) (by simp) | exact OT.alloc _ (OT.emptyAt (by simp) (by simp))) (by (repeat (first | with_reducible exact Below.refl _ _ | with_reducible exact below_regrown _ _ _ | with_reducible refine bel_step0 (by assumption) ?_ | with_reducible refine bel_alloc0 ?_ _ | with_reducible refine bel_regrown0 ?_ _ _ | with_reducible refine bel_regrown ?_ (by first | omega | (simp; done) | (simp; omega)) _ _ | with_reducible refine below_drewN ?_ _ | with_reducible refine Below.drew ?_ | with_reducible refine Below.alloc ?_ (by first | omega | (simp; done) | (simp; omega)) _ | with_reducible refine Below.setCell ?_ (by first | omega | (simp; done) | (simp; omega)) _ | with_reducible refine bel_step (by assumption) (by first | omega | (simp; done) | (simp; omega)) ?_ | with_reducible refine bel_grown (by assumption) (by first | omega | (simp; done) | (simp; omega)) (by first | omega | (simp; done) | (simp; omega)) ?_))) _ _ _ _ (by rfl) (HC5.out.below (by (repeat (first | with_reducible exact Below.refl _ _ | with_reducible exact below_regrown _ _ _ | with_reducible refine bel_step0 (by assumption) ?_ | with_reducible refine bel_alloc0 ?_ _ | with_reducible refine bel_regrown0 ?_ _ _ | with_reducible refine bel_regrown ?_ (by first | omega | (simp; done) | (simp; omega)) _ _ | with_reducible refine below_drewN ?_ _ | with_reducible refine Below.drew ?_ | with_reducible refine Below.alloc ?_ (by first | omega | (simp; done) | (simp; omega)) _ | with_reducible refine Below.setCell ?_ (by first | omega | (simp; done) | (simp; omega)) _ | with_reducible refine bel_step (by assumption) (by first | omega | (simp; done) | (simp; omega)) ?_ | with_reducible refine bel_grown (by assumption) (by first | omega | (simp; done) | (simp; omega)) (by first | omega | (simp; done) | (simp; omega)) ?_)))) (by simp <;> omega) ?_; intro v2 w2 ho2 hb2 hq2 hs2; have HQ2 := Lib.hid hq2; have HS2 := Lib.hid hs2; clear hq2 hs2)) | ((refine step_appT _ (by rfl) (.tmp 87) (.tmp 89) (by rfl) wr _ _ (by rfl) (by first | exact ho2 | exact OT.alloc _ ho2) (by (repeat (first | with_reducible exact Below.refl _ _ | with_reducible exact below_regrown _ _ _ | with_reducible refine bel_step0 (by assumption) ?_ | with_reducible refine bel_alloc0 ?_ _ | with_reducible refine bel_regrown0 ?_ _ _ | with_reducible refine bel_regrown ?_ (by first | omega | (simp; done) | (simp; omega)) _ _ | with_reducible refine below_drewN ?_ _ | with_reducible refine Below.drew ?_ | with_reducible refine Below.alloc ?_ (by first | omega | (simp; done) | (simp; omega)) _ | with_reducible refine Below.setCell ?_ (by first | omega | (simp; done) | (simp; omega)) _ | with_reducible refine bel_step (by assumption) (by first | omega | (simp; done) | (simp; omega)) ?_ | with_reducible refine bel_grown (by assumption) (by first | omega | (simp; done) | (simp; omega)) (by first | omega | (simp; done) | (simp; omega)) ?_))) _ _ _ _ (by rfl) (by first | exact ti_lit _ _ _ | exact litT_kept1 HQ2.out HS2.out | exact litT_kept0 HQ2.out HS2.out) (by rw [List.nil_append, lstT_length]; omega) ?_; intro v3 w3 ho3 hb3 hq3 hs3; clear hq3 hs3)) | ((refine step_appT _ (by rfl) (.tmp 90) (.tmp 93) (by rfl) wr _ _ (by rfl) ho3 (by (repeat (first | with_reducible exact Below.refl _ _ | with_reducible exact below_regrown _ _ _ | with_reducible refine bel_step0 (by assumption) ?_ | with_reducible refine bel_alloc0 ?_ _ | with_reducible refine bel_regrown0 ?_ _ _ | with_reducible refine bel_regrown ?_ (by first | omega | (simp; done) | (simp; omega)) _ _ | with_reducible refine below_drewN ?_ _ | with_reducible refine Below.drew ?_ | with_reducible refine Below.alloc ?_ (by first | omega | (simp; done) | (simp; omega)) _ | with_reducible refine Below.setCell ?_ (by first | omega | (simp; done) | (simp; omega)) _ | with_reducible refine bel_step (by assumption) (by first | omega | (simp; done) | (simp; omega)) ?_ | with_reducible refine bel_grown (by assumption) (by first | omega | (simp; done) | (simp; omega)) (by first | omega | (simp; done) | (simp; omega)) ?_))) _ _ _ _ (by rfl) (HT5.out.below (by (repeat (first | with_reducible exact Below.refl _ _ | with_reducible exact below_regrown _ _ _ | with_reducible refine bel_step0 (by assumption) ?_ | with_reducible refine bel_alloc0 ?_ _ | with_reducible refine bel_regrown0 ?_ _ _ | with_reducible refine bel_regrown ?_ (by first | omega | (simp; done) | (simp; omega)) _ _ | with_reducible refine below_drewN ?_ _ | with_reducible refine Below.drew ?_ | with_reducible refine Below.alloc ?_ (by first | omega | (simp; done) | (simp; omega)) _ | with_reducible refine Below.setCell ?_ (by first | omega | (simp; done) | (simp; omega)) _ | with_reducible refine bel_step (by assumption) (by first | omega | (simp; done) | (simp; omega)) ?_ | with_reducible refine bel_grown (by assumption) (by first | omega | (simp; done) | (simp; omega)) (by first | omega | (simp; done) | (simp; omega)) ?_)))) (by rw [List.length_append, List.nil_append, lstT_length, lstT_length]; omega) ?_; intro v4 w4 ho4 hb4 hq4 hs4; clear hq4 hs4))); (all_goals (go_wp2; go_meet; exact ⟨by rw [← HE5.out]; exact ho4, hb4⟩)))
                · obtain rfl : L = q := by omega
                  have HE5 := Lib.hid (show [] ++ lstT L F ++ lstT 1 (fun _ => x) ++ lstT 0 (fun _ => x) = W.take L ++ x :: W.drop L by rw [← HE5'.out]; simp [lstT])
                  clear HE5' HE6'
                  by_cases hcn : cap5 = L
                  · subst hcn
                    (go_region_held3 (fun W => Below wr.heap.size wr W) (((repeat (first | with_reducible exact Below.refl _ _ | with_reducible exact below_regrown _ _ _ | with_reducible refine bel_step0 (by assumption) ?_ | with_reducible refine bel_alloc0 ?_ _ | with_reducible refine bel_regrown0 ?_ _ _ | with_reducible refine bel_regrown ?_ (by first | omega | (simp; done) | (simp; omega)) _ _ | with_reducible refine below_drewN ?_ _ | with_reducible refine Below.drew ?_ | with_reducible refine Below.alloc ?_ (by first | omega | (simp; done) | (simp; omega)) _ | with_reducible refine Below.setCell ?_ (by first | omega | (simp; done) | (simp; omega)) _ | with_reducible refine bel_step (by assumption) (by first | omega | (simp; done) | (simp; omega)) ?_ | with_reducible refine bel_grown (by assumption) (by first | omega | (simp; done) | (simp; omega)) (by first | omega | (simp; done) | (simp; omega)) ?_)))) (first | ((refine step_appT _ (by rfl) (.tmp 83) (.tmp 86) (by rfl) wr _ _ (by rfl) (by first | exact OT.emptyAt (by simp) (by simp) | exact OT.alloc _ (OT.emptyAt (by simp) (by simp))) (by (repeat (first | with_reducible exact Below.refl _ _ | with_reducible exact below_regrown _ _ _ | with_reducible refine bel_step0 (by assumption) ?_ | with_reducible refine bel_alloc0 ?_ _ | with_reducible refine bel_regrown0 ?_ _ _ | with_reducible refine bel_regrown ?_ (by first | omega | (simp; done) | (simp; omega)) _ _ | with_reducible refine below_drewN ?_ _ | with_reducible refine Below.drew ?_ | with_reducible refine Below.alloc ?_ (by first | omega | (simp; done) | (simp; omega)) _ | with_reducible refine Below.setCell ?_ (by first | omega | (simp; done) | (simp; omega)) _ | with_reducible refine bel_step (by assumption) (by first | omega | (simp; done) | (simp; omega)) ?_ | with_reducible refine bel_grown (by assumption) (by first | omega | (simp; done) | (simp; omega)) (by first | omega | (simp; done) | (simp; omega)) ?_))) _ _ _ _ (by rfl) (HC5.out.below (by (repeat (first | with_reducible exact Below.refl _ _ | with_reducible exact below_regrown _ _ _ | with_reducible refine bel_step0 (by assumption) ?_ | with_reducible refine bel_alloc0 ?_ _ | with_reducible refine bel_regrown0 ?_ _ _ | with_reducible refine bel_regrown ?_ (by first | omega | (simp; done) | (simp; omega)) _ _ | with_reducible refine below_drewN ?_ _ | with_reducible refine Below.drew ?_ | with_reducible refine Below.alloc ?_ (by first | omega | (simp; done) | (simp; omega)) _ | with_reducible refine Below.setCell ?_ (by first | omega | (simp; done) | (simp; omega)) _ | with_reducible refine bel_step (by assumption) (by first | omega | (simp; done) | (simp; omega)) ?_ | with_reducible refine bel_grown (by assumption) (by first | omega | (simp; done) | (simp; omega)) (by first | omega | (simp; done) | (simp; omega)) ?_)))) (by simp <;> omega) ?_; intro v2 w2 ho2 hb2 hq2 hs2; have HQ2 := Lib.hid hq2; have HS2 := Lib.hid hs2; clear hq2 hs2)) | ((refine step_appT _ (by rfl) (.tmp 87) (.tmp 89) (by rfl) wr _ _ (by rfl) (by first | exact ho2 | exact OT.alloc _ ho2) (by (repeat (first | with_reducible exact Below.refl _ _ | with_reducible exact below_regrown _ _ _ | with_reducible refine bel_step0 (by assumption) ?_ | with_reducible refine bel_alloc0 ?_ _ | with_reducible refine bel_regrown0 ?_ _ _ | with_reducible refine bel_regrown ?_ (by first | omega | (simp; done) | (simp; omega)) _ _ | with_reducible refine below_drewN ?_ _ | with_reducible refine Below.drew ?_ | with_reducible refine Below.alloc ?_ (by first | omega | (simp; done) | (simp; omega)) _ | with_reducible refine Below.setCell ?_ (by first | omega | (simp; done) | (simp; omega)) _ | with_reducible refine bel_step (by assumption) (by first | omega | (simp; done) | (simp; omega)) ?_ | with_reducible refine bel_grown (by assumption) (by first | omega | (simp; done) | (simp; omega)) (by first | omega | (simp; done) | (simp; omega)) ?_))) _ _ _ _ (by rfl) (by first | exact ti_lit _ _ _ | exact litT_kept1 HQ2.out HS2.out | exact litT_kept0 HQ2.out HS2.out) (by rw [List.nil_append, lstT_length]; omega) ?_; intro v3 w3 ho3 hb3 hq3 hs3; clear hq3 hs3)) | ((refine step_appT _ (by rfl) (.tmp 90) (.tmp 93) (by rfl) wr _ _ (by rfl) ho3 (by (repeat (first | with_reducible exact Below.refl _ _ | with_reducible exact below_regrown _ _ _ | with_reducible refine bel_step0 (by assumption) ?_ | with_reducible refine bel_alloc0 ?_ _ | with_reducible refine bel_regrown0 ?_ _ _ | with_reducible refine bel_regrown ?_ (by first | omega | (simp; done) | (simp; omega)) _ _ | with_reducible refine below_drewN ?_ _ | with_reducible refine Below.drew ?_ | with_reducible refine Below.alloc ?_ (by first | omega | (simp; done) | (simp; omega)) _ | with_reducible refine Below.setCell ?_ (by first | omega | (simp; done) | (simp; omega)) _ | with_reducible refine bel_step (by assumption) (by first | omega | (simp; done) | (simp; omega)) ?_ | with_reducible refine bel_grown (by assumption) (by first | omega | (simp; done) | (simp; omega)) (by first | omega | (simp; done) | (simp; omega)) ?_))) _ _ _ _ (by rfl) (HZ5.out _ _ _ (by omega)) (by rw [List.length_append, List.nil_append, lstT_length, lstT_length]; omega) ?_; intro v4 w4 ho4 hb4 hq4 hs4; clear hq4 hs4))); (all_goals (go_wp2; go_meet; exact ⟨by rw [← HE5.out]; exact ho4, hb4⟩)))
                  · rcases A5 with _ | ⟨b5, off5, spot⟩
                    · exfalso
                      rcases HNN.out.1.2 with ⟨e, h0⟩ | ⟨g, cap', cur, e, _⟩
                      · injection e with _ e1 e2; omega
                      · injection e with e1 _ _; cases e1
                    · (go_region_held3 (fun W => Below wr.heap.size wr W) (((repeat (first | with_reducible exact Below.refl _ _ | with_reducible exact below_regrown _ _ _ | with_reducible refine bel_step0 (by assumption) ?_ | with_reducible refine bel_alloc0 ?_ _ | with_reducible refine bel_regrown0 ?_ _ _ | with_reducible refine bel_regrown ?_ (by first | omega | (simp; done) | (simp; omega)) _ _ | with_reducible refine below_drewN ?_ _ | with_reducible refine Below.drew ?_ | with_reducible refine Below.alloc ?_ (by first | omega | (simp; done) | (simp; omega)) _ | with_reducible refine Below.setCell ?_ (by first | omega | (simp; done) | (simp; omega)) _ | with_reducible refine bel_step (by assumption) (by first | omega | (simp; done) | (simp; omega)) ?_ | with_reducible refine bel_grown (by assumption) (by first | omega | (simp; done) | (simp; omega)) (by first | omega | (simp; done) | (simp; omega)) ?_)))) (first | ((refine step_appT _ (by rfl) (.tmp 83) (.tmp 86) (by rfl) wr _ _ (by rfl) (by first | exact OT.emptyAt (by simp) (by simp) | exact OT.alloc _ (OT.emptyAt (by simp) (by simp))) (by (repeat (first | with_reducible exact Below.refl _ _ | with_reducible exact below_regrown _ _ _ | with_reducible refine bel_step0 (by assumption) ?_ | with_reducible refine bel_alloc0 ?_ _ | with_reducible refine bel_regrown0 ?_ _ _ | with_reducible refine bel_regrown ?_ (by first | omega | (simp; done) | (simp; omega)) _ _ | with_reducible refine below_drewN ?_ _ | with_reducible refine Below.drew ?_ | with_reducible refine Below.alloc ?_ (by first | omega | (simp; done) | (simp; omega)) _ | with_reducible refine Below.setCell ?_ (by first | omega | (simp; done) | (simp; omega)) _ | with_reducible refine bel_step (by assumption) (by first | omega | (simp; done) | (simp; omega)) ?_ | with_reducible refine bel_grown (by assumption) (by first | omega | (simp; done) | (simp; omega)) (by first | omega | (simp; done) | (simp; omega)) ?_))) _ _ _ _ (by rfl) (HC5.out.below (by (repeat (first | with_reducible exact Below.refl _ _ | with_reducible exact below_regrown _ _ _ | with_reducible refine bel_step0 (by assumption) ?_ | with_reducible refine bel_alloc0 ?_ _ | with_reducible refine bel_regrown0 ?_ _ _ | with_reducible refine bel_regrown ?_ (by first | omega | (simp; done) | (simp; omega)) _ _ | with_reducible refine below_drewN ?_ _ | with_reducible refine Below.drew ?_ | with_reducible refine Below.alloc ?_ (by first | omega | (simp; done) | (simp; omega)) _ | with_reducible refine Below.setCell ?_ (by first | omega | (simp; done) | (simp; omega)) _ | with_reducible refine bel_step (by assumption) (by first | omega | (simp; done) | (simp; omega)) ?_ | with_reducible refine bel_grown (by assumption) (by first | omega | (simp; done) | (simp; omega)) (by first | omega | (simp; done) | (simp; omega)) ?_)))) (by simp <;> omega) ?_; intro v2 w2 ho2 hb2 hq2 hs2; have HQ2 := Lib.hid hq2; have HS2 := Lib.hid hs2; clear hq2 hs2)) | ((refine step_appT _ (by rfl) (.tmp 87) (.tmp 89) (by rfl) wr _ _ (by rfl) (by first | exact ho2 | exact OT.alloc _ ho2) (by (repeat (first | with_reducible exact Below.refl _ _ | with_reducible exact below_regrown _ _ _ | with_reducible refine bel_step0 (by assumption) ?_ | with_reducible refine bel_alloc0 ?_ _ | with_reducible refine bel_regrown0 ?_ _ _ | with_reducible refine bel_regrown ?_ (by first | omega | (simp; done) | (simp; omega)) _ _ | with_reducible refine below_drewN ?_ _ | with_reducible refine Below.drew ?_ | with_reducible refine Below.alloc ?_ (by first | omega | (simp; done) | (simp; omega)) _ | with_reducible refine Below.setCell ?_ (by first | omega | (simp; done) | (simp; omega)) _ | with_reducible refine bel_step (by assumption) (by first | omega | (simp; done) | (simp; omega)) ?_ | with_reducible refine bel_grown (by assumption) (by first | omega | (simp; done) | (simp; omega)) (by first | omega | (simp; done) | (simp; omega)) ?_))) _ _ _ _ (by rfl) (by first | exact ti_lit _ _ _ | exact litT_kept1 HQ2.out HS2.out | exact litT_kept0 HQ2.out HS2.out) (by rw [List.nil_append, lstT_length]; omega) ?_; intro v3 w3 ho3 hb3 hq3 hs3; clear hq3 hs3)) | ((refine step_appT _ (by rfl) (.tmp 90) (.tmp 93) (by rfl) wr _ _ (by rfl) ho3 (by (repeat (first | with_reducible exact Below.refl _ _ | with_reducible exact below_regrown _ _ _ | with_reducible refine bel_step0 (by assumption) ?_ | with_reducible refine bel_alloc0 ?_ _ | with_reducible refine bel_regrown0 ?_ _ _ | with_reducible refine bel_regrown ?_ (by first | omega | (simp; done) | (simp; omega)) _ _ | with_reducible refine below_drewN ?_ _ | with_reducible refine Below.drew ?_ | with_reducible refine Below.alloc ?_ (by first | omega | (simp; done) | (simp; omega)) _ | with_reducible refine Below.setCell ?_ (by first | omega | (simp; done) | (simp; omega)) _ | with_reducible refine bel_step (by assumption) (by first | omega | (simp; done) | (simp; omega)) ?_ | with_reducible refine bel_grown (by assumption) (by first | omega | (simp; done) | (simp; omega)) (by first | omega | (simp; done) | (simp; omega)) ?_))) _ _ _ _ (by rfl) (HZ5.out _ _ _ (by omega)) (by rw [List.length_append, List.nil_append, lstT_length, lstT_length]; omega) ?_; intro v4 w4 ho4 hb4 hq4 hs4; clear hq4 hs4))); (all_goals (go_wp2; go_meet; exact ⟨by rw [← HE5.out]; exact ho4, hb4⟩)))
              case rest =>
                rename World => w4
                obtain ⟨ho4, hb4⟩ := hcut
                have HO5 := Lib.hid ho4
                have HB5 := Lib.hid hb4
                have HC7 := Lib.hid (HC6.out.below hb4)
                have hz4 := hb4.size
                clear ho4 hb4
                rcases Nat.lt_or_ge q L with hqL | hqL
                · obtain ⟨b6, off6, rfl, hb6, hcell6⟩ := HR6.out (by omega)
                  clear hcell6
                  have HT7 := Lib.hid ((H6.out.tail (k := q) hq).below HB5.out)
                  have HE6 := HE6'
                  have hq8 : ¬ cap6 = q := by omega
                  clear HE5' HE6'
                  go_wp2
                  (go_region_held3 (fun W => Below w4.heap.size w4 W) (((repeat (first | with_reducible exact Below.refl _ _ | with_reducible exact below_regrown _ _ _ | with_reducible refine bel_step0 (by assumption) ?_ | with_reducible refine bel_alloc0 ?_ _ | with_reducible refine bel_regrown0 ?_ _ _ | with_reducible refine bel_regrown ?_ (by first | omega | (simp; done) | (simp; omega)) _ _ | with_reducible refine below_drewN ?_ _ | with_reducible refine Below.drew ?_ | with_reducible refine Below.alloc ?_ (by first | omega | (simp; done) | (simp; omega)) _ | with_reducible refine Below.setCell ?_ (by first | omega | (simp; done) | (simp; omega)) _ | with_reducible refine bel_step (by assumption) (by first | omega | (simp; done) | (simp; omega)) ?_ | with_reducible refine bel_grown (by assumption) (by first | omega | (simp; done) | (simp; omega)) (by first | omega | (simp; done) | (simp; omega)) ?_)))) (first | ((refine step_appK _ (by rfl) (.tmp 95) (.tmp 98) (by rfl) w4 _ _ (by rfl) (by first | exact OI.emptyAt (by simp) (by simp) | exact OI.alloc _ (OI.emptyAt (by simp) (by simp))) (by (repeat (first | with_reducible exact Below.refl _ _ | with_reducible exact below_regrown _ _ _ | with_reducible refine bel_step0 (by assumption) ?_ | with_reducible refine bel_alloc0 ?_ _ | with_reducible refine bel_regrown0 ?_ _ _ | with_reducible refine bel_regrown ?_ (by first | omega | (simp; done) | (simp; omega)) _ _ | with_reducible refine below_drewN ?_ _ | with_reducible refine Below.drew ?_ | with_reducible refine Below.alloc ?_ (by first | omega | (simp; done) | (simp; omega)) _ | with_reducible refine Below.setCell ?_ (by first | omega | (simp; done) | (simp; omega)) _ | with_reducible refine bel_step (by assumption) (by first | omega | (simp; done) | (simp; omega)) ?_ | with_reducible refine bel_grown (by assumption) (by first | omega | (simp; done) | (simp; omega)) (by first | omega | (simp; done) | (simp; omega)) ?_))) _ _ _ _ (by rfl) (HC7.out.below (by (repeat (first | with_reducible exact Below.refl _ _ | with_reducible exact below_regrown _ _ _ | with_reducible refine bel_step0 (by assumption) ?_ | with_reducible refine bel_alloc0 ?_ _ | with_reducible refine bel_regrown0 ?_ _ _ | with_reducible refine bel_regrown ?_ (by first | omega | (simp; done) | (simp; omega)) _ _ | with_reducible refine below_drewN ?_ _ | with_reducible refine Below.drew ?_ | with_reducible refine Below.alloc ?_ (by first | omega | (simp; done) | (simp; omega)) _ | with_reducible refine Below.setCell ?_ (by first | omega | (simp; done) | (simp; omega)) _ | with_reducible refine bel_step (by assumption) (by first | omega | (simp; done) | (simp; omega)) ?_ | with_reducible refine bel_grown (by assumption) (by first | omega | (simp; done) | (simp; omega)) (by first | omega | (simp; done) | (simp; omega)) ?_)))) (by simp <;> omega) ?_; intro v6 w6 ho6 hb6 hq6 hs6; have HQ6 := Lib.hid hq6; have HS6 := Lib.hid hs6; clear hq6 hs6)) | ((refine step_appK _ (by rfl) (.tmp 99) (.tmp 101) (by rfl) w4 _ _ (by rfl) (by first | exact ho6 | exact OI.alloc _ ho6) (by (repeat (first | with_reducible exact Below.refl _ _ | with_reducible exact below_regrown _ _ _ | with_reducible refine bel_step0 (by assumption) ?_ | with_reducible refine bel_alloc0 ?_ _ | with_reducible refine bel_regrown0 ?_ _ _ | with_reducible refine bel_regrown ?_ (by first | omega | (simp; done) | (simp; omega)) _ _ | with_reducible refine below_drewN ?_ _ | with_reducible refine Below.drew ?_ | with_reducible refine Below.alloc ?_ (by first | omega | (simp; done) | (simp; omega)) _ | with_reducible refine Below.setCell ?_ (by first | omega | (simp; done) | (simp; omega)) _ | with_reducible refine bel_step (by assumption) (by first | omega | (simp; done) | (simp; omega)) ?_ | with_reducible refine bel_grown (by assumption) (by first | omega | (simp; done) | (simp; omega)) (by first | omega | (simp; done) | (simp; omega)) ?_))) _ _ _ _ (by rfl) (by first | exact si_lit _ _ _ | exact lit_kept1 HQ6.out HS6.out | exact lit_kept0 HQ6.out HS6.out) (by rw [List.nil_append, lst_length]; omega) ?_; intro v7 w7 ho7 hb7 hq7 hs7; clear hq7 hs7)) | ((refine step_appK _ (by rfl) (.tmp 102) (.tmp 105) (by rfl) w4 _ _ (by rfl) ho7 (by (repeat (first | with_reducible exact Below.refl _ _ | with_reducible exact below_regrown _ _ _ | with_reducible refine bel_step0 (by assumption) ?_ | with_reducible refine bel_alloc0 ?_ _ | with_reducible refine bel_regrown0 ?_ _ _ | with_reducible refine bel_regrown ?_ (by first | omega | (simp; done) | (simp; omega)) _ _ | with_reducible refine below_drewN ?_ _ | with_reducible refine Below.drew ?_ | with_reducible refine Below.alloc ?_ (by first | omega | (simp; done) | (simp; omega)) _ | with_reducible refine Below.setCell ?_ (by first | omega | (simp; done) | (simp; omega)) _ | with_reducible refine bel_step (by assumption) (by first | omega | (simp; done) | (simp; omega)) ?_ | with_reducible refine bel_grown (by assumption) (by first | omega | (simp; done) | (simp; omega)) (by first | omega | (simp; done) | (simp; omega)) ?_))) _ _ _ _ (by rfl) (HT7.out.below (by (repeat (first | with_reducible exact Below.refl _ _ | with_reducible exact below_regrown _ _ _ | with_reducible refine bel_step0 (by assumption) ?_ | with_reducible refine bel_alloc0 ?_ _ | with_reducible refine bel_regrown0 ?_ _ _ | with_reducible refine bel_regrown ?_ (by first | omega | (simp; done) | (simp; omega)) _ _ | with_reducible refine below_drewN ?_ _ | with_reducible refine Below.drew ?_ | with_reducible refine Below.alloc ?_ (by first | omega | (simp; done) | (simp; omega)) _ | with_reducible refine Below.setCell ?_ (by first | omega | (simp; done) | (simp; omega)) _ | with_reducible refine bel_step (by assumption) (by first | omega | (simp; done) | (simp; omega)) ?_ | with_reducible refine bel_grown (by assumption) (by first | omega | (simp; done) | (simp; omega)) (by first | omega | (simp; done) | (simp; omega)) ?_)))) (by rw [List.length_append, List.nil_append, lst_length, lst_length]; omega) ?_; intro v8 w8 ho8 hb8 hq8 hs8; clear hq8 hs8))); (all_goals (go_wp2; go_roundw; (case rel => exact ⟨t + 1, _, by omega, by go_num, HP.out, own_mono HMS.out (HO5.out.below hb8), own_mono (Nat.le_trans HMS.out HB5.out.size) (by rw [← HE6.out]; exact ho8), bel_step0 hb8 (bel_step0 HB5.out HM.out.be)⟩); (case measure => (simp [intOf]; omega)))))
                · obtain rfl : L = q := by omega
                  have HE6 := Lib.hid (show [] ++ lst L G ++ lst 1 (fun _ => N) ++ lst 0 (fun _ => 0) = (W.take L ++ x :: W.drop L).map (fun x => c (kS x)) by rw [← HE6'.out]; simp [lst])
                  clear HE5' HE6'
                  by_cases hcn : cap6 = L
                  · subst hcn
                    go_wp2
                    (go_region_held3 (fun W => Below w4.heap.size w4 W) (((repeat (first | with_reducible exact Below.refl _ _ | with_reducible exact below_regrown _ _ _ | with_reducible refine bel_step0 (by assumption) ?_ | with_reducible refine bel_alloc0 ?_ _ | with_reducible refine bel_regrown0 ?_ _ _ | with_reducible refine bel_regrown ?_ (by first | omega | (simp; done) | (simp; omega)) _ _ | with_reducible refine below_drewN ?_ _ | with_reducible refine Below.drew ?_ | with_reducible refine Below.alloc ?_ (by first | omega | (simp; done) | (simp; omega)) _ | with_reducible refine Below.setCell ?_ (by first | omega | (simp; done) | (simp; omega)) _ | with_reducible refine bel_step (by assumption) (by first | omega | (simp; done) | (simp; omega)) ?_ | with_reducible refine bel_grown (by assumption) (by first | omega | (simp; done) | (simp; omega)) (by first | omega | (simp; done) | (simp; omega)) ?_)))) (first | ((refine step_appK _ (by rfl) (.tmp 95) (.tmp 98) (by rfl) w4 _ _ (by rfl) (by first | exact OI.emptyAt (by simp) (by simp) | exact OI.alloc _ (OI.emptyAt (by simp) (by simp))) (by (repeat (first | with_reducible exact Below.refl _ _ | with_reducible exact below_regrown _ _ _ | with_reducible refine bel_step0 (by assumption) ?_ | with_reducible refine bel_alloc0 ?_ _ | with_reducible refine bel_regrown0 ?_ _ _ | with_reducible refine bel_regrown ?_ (by first | omega | (simp; done) | (simp; omega)) _ _ | with_reducible refine below_drewN ?_ _ | with_reducible refine Below.drew ?_ | with_reducible refine Below.alloc ?_ (by first | omega | (simp; done) | (simp; omega)) _ | with_reducible refine Below.setCell ?_ (by first | omega | (simp; done) | (simp; omega)) _ | with_reducible refine bel_step (by assumption) (by first | omega | (simp; done) | (simp; omega)) ?_ | with_reducible refine bel_grown (by assumption) (by first | omega | (simp; done) | (simp; omega)) (by first | omega | (simp; done) | (simp; omega)) ?_))) _ _ _ _ (by rfl) (HC7.out.below (by (repeat (first | with_reducible exact Below.refl _ _ | with_reducible exact below_regrown _ _ _ | with_reducible refine bel_step0 (by assumption) ?_ | with_reducible refine bel_alloc0 ?_ _ | with_reducible refine bel_regrown0 ?_ _ _ | with_reducible refine bel_regrown ?_ (by first | omega | (simp; done) | (simp; omega)) _ _ | with_reducible refine below_drewN ?_ _ | with_reducible refine Below.drew ?_ | with_reducible refine Below.alloc ?_ (by first | omega | (simp; done) | (simp; omega)) _ | with_reducible refine Below.setCell ?_ (by first | omega | (simp; done) | (simp; omega)) _ | with_reducible refine bel_step (by assumption) (by first | omega | (simp; done) | (simp; omega)) ?_ | with_reducible refine bel_grown (by assumption) (by first | omega | (simp; done) | (simp; omega)) (by first | omega | (simp; done) | (simp; omega)) ?_)))) (by simp <;> omega) ?_; intro v6 w6 ho6 hb6 hq6 hs6; have HQ6 := Lib.hid hq6; have HS6 := Lib.hid hs6; clear hq6 hs6)) | ((refine step_appK _ (by rfl) (.tmp 99) (.tmp 101) (by rfl) w4 _ _ (by rfl) (by first | exact ho6 | exact OI.alloc _ ho6) (by (repeat (first | with_reducible exact Below.refl _ _ | with_reducible exact below_regrown _ _ _ | with_reducible refine bel_step0 (by assumption) ?_ | with_reducible refine bel_alloc0 ?_ _ | with_reducible refine bel_regrown0 ?_ _ _ | with_reducible refine bel_regrown ?_ (by first | omega | (simp; done) | (simp; omega)) _ _ | with_reducible refine below_drewN ?_ _ | with_reducible refine Below.drew ?_ | with_reducible refine Below.alloc ?_ (by first | omega | (simp; done) | (simp; omega)) _ | with_reducible refine Below.setCell ?_ (by first | omega | (simp; done) | (simp; omega)) _ | with_reducible refine bel_step (by assumption) (by first | omega | (simp; done) | (simp; omega)) ?_ | with_reducible refine bel_grown (by assumption) (by first | omega | (simp; done) | (simp; omega)) (by first | omega | (simp; done) | (simp; omega)) ?_))) _ _ _ _ (by rfl) (by first | exact si_lit _ _ _ | exact lit_kept1 HQ6.out HS6.out | exact lit_kept0 HQ6.out HS6.out) (by rw [List.nil_append, lst_length]; omega) ?_; intro v7 w7 ho7 hb7 hq7 hs7; clear hq7 hs7)) | ((refine step_appK _ (by rfl) (.tmp 102) (.tmp 105) (by rfl) w4 _ _ (by rfl) ho7 (by (repeat (first | with_reducible exact Below.refl _ _ | with_reducible exact below_regrown _ _ _ | with_reducible refine bel_step0 (by assumption) ?_ | with_reducible refine bel_alloc0 ?_ _ | with_reducible refine bel_regrown0 ?_ _ _ | with_reducible refine bel_regrown ?_ (by first | omega | (simp; done) | (simp; omega)) _ _ | with_reducible refine below_drewN ?_ _ | with_reducible refine Below.drew ?_ | with_reducible refine Below.alloc ?_ (by first | omega | (simp; done) | (simp; omega)) _ | with_reducible refine Below.setCell ?_ (by first | omega | (simp; done) | (simp; omega)) _ | with_reducible refine bel_step (by assumption) (by first | omega | (simp; done) | (simp; omega)) ?_ | with_reducible refine bel_grown (by assumption) (by first | omega | (simp; done) | (simp; omega)) (by first | omega | (simp; done) | (simp; omega)) ?_))) _ _ _ _ (by rfl) (HZ6.out _ _ _ (by omega)) (by rw [List.length_append, List.nil_append, lst_length, lst_length]; omega) ?_; intro v8 w8 ho8 hb8 hq8 hs8; clear hq8 hs8))); (all_goals (go_wp2; go_roundw; (case rel => exact ⟨t + 1, _, by omega, by go_num, HP.out, own_mono HMS.out (HO5.out.below hb8), own_mono (Nat.le_trans HMS.out HB5.out.size) (by rw [← HE6.out]; exact ho8), bel_step0 hb8 (bel_step0 HB5.out HM.out.be)⟩); (case measure => (simp [intOf]; omega)))))
                  · rcases A6 with _ | ⟨b6, off6, spot⟩
                    · exfalso
                      rcases HNN.out.2.2 with ⟨e, h0⟩ | ⟨g, cap', cur, e, _⟩
                      · injection e with _ e1 e2; omega
                      · injection e with e1 _ _; cases e1
                    · go_wp2
                      (go_region_held3 (fun W => Below w4.heap.size w4 W) (((repeat (first | with_reducible exact Below.refl _ _ | with_reducible exact below_regrown _ _ _ | with_reducible refine bel_step0 (by assumption) ?_ | with_reducible refine bel_alloc0 ?_ _ | with_reducible refine bel_regrown0 ?_ _ _ | with_reducible refine bel_regrown ?_ (by first | omega | (simp; done) | (simp; omega)) _ _ | with_reducible refine below_drewN ?_ _ | with_reducible refine Below.drew ?_ | with_reducible refine Below.alloc ?_ (by first | omega | (simp; done) | (simp; omega)) _ | with_reducible refine Below.setCell ?_ (by first | omega | (simp; done) | (simp; omega)) _ | with_reducible refine bel_step (by assumption) (by first | omega | (simp; done) | (simp; omega)) ?_ | with_reducible refine bel_grown (by assumption) (by first | omega | (simp; done) | (simp; omega)) (by first | omega | (simp; done) | (simp; omega)) ?_)))) (first | ((refine step_appK _ (by rfl) (.tmp 95) (.tmp 98) (by rfl) w4 _ _ (by rfl) (by first | exact OI.emptyAt (by simp) (by simp) | exact OI.alloc _ (OI.emptyAt (by simp) (by simp))) (by (repeat (first | with_reducible exact Below.refl _ _ | with_reducible exact below_regrown _ _ _ | with_reducible refine bel_step0 (by assumption) ?_ | with_reducible refine bel_alloc0 ?_ _ | with_reducible refine bel_regrown0 ?_ _ _ | with_reducible refine bel_regrown ?_ (by first | omega | (simp; done) | (simp; omega)) _ _ | with_reducible refine below_drewN ?_ _ | with_reducible refine Below.drew ?_ | with_reducible refine Below.alloc ?_ (by first | omega | (simp; done) | (simp; omega)) _ | with_reducible refine Below.setCell ?_ (by first | omega | (simp; done) | (simp; omega)) _ | with_reducible refine bel_step (by assumption) (by first | omega | (simp; done) | (simp; omega)) ?_ | with_reducible refine bel_grown (by assumption) (by first | omega | (simp; done) | (simp; omega)) (by first | omega | (simp; done) | (simp; omega)) ?_))) _ _ _ _ (by rfl) (HC7.out.below (by (repeat (first | with_reducible exact Below.refl _ _ | with_reducible exact below_regrown _ _ _ | with_reducible refine bel_step0 (by assumption) ?_ | with_reducible refine bel_alloc0 ?_ _ | with_reducible refine bel_regrown0 ?_ _ _ | with_reducible refine bel_regrown ?_ (by first | omega | (simp; done) | (simp; omega)) _ _ | with_reducible refine below_drewN ?_ _ | with_reducible refine Below.drew ?_ | with_reducible refine Below.alloc ?_ (by first | omega | (simp; done) | (simp; omega)) _ | with_reducible refine Below.setCell ?_ (by first | omega | (simp; done) | (simp; omega)) _ | with_reducible refine bel_step (by assumption) (by first | omega | (simp; done) | (simp; omega)) ?_ | with_reducible refine bel_grown (by assumption) (by first | omega | (simp; done) | (simp; omega)) (by first | omega | (simp; done) | (simp; omega)) ?_)))) (by simp <;> omega) ?_; intro v6 w6 ho6 hb6 hq6 hs6; have HQ6 := Lib.hid hq6; have HS6 := Lib.hid hs6; clear hq6 hs6)) | ((refine step_appK _ (by rfl) (.tmp 99) (.tmp 101) (by rfl) w4 _ _ (by rfl) (by first | exact ho6 | exact OI.alloc _ ho6) (by (repeat (first | with_reducible exact Below.refl _ _ | with_reducible exact below_regrown _ _ _ | with_reducible refine bel_step0 (by assumption) ?_ | with_reducible refine bel_alloc0 ?_ _ | with_reducible refine bel_regrown0 ?_ _ _ | with_reducible refine bel_regrown ?_ (by first | omega | (simp; done) | (simp; omega)) _ _ | with_reducible refine below_drewN ?_ _ | with_reducible refine Below.drew ?_ | with_reducible refine Below.alloc ?_ (by first | omega | (simp; done) | (simp; omega)) _ | with_reducible refine Below.setCell ?_ (by first | omega | (simp; done) | (simp; omega)) _ | with_reducible refine bel_step (by assumption) (by first | omega | (simp; done) | (simp; omega)) ?_ | with_reducible refine bel_grown (by assumption) (by first | omega | (simp; done) | (simp; omega)) (by first | omega | (simp; done) | (simp; omega)) ?_))) _ _ _ _ (by rfl) (by first | exact si_lit _ _ _ | exact lit_kept1 HQ6.out HS6.out | exact lit_kept0 HQ6.out HS6.out) (by rw [List.nil_append, lst_length]; omega) ?_; intro v7 w7 ho7 hb7 hq7 hs7; clear hq7 hs7)) | ((refine step_appK _ (by rfl) (.tmp 102) (.tmp 105) (by rfl) w4 _ _ (by rfl) ho7 (by (repeat (first | with_reducible exact Below.refl _ _ | with_reducible exact below_regrown _ _ _ | with_reducible refine bel_step0 (by assumption) ?_ | with_reducible refine bel_alloc0 ?_ _ | with_reducible refine bel_regrown0 ?_ _ _ | with_reducible refine bel_regrown ?_ (by first | omega | (simp; done) | (simp; omega)) _ _ | with_reducible refine below_drewN ?_ _ | with_reducible refine Below.drew ?_ | with_reducible refine Below.alloc ?_ (by first | omega | (simp; done) | (simp; omega)) _ | with_reducible refine Below.setCell ?_ (by first | omega | (simp; done) | (simp; omega)) _ | with_reducible refine bel_step (by assumption) (by first | omega | (simp; done) | (simp; omega)) ?_ | with_reducible refine bel_grown (by assumption) (by first | omega | (simp; done) | (simp; omega)) (by first | omega | (simp; done) | (simp; omega)) ?_))) _ _ _ _ (by rfl) (HZ6.out _ _ _ (by omega)) (by rw [List.length_append, List.nil_append, lst_length, lst_length]; omega) ?_; intro v8 w8 ho8 hb8 hq8 hs8; clear hq8 hs8))); (all_goals (go_wp2; go_roundw; (case rel => exact ⟨t + 1, _, by omega, by go_num, HP.out, own_mono HMS.out (HO5.out.below hb8), own_mono (Nat.le_trans HMS.out HB5.out.size) (by rw [← HE6.out]; exact ho8), bel_step0 hb8 (bel_step0 HB5.out HM.out.be)⟩); (case measure => (simp [intOf]; omega)))))
          · have hold : ¬ cL R t (kS x) = 0 := by have := HA.out; rw [HZ0.out]; simpa using this
            have hsr : SR c R (t + 1) w wr _ _ W := HM.out.old (by rw [HX.out]; exact hold)
            have HSR := Lib.hid hsr
            clear hold hsr
            go_wp2
            go_roundw
            case rel => exact ⟨t + 1, W, by omega, by go_num, HSR.out⟩
            case measure => simp [intOf]; omega
    · obtain rfl : k = n := by omega
      go_wp2
      go_ret3
      exact ⟨_, _, W, rfl, HM.out⟩
end Go.Proofs.YtmhelhjjadoiaaaDoor
