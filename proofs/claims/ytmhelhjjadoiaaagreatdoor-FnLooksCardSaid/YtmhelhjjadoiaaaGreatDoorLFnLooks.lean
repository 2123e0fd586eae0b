/- The law FnLooks returns true, whatever its argument, and leaves it as it was. No condition beyond the row's own. -/
import Derived.Test.YtmhelhjjadoiaaaGreatDoorGlC
import Derived.Test.YtmhelhjjadoiaaaGreatDoorLkD
import Derived.Test.YtmhelhjjadoiaaaGreatDoorLkE
import Derived.Test.YtmhelhjjadoiaaaGreatDoorLkF
import Derived.Test.YtmhelhjjadoiaaaGreatDoorLkQ
import Derived.Test.YtmhelhjjadoiaaaGreatDoorLkU
import Derived.Test.YtmhelhjjadoiaaaGreatDoorLkW
import Derived.Test.YtmhelhjjadoiaaaGreatDoorRLaw
import Derived.Test.YtmhelhjjadoiaaaGreatDoorTab
import Derived.Test.YtmhelhjjadoiaaaGreatDoorDoorW
import Derived.Deep.CutBlock
import Derived.Test.YtmhelhjjadoiaaaGreatDoorCards
import Derived.Test.YtmhelhjjadoiaaaGreatDoorTie
import Derived.Test.YtmhelhjjadoiaaaGreatDoorOpen
import Derived.Deep.DeepHandedRow
import Derived.LaidMore
import Derived.Deep.DeepLaidRun
import Derived.PinnedBridge
import Derived.OpenShut
import Derived.ChangeMaps5
namespace Go.Proofs.YtmhelhjjadoiaaaGreatDoor.lawFnLooks
open Go.ChangeShapes Go.WideShapes Go.ChangeAt Go.RowKit Go.Deep Go.Joins
open Go.ChangeMaps (open_string shut_string)
set_option linter.unusedVariables false
set_option linter.unusedSimpArgs false
open Go.Sort
theorem ne_self_b (b : Bool) : (b != b) = false := by cases b <;> rfl
theorem burst_one {n : Nat} {R : Nat → Lk} {z g : Int} (h : lbK n R z (g + 1) = true) : lbM n R z g ≤ lbM n R z (g + 1) := by
  unfold lbK at h
  rw [Bool.and_eq_true] at h
  exact burst_fact h.1
set_option maxRecDepth 100000 in
set_option maxHeartbeats 8000000 in
theorem walk (v : Value) (n : Nat) (w : World) (h : SU w v n) (ht : Tab w) :
    Calls Tryz.prog 3 #[v] w fun e w' => e = .returned (.bool true) ∧ Below w.heap.size w w' := by
  obtain ⟨A, cap, rfl⟩ := h.form
  have HS := Lib.hid h
  have HT := Lib.hid ht
  clear h ht
  by_cases hbig : 65536 < n
  · have hbig2 : decide (65536 < (n : Int)) = true := by simp; omega
    go_enter Tryz.func3, Tryz.ntmps3
    go_wp2_with fail
    refine (C_rBig _ n _ HS.out).mono ?_; rintro e w1 ⟨rfl, rfl⟩
    rw [hbig2]
    go_wp2_with fail
    go_ret
    exact ⟨rfl, Below.refl _ _⟩
  have hbig2 : decide (65536 < (n : Int)) = false := by simp; omega
  go_enter Tryz.func3, Tryz.ntmps3
  go_wp2_with fail
  refine (C_rBig _ n _ HS.out).mono ?_; rintro e w1 ⟨rfl, rfl⟩
  rw [hbig2]
  clear hbig hbig2
  go_wp2_with fail
  refine (C_DrawLastChange _ n _ HS.out).mono ?_; rintro e w1 ⟨u, m, R, x, rfl, hd, hx, B⟩
  obtain ⟨UA, uc, rfl⟩ := hd.form
  have C1 := fun W (hW : DK W (.slice UA m uc) m R) => C_LastChangeI _ m R x W hW.1 hW.s63
  have C2 := fun W (hW : DK W (.slice UA m uc) m R) => C_LastChangeS _ m R x W hW.1 hW.s63
  have C3 := fun W (hW : DK W (.slice UA m uc) m R) => C_WhoSawI _ m R x W hW.1 hW.s63
  have C4 := fun W (hW : DK W (.slice UA m uc) m R) => C_WhoSawS _ m R x W hW.1 hW.s63
  have C5 := fun W (hW : DK W (.slice UA m uc) m R) => C_ReadsSinceI _ m R x W hW.1 hW.s63
  have C6 := fun W (hW : DK W (.slice UA m uc) m R) => C_ReadsSinceS _ m R x W hW.1 hW.s63
  have hrf := reads_fact m R x
  have hsf : lcOk m R x = true → anyB (wsL m R x).length (fun j => ai (wsL m R x) j == lcW m R x) = true := saw_fact
  have hfi : rsOk m R x = wsOk m R x := rfl
  obtain ⟨ok, hok⟩ : ∃ z0, lcOk m R x = z0 := ⟨_, rfl⟩
  obtain ⟨tick, htk⟩ : ∃ z0, lcT m R x = z0 := ⟨_, rfl⟩
  obtain ⟨who, hwh⟩ : ∃ z0, lcW m R x = z0 := ⟨_, rfl⟩
  obtain ⟨fine, hfn⟩ : ∃ z0, wsOk m R x = z0 := ⟨_, rfl⟩
  obtain ⟨SL, hSL⟩ : ∃ z0, wsL m R x = z0 := ⟨_, rfl⟩
  obtain ⟨rd, hrd⟩ : ∃ z0, rsV m R x = z0 := ⟨_, rfl⟩
  rw [hfi] at C5 C6 hrf
  rw [htk, hwh, hok] at C1 C2
  rw [hfn, hSL] at C3 C4
  rw [hrd, hfn] at C5 C6
  rw [hrd, hfn, hok, htk] at hrf
  rw [hok, hSL, hwh] at hsf
  have C1 := Lib.hid C1
  have C2 := Lib.hid C2
  have C3 := Lib.hid C3
  have C4 := Lib.hid C4
  have C5 := Lib.hid C5
  have C6 := Lib.hid C6
  have HRF := Lib.hid hrf
  have HSF := Lib.hid hsf
  have HD1 := Lib.hid hd
  have B1 := Lib.hid B
  clear hd hx hrf hsf hfi hok htk hwh hfn hSL hrd B
  go_wp2_with fail
  refine (C1.out _ HD1.out).mono ?_; rintro e w2 ⟨rfl, hb⟩
  have HD2 := Lib.hid (HD1.out.below hb)
  have B2 := Lib.hid (bel_step0 hb B1.out)
  clear hb HD1 B1
  go_wp2_with fail
  refine (C2.out _ HD2.out).mono ?_; rintro e w3 ⟨rfl, hb⟩
  have HD3 := Lib.hid (HD2.out.below hb)
  have B3 := Lib.hid (bel_step0 hb B2.out)
  have hb1 := ne_self_b ok
  clear hb HD2 B2
  go_wp2_with fail
  clear hb1
  refine (C3.out _ HD3.out).mono ?_; rintro e w4 ⟨v4, rfl, ho4, hb⟩
  have HD4 := Lib.hid (HD3.out.below hb)
  have B4 := Lib.hid (bel_step0 hb B3.out)
  have S4 := Lib.hid ho4.wi.si
  obtain ⟨VA, vc, rfl⟩ : ∃ A c, v4 = .slice A SL.length c := by obtain ⟨A, c, e, _⟩ := ho4.wi.si; exact ⟨A, c, e⟩
  clear hb HD3 B3 ho4
  go_wp2_with fail
  refine (C4.out _ HD4.out).mono ?_; rintro e w5 ⟨v5, rfl, ho5, hb⟩
  have HD5 := Lib.hid (HD4.out.below hb)
  have B5 := Lib.hid (bel_step0 hb B4.out)
  have S45 := Lib.hid (S4.out.below hb)
  have S5 := Lib.hid ho5.wi.si
  obtain ⟨VB, vb, rfl⟩ : ∃ A c, v5 = .slice A SL.length c := by obtain ⟨A, c, e, _⟩ := ho5.wi.si; exact ⟨A, c, e⟩
  clear hb HD4 B4 ho5 S4
  have hb1 := ne_self_b fine
  go_upto_region 10 with fail
  go_cut [101] (fun s101 wx => s101 = .bool false ∧ Below w5.heap.size w5 wx)
  case first =>
    as_aux_lemma =>
      cases ok
      · go_wp2_with fail
        refine (C_rInts _ _ _ _ _ S45.out S5.out).mono ?_; rintro e w6 ⟨rfl, hb⟩
        go_wp2_with fail
        go_meet
        exact ⟨rfl, hb⟩
      · have hsf := HSF.out rfl
        have HSF2 := Lib.hid hsf
        clear hsf
        go_wp2_with fail
        refine (C_rInts _ _ _ _ _ S45.out S5.out).mono ?_; rintro e w6 ⟨rfl, hb⟩
        have S6 := Lib.hid (S45.out.below hb)
        have HB6 := Lib.hid hb
        clear hb
        go_wp2_with fail
        refine (C_rHas _ _ _ who _ S6.out).mono ?_; rintro e w7 ⟨rfl, rfl⟩
        rw [HSF2.out]
        go_wp2_with fail
        go_meet
        exact ⟨rfl, HB6.out⟩
  case rest =>
    as_aux_lemma =>
      rename World => wx
      obtain ⟨rfl, hbx⟩ := hcut
      have HD6 := Lib.hid (HD5.out.below hbx)
      have B6 := Lib.hid (bel_step0 hbx B5.out)
      clear hbx HD5 B5 S45 S5 HSF C1 C2 C3 C4 hb1
      go_wp2_with fail
      refine (C5.out _ HD6.out).mono ?_; rintro e w7 ⟨rfl, hb⟩
      have HD7 := Lib.hid (HD6.out.below hb)
      have B7 := Lib.hid (bel_step0 hb B6.out)
      clear hb HD6 B6
      go_wp2_with fail
      refine (C6.out _ HD7.out).mono ?_; rintro e w8 ⟨rfl, hb⟩
      have HD8 := Lib.hid (HD7.out.below hb)
      have B8 := Lib.hid (bel_step0 hb B7.out)
      have hb1 := ne_self_b fine
      clear hb HD7 B7 C5 C6
      go_upto_region 17 with fail
      clear hb1
      go_upto_block 0 with fail
      go_cut [19, 20] (fun s19 s20 wx => s19 = .int .i64 rd ∧ w8 = wx)
      case first =>
        as_aux_lemma =>
          go_wp2
          cases fine
          · have hrf := HRF.out
            rw [if_neg (by decide)] at hrf
            subst hrf
            go_loop [19, 20] (fun c i => c = .int .i64 0 ∧ i = .int .i64 0) (fun _ _ => 0)
            case atStart => exact ⟨rfl, rfl⟩
            case round =>
              obtain ⟨rfl, rfl⟩ := hrel
              by_cases hm : 0 < m
              all_goals
                go_wp2
                go_meet
                exact ⟨rfl, rfl⟩
          · have hrf := HRF.out
            rw [if_pos rfl] at hrf
            subst hrf
            go_loop [19, 20] (fun c i => ∃ k : Nat, k ≤ m ∧ i = .int .i64 k ∧ c = .int .i64 (cntL R x ok tick k : Nat)) (fun _ i => m - (intOf i).toNat)
            case atStart => exact ⟨0, Nat.zero_le _, rfl, rfl⟩
            case round =>
              obtain ⟨k, hk, rfl, rfl⟩ := hrel
              by_cases hlt : k < m
              · obtain ⟨A9, c9, e9, hr9, _⟩ := HD8.out.1
                injection e9 with e9 _ e9c
                subst e9 e9c
                obtain ⟨b, off, rfl, hb, hcell⟩ := hr9 (by omega)
                obtain ⟨c0, c1, c2, c3, c4⟩ := hcell k hlt
                have hk0 : (0 : Int) ≤ (k : Int) := by omega
                have hk1 : (k : Int) < (m : Int) := by omega
                have hle := cntL_le R x ok tick k
                have hm16 := HD8.out.2.1
                have hcs : cntL R x ok tick (k + 1) = cntL R x ok tick k + (if ((R k).rid == x && (!ok || decide (tick < (R k).tick))) = true then 1 else 0) := rfl
                obtain ⟨c, hc⟩ : ∃ c, cntL R x ok tick k = c := ⟨_, rfl⟩
                rw [hc] at hcs hle
                rw [hc]
                have HCS := Lib.hid hcs
                clear hcell hr9 hcs hc c1 c3 c4
                cases h1 : ((R k).rid == x)
                · have e1 : cntL R x ok tick (k + 1) = c := by rw [HCS.out, h1]; rfl
                  have E1 := Lib.hid e1
                  clear e1
                  go_wp2
                  go_round
                  case rel => exact ⟨k + 1, by omega, by go_num, by rw [E1.out]⟩
                  case measure => simp [intOf]; omega
                · cases ok
                  · have e1 : cntL R x false tick (k + 1) = c + 1 := by rw [HCS.out, h1]; rfl
                    have E1 := Lib.hid e1
                    clear e1
                    go_wp2
                    go_round
                    case rel => exact ⟨k + 1, by omega, by go_num, by rw [E1.out]; go_num⟩
                    case measure => simp [intOf]; omega
                  · cases h2 : decide (tick < (R k).tick)
                    · have e1 : cntL R x true tick (k + 1) = c := by rw [HCS.out, h1, h2]; rfl
                      have E1 := Lib.hid e1
                      clear e1
                      go_wp2
                      go_round
                      case rel => exact ⟨k + 1, by omega, by go_num, by rw [E1.out]⟩
                      case measure => simp [intOf]; omega
                    · have e1 : cntL R x true tick (k + 1) = c + 1 := by rw [HCS.out, h1, h2]; rfl
                      have E1 := Lib.hid e1
                      clear e1
                      go_wp2
                      go_round
                      case rel => exact ⟨k + 1, by omega, by go_num, by rw [E1.out]; go_num⟩
                      case measure => simp [intOf]; omega
              · obtain rfl : k = m := by omega
                go_wp2
                go_meet
                exact ⟨rfl, rfl⟩
      case rest =>
        as_aux_lemma =>
          rename World => wx
          obtain ⟨rfl, rfl⟩ := hcut
          clear HRF HD8
          go_wp2_with fail
          refine (C_DrawLongestBurst _ n _ (HS.out.below B8.out)).mono ?_; rintro e w9 ⟨u, m, R, z, g, rfl, hd, hz, hg, hb⟩
          obtain ⟨UB, ub, rfl⟩ := hd.form
          obtain ⟨hg0, hg1⟩ := sm7_of hg
          have C1 := fun W (hW : DK W (.slice UB m ub) m R) => C_LongestBurstI _ m R z g W hW.1 hW.s63
          have C2 := fun W (hW : DK W (.slice UB m ub) m R) => C_LongestBurstS _ m R z g W hW.1 hW.s63
          have C3 := fun W (hW : DK W (.slice UB m ub) m R) => C_LongestBurstI _ m R z (g + 1) W hW.1 hW.s63
          have hbf : lbK m R z (g + 1) = true → lbM m R z g ≤ lbM m R z (g + 1) := burst_one
          obtain ⟨f1, hf1⟩ : ∃ z0, lbF m R z g = z0 := ⟨_, rfl⟩
          obtain ⟨f2, hf2⟩ : ∃ z0, lbF m R z (g + 1) = z0 := ⟨_, rfl⟩
          obtain ⟨m1, hm1⟩ : ∃ z0, lbM m R z g = z0 := ⟨_, rfl⟩
          obtain ⟨m2, hm2⟩ : ∃ z0, lbM m R z (g + 1) = z0 := ⟨_, rfl⟩
          obtain ⟨k1, hk1⟩ : ∃ z0, lbK m R z g = z0 := ⟨_, rfl⟩
          obtain ⟨k2, hk2⟩ : ∃ z0, lbK m R z (g + 1) = z0 := ⟨_, rfl⟩
          rw [hf1, hm1, hk1] at C1 C2
          rw [hf2, hm2, hk2] at C3
          rw [hm1, hm2, hk2] at hbf
          have C1 := Lib.hid C1
          have C2 := Lib.hid C2
          have C3 := Lib.hid C3
          have HBF := Lib.hid hbf
          have HD9 := Lib.hid hd
          have B9 := Lib.hid (bel_step0 hb B8.out)
          clear hd hz hg hb B8 hf1 hf2 hm1 hm2 hk1 hk2 hbf
          go_wp2_with fail
          refine (C1.out _ HD9.out).mono ?_; rintro e w10 ⟨rfl, hb⟩
          have HD10 := Lib.hid (HD9.out.below hb)
          have B10 := Lib.hid (bel_step0 hb B9.out)
          clear hb HD9 B9
          go_wp2_with fail
          refine (C2.out _ HD10.out).mono ?_; rintro e w11 ⟨rfl, hb⟩
          have HD11 := Lib.hid (HD10.out.below hb)
          have B11 := Lib.hid (bel_step0 hb B10.out)
          have hb1 := ne_self_b k1
          clear hb HD10 B10
          go_wp2_with fail
          clear hb1
          refine (C3.out _ HD11.out).mono ?_; rintro e w12 ⟨rfl, hb⟩
          have B12 := Lib.hid (bel_step0 hb B11.out)
          clear hb HD11 B11 C1 C2 C3 hg0 hg1
          go_upto_region 30 with fail
          go_cut [213] (fun s213 wx => s213 = .bool false ∧ w12 = wx)
          case first =>
            as_aux_lemma =>
              cases k1
              · go_wp2_with fail
                go_meet
                exact ⟨rfl, rfl⟩
              · cases k2
                · go_wp2_with fail
                  go_meet
                  exact ⟨rfl, rfl⟩
                · have hbf := HBF.out rfl
                  have hbd : decide (m2 < m1) = false := by simp; omega
                  go_wp2_with fail
                  go_meet
                  exact ⟨rfl, rfl⟩
          case rest =>
            as_aux_lemma =>
              rename World => wx
              obtain ⟨rfl, rfl⟩ := hcut
              clear HBF
              go_wp2_with fail
              refine (C_DrawLookText _ n _ (HS.out.below B12.out)).mono ?_; rintro e w13 ⟨y, rfl, hy, hb⟩
              have hy63 : y.why.size ≤ 9223372036854775807 := by have := (smK_of hy).2; omega
              have B13 := Lib.hid (bel_step0 hb B12.out)
              have C1 := fun W hW => C_LookTextI y.tick y.who y.rid y.kind y.why W hy63 hW
              have C2 := fun W hW => C_LookTextS y.tick y.who y.rid y.kind y.why W hy63 hW
              have C3 := fun W => C_IsLook y.tick y.who y.rid y.kind y.why W hy63
              obtain ⟨good, hgo⟩ : ∃ z0, okK ⟨y.tick, y.who, y.rid, y.kind, y.why⟩ = z0 := ⟨_, rfl⟩
              obtain ⟨TX, hTX⟩ : ∃ z0, lookText ⟨y.tick, y.who, y.rid, y.kind, y.why⟩ = z0 := ⟨_, rfl⟩
              rw [hgo, hTX] at C1 C2
              rw [hgo] at C3
              have C1 := Lib.hid C1
              have C2 := Lib.hid C2
              have C3 := Lib.hid C3
              clear hy hy63 hb B12 hgo hTX
              obtain ⟨w14, hw3⟩ : ∃ w3, w3 = (w13).alloc (.cells #[.int .i64 (y).tick, .int .i64 (y).who, .int .i64 (y).rid, .int .i64 (y).kind, .string (y).why] 37) := ⟨_, rfl⟩; obtain ⟨g14, hg⟩ : ∃ g, g = (w13).heap.size := ⟨_, rfl⟩; have Rw14 := Lib.hid (show (w14).rowIs g14 37 5 (cK y) by (rw [hw3, hg]; exact row5_alloc w13 _ y)); have HB3 := Lib.hid (show Below (w13).heap.size w13 w14 by (rw [hw3]; exact bel_alloc0 (Below.refl _ _) _)); have HW3 := Lib.hid hw3.symm; have HG := Lib.hid hg.symm; clear hw3 hg
              have B14 := Lib.hid (bel_step0 HB3.out B13.out)
              go_upto_region 33 with fail
              rw [HW3.out, HG.out]
              clear HW3 HG HB3 B13
              have x0 := Rw14.out.cell (i := 0) (by omega); have x1 := Rw14.out.cell (i := 1) (by omega); have x2 := Rw14.out.cell (i := 2) (by omega); have x3 := Rw14.out.cell (i := 3) (by omega); have x4 := Rw14.out.cell (i := 4) (by omega); simp only [cK, if_true, if_false, Nat.reduceEqDiff, reduceCtorEq] at x0 x1 x2 x3 x4
              go_wp2_with fail
              refine (C1.out _ (HT.out.below B14.out)).mono ?_; rintro e w15 ⟨rfl, hb⟩
              have R15 := Lib.hid (Rw14.out.of_block (hb.block _ Rw14.out.lt))
              have B15 := Lib.hid (bel_step0 hb B14.out)
              clear hb Rw14 B14 x0 x1 x2 x3 x4
              have x0 := R15.out.cell (i := 0) (by omega); have x1 := R15.out.cell (i := 1) (by omega); have x2 := R15.out.cell (i := 2) (by omega); have x3 := R15.out.cell (i := 3) (by omega); have x4 := R15.out.cell (i := 4) (by omega); simp only [cK, if_true, if_false, Nat.reduceEqDiff, reduceCtorEq] at x0 x1 x2 x3 x4
              go_wp2_with fail
              refine (C2.out _ (HT.out.below B15.out)).mono ?_; rintro e w16 ⟨rfl, hb⟩
              have R16 := Lib.hid (R15.out.of_block (hb.block _ R15.out.lt))
              have B16 := Lib.hid (bel_step0 hb B15.out)
              clear hb R15 B15 x0 x1 x2 x3 x4
              have x0 := R16.out.cell (i := 0) (by omega); have x1 := R16.out.cell (i := 1) (by omega); have x2 := R16.out.cell (i := 2) (by omega); have x3 := R16.out.cell (i := 3) (by omega); have x4 := R16.out.cell (i := 4) (by omega); simp only [cK, if_true, if_false, Nat.reduceEqDiff, reduceCtorEq] at x0 x1 x2 x3 x4
              have hb1 : (good == good) = true := by simp
              go_wp2_with fail
              refine (C3.out _).mono ?_; rintro e w17 ⟨rfl, hb⟩
              have B17 := Lib.hid (bel_step0 hb B16.out)
              clear hb R16 B16 x0 x1 x2 x3 x4
              go_wp2_with fail
              go_ret
              exact ⟨rfl, B17.out⟩
set_option maxRecDepth 100000 in
theorem contract (H : Type) (enc : TypeId × Value → H) (W : World) (base : Nat) (args : Array Value) (ds gs : List (DataW H)) (before : List MemPlace)
    (hval0 : ∀ (j : Nat) t v, Tryz.f3.params[j]? = some t → args[j]? = some v → Value.okWide Tryz.prog W .any base t v)
    (hW : DataW.Whole enc Tryz.prog Tryz.f3.params.toList Rows.fnLooksSpec.vars false W args.toList ds gs before) (hL : laidMetH Tryz.prog Rows.fnLooksRow.laid W) :
    Calls Tryz.prog 3 args W fun e W' => ∃ v, e = .returned v ∧ Rows.fnLooksSpec.post enc Tryz.prog Tryz.f3 false true false false W args v W' := by
  have hval : ∀ (j : Nat) t v, Tryz.f3.params[j]? = some t → args[j]? = some v → Value.okWide Tryz.prog W .any base t v := hval0
  have hW' := hW
  obtain ⟨p, q, hA0, hV, rfl, hfz, hnd⟩ := hW
  have hA : DataW.TrodAll enc Tryz.prog W 0 (fun _ => true) true Tryz.f3.params.toList args.toList ds p := hA0
  rw [Tryz.params3] at hA hval
  obtain ⟨v0, vs0, d0, ds0, p0, q0, hargs, rfl, rfl, h0, r0⟩ := trodAll_cons hA
  obtain ⟨rfl, rfl, rfl⟩ := trodAll_nil r0
  obtain rfl : args = #[v0] := by cases args; simp_all
  obtain ⟨rfl, rfl⟩ := trodVars_none hV
  have k0 := h0
  have lt0 : ∀ x ∈ p0, x.block < W.heap.size := by obtain ⟨m, hm⟩ := k0; exact DataW.trod_lt m _ _ _ hm
  obtain ⟨n0, b0⟩ := view_Suint8 (hval 0 22 v0 rfl rfl) h0
  clear hA0 hval0
  refine (walk v0 n0 W b0 (tab_of W hL)).mono fun e W' ⟨he, bel⟩ => ?_
  subst he
  exact ⟨_, rfl, _, _, _, [], _, [], hW', trodAll_mk1 (shut_bool Tryz.underlying4 _), (trodAll_cons_mk (Below.trod laidOut (by kernel_rfl) (of_decide_eq_true (by kernel_rfl)) k0 bel lt0) trodAll_mk0), rfl, bel.frame _, fun h => by cases h⟩
theorem reads (os : Os) {H : Type} (enc : TypeId × Value → H) : ∃ places, DataW.whole enc Tryz.prog ((doorW os).forCall (fun _ _ => 0) ⟨#[], #[.slice none 0 0], []⟩).memory Tryz.f3.params.toList Rows.fnLooksSpec.vars false #[.slice none 0 0].toList 8 = some ([.nil], [], places) :=
  ⟨[], by kernel_rfl⟩
set_option maxRecDepth 100000 in
theorem door_metL (os : Os) (args : Array Value) : laidMet Tryz.prog Rows.fnLooksRow.laid ((doorW os).forCall (fun _ _ => 0) ⟨#[], args, []⟩).memory :=
  laidMet_of_run3 8 (by kernel_rfl) (by kernel_rfl) (by kernel_rfl)
set_option maxRecDepth 100000 in
theorem lifted (os : Os) (started : os.Started) (H : Type) (enc : TypeId × Value → H) (F : Stop.Interp) :
    ReturnsInHanded {} Tryz.checked os 3 .any ((OpenSpec.ofChange Rows.fnLooksSpec).preRow enc Tryz.prog Tryz.f3 Rows.fnLooksRow.domain false Rows.fnLooksRow.laid) (((OpenSpec.ofChange Rows.fnLooksSpec).at F).post enc Tryz.prog Tryz.f3 false true false false) := by
  obtain ⟨places, hx⟩ := reads os enc
  refine returnsInHanded_of_row (C := Tryz.checked) (s := OpenSpec.ofChange Rows.fnLooksSpec) own started (by kernel_rfl) Tryz.func3
    (witness_row_at (enc := enc) (C := Tryz.checked) false (doorW os) #[.slice none 0 0] rfl (door_shape os _) (door_rest os _) (by kernel_rfl)
      (OpenSpec.preRow_of_cond 8 hx (by kernel_rfl) (fun k hk => by cases hk) (by kernel_rfl) (door_metL os _))) ?_
  intro W base args ds gs before hval hW _ _ _ hL _ _
  exact contract H enc W base args ds gs before hval hW hL
theorem said : Rows.FnLooksSaid :=
  OpenClaim.holds_of_cond 3 Tryz.f3 rfl rfl rfl rfl rfl rfl rfl ⟨rfl, rfl, rfl, rfl, rfl⟩ rfl rfl rfl rfl rfl (by kernel_rfl) Tryz.func3 (by kernel_rfl)
    (of_decide_eq_true (by kernel_rfl)) (by unfold Func.isWrapper; first | (rw [if_pos (by decide +kernel)]; kernel_rfl) | (rw [if_neg (by decide +kernel)]; exact ⟨rfl, rfl⟩))
    (fun os started H enc _ F => by rw [OpenClaim.pre_eq_preRow]; exact lifted os started H enc F)
theorem plain (f : FuncId) (fn : Func) (hf : Tryz.pinned.checked.prog.funcNamed Rows.fnLooksRow.func = some f) (hfn : Tryz.pinned.checked.prog.funcs[f]? = some fn) :
    false = Tryz.pinned.checked.prog.looks [] ∧ ∀ (j : Nat) t, fn.params[j]? = some t → Tryz.pinned.checked.prog.wantsStandIn t = false := by
  obtain rfl : f = 3 := Option.some.inj ((show Tryz.prog.funcNamed Rows.fnLooksRow.func = some 3 by kernel_rfl).symm.trans hf) |>.symm
  obtain rfl : fn = Tryz.f3 := (Option.some.inj (Tryz.func3.symm.trans hfn)).symm
  refine ⟨by kernel_rfl, fun j t ht => ?_⟩
  rw [Tryz.params3] at ht
  obtain rfl : t = 22 := by simpa using Array.mem_of_getElem? ht
  exact (show Tryz.prog.wantsStandIn 22 = false by kernel_rfl)
theorem proved : Rows.FnLooksCardSaid :=
  Claim7.holds_tied_plain_at .later [] _ _ _ _ said (fun _ h => by cases h) (by kernel_rfl) (fun _ h => by cases h) fnLooks_row_tie rfl ⟨rfl, rfl⟩ (by kernel_rfl) rfl plain (by kernel_rfl)
#print axioms proved
end Go.Proofs.YtmhelhjjadoiaaaGreatDoor.lawFnLooks
