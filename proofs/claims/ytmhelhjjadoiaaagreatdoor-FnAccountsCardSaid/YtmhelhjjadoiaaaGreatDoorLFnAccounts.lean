/- The law FnAccounts returns true, whatever its argument, and leaves it as it was. No condition beyond the row's own. -/
import Derived.Test.YtmhelhjjadoiaaaGreatDoorPackE
import Derived.Test.YtmhelhjjadoiaaaGreatDoorPackA
import Derived.Test.YtmhelhjjadoiaaaGreatDoorRLaw
import Derived.Test.YtmhelhjjadoiaaaGreatDoorRTab
import Derived.Test.YtmhelhjjadoiaaaGreatDoorTxL
import Derived.Test.YtmhelhjjadoiaaaGreatDoorDoorW
import Derived.Deep.CutBlock
import Derived.Test.YtmhelhjjadoiaaaGreatDoorCards
import Derived.Test.YtmhelhjjadoiaaaGreatDoorTie
import Derived.Test.YtmhelhjjadoiaaaGreatDoorOpen
import Derived.Deep.DeepHandedRow
import Derived.LaidMore
import Derived.Deep.DeepLaidRun
import Derived.PinnedBridge
import Derived.OpenShut
import Derived.ChangeMaps5
namespace Go.Proofs.YtmhelhjjadoiaaaGreatDoor.lawFnAccounts
open Go.ChangeShapes Go.WideShapes Go.ChangeAt Go.RowKit Go.Deep Go.Joins
open Go.ChangeMaps (open_string shut_string)
set_option linter.unusedVariables false
set_option linter.unusedSimpArgs false
open Go.Sort
theorem ne_self_b (b : Bool) : (b != b) = false := by cases b <;> rfl
theorem merged_facts {n m : Nat} {R S : Nat → Lk} (h : mgOk n R m S = true) :
    mgOk m S n R = true ∧ mgL m S n R = mgL n R m S ∧ mgOk (mgL n R m S).length (atK (mgL n R m S)) n R = true ∧ mgL (mgL n R m S).length (atK (mgL n R m S)) n R = mgL n R m S ∧ accB (mgL n R m S).length (atK (mgL n R m S)) = true := by
  have h0 := h
  unfold mgOk at h
  simp only [Bool.and_eq_true] at h
  obtain ⟨h1, h2, h3⟩ := h
  have e := (mgL_yes h1 h2 h3).2
  have e1 : mgM m S n R = mgM n R m S := mrg_comm eqK_iff (str_atK h3) (str_seg h2)
  have e2 : mgM (mgM n R m S).length (atK (mgM n R m S)) n R = mgM n R m S := by
    unfold mgM at *
    rw [seg_atK]
    exact mrg_again eqK_iff (str_atK h3)
  rw [e]
  have k1 := mgL_yes (n := m) (R := S) (m := n) (S := R) h2 h1 (by rw [e1]; exact h3)
  have k2 := mgL_yes (n := (mgM n R m S).length) (R := atK (mgM n R m S)) (m := n) (S := R) h3 h1 (by rw [e2]; exact h3)
  exact ⟨k1.1, by rw [k1.2, e1], k2.1, by rw [k2.2, e2], h3⟩
theorem smK_size {l : List Lk} {n : Nat} {R : Nat → Lk} (hR : ∀ j, smK (R j) = true) (h : ∀ x ∈ l, ∃ j, j < n ∧ R j = x) : ∀ j, j < l.length → (atK l j).why.size ≤ 9223372036854775807 := fun j hj => by
  obtain ⟨i, _, e⟩ := h _ (atK_mem hj)
  rw [← e]
  have := (smK_of (hR i)).2
  omega
theorem mgL_size {n m : Nat} {R S : Nat → Lk} (hR : ∀ j, smK (R j) = true) (hS : ∀ j, smK (S j) = true) : ∀ j, j < (mgL n R m S).length → (atK (mgL n R m S) j).why.size ≤ 9223372036854775807 := fun j hj => by
  have h1 : atK (mgL n R m S) j ∈ mgL n R m S := atK_mem hj
  generalize atK (mgL n R m S) j = x at h1 ⊢
  unfold mgL at h1
  split at h1
  · unfold mgM at h1
    rw [mem_mrgL eqK_iff] at h1
    simp only [seg, List.mem_map, List.mem_range, Nat.zero_add] at h1
    rcases h1 with ⟨i, hi, e⟩ | ⟨i, hi, e⟩
    · rw [← e]; have := (smK_of (hR i)).2; omega
    · rw [← e]; have := (smK_of (hS i)).2; omega
  · cases h1
theorem at_mem {l : List (List Int)} {i : Nat} (h : i < l.length) : at_ l i ∈ l := by
  unfold at_
  rw [List.getD_eq_getElem?_getD, List.getElem?_eq_getElem h]
  exact List.getElem_mem h
set_option maxRecDepth 100000 in
set_option maxHeartbeats 8000000 in
theorem walk (v : Value) (n : Nat) (w : World) (h : SU w v n) :
    Calls Tryz.prog 4 #[v] w fun e w' => e = .returned (.bool true) ∧ Below w.heap.size w w' := by
  obtain ⟨A, cap, rfl⟩ := h.form
  have HS := Lib.hid h
  clear h
  by_cases hbig : 65536 < n
  · have hbig2 : decide (65536 < (n : Int)) = true := by simp; omega
    go_enter Tryz.func4, Tryz.ntmps4
    go_wp2_with fail
    refine (C_rBig _ n _ HS.out).mono ?_; rintro e w1 ⟨rfl, rfl⟩
    rw [hbig2]
    go_wp2_with fail
    go_ret
    exact ⟨rfl, Below.refl _ _⟩
  have hbig2 : decide (65536 < (n : Int)) = false := by simp; omega
  go_enter Tryz.func4, Tryz.ntmps4
  go_wp2_with fail
  refine (C_rBig _ n _ HS.out).mono ?_; rintro e w1 ⟨rfl, rfl⟩
  rw [hbig2]
  clear hbig hbig2
  go_wp2_with fail
  refine (C_DrawMergeAccounts _ n _ HS.out).mono ?_; rintro e w1 ⟨u, m, R, t, q, S, rfl, hd, hq, B⟩
  have C1 := fun W (hW : LKs W u m R) (kW : LKs W t q S) => C_MergeI u t m q R S W hW kW hd.s63 hq.s63
  have C2 := fun W (hW : LKs W u m R) (kW : LKs W t q S) => C_MergeS u t m q R S W hW kW hd.s63 hq.s63
  have C3 := fun W (hW : LKs W u m R) (kW : LKs W t q S) => C_MergeI t u q m S R W kW hW hq.s63 hd.s63
  have hls := mgL_size (n := m) (m := q) hd.2.2 hq.2.2
  have hmf := merged_facts (n := m) (m := q) (R := R) (S := S)
  obtain ⟨ok, hok⟩ : ∃ z0, mgOk m R q S = z0 := ⟨_, rfl⟩
  obtain ⟨L, hL⟩ : ∃ z0, mgL m R q S = z0 := ⟨_, rfl⟩
  rw [hok, hL] at C1 C2
  rw [hok, hL] at hmf
  rw [hL] at hls
  have C4 := fun W v (hW : LKs W v L.length (atK L)) (kW : LKs W u m R) => C_MergeI v u L.length m (atK L) R W hW kW hls hd.s63
  have C5 := fun W v (hW : LKs W v L.length (atK L)) => C_IsAccount v L.length (atK L) W hW hls
  have C1 := Lib.hid C1
  have C2 := Lib.hid C2
  have C3 := Lib.hid C3
  have C4 := Lib.hid C4
  have C5 := Lib.hid C5
  have HMF := Lib.hid hmf
  have HD1 := Lib.hid (And.intro hd.1 hq.1)
  have B1 := Lib.hid B
  clear hd hq hls hmf hok hL B
  go_wp2_with fail
  refine (C1.out _ HD1.out.1 HD1.out.2).mono ?_; rintro e w2 ⟨v2, rfl, O2, hb⟩
  have HD2 := Lib.hid (And.intro (HD1.out.1.below hb) (HD1.out.2.below hb))
  have B2 := Lib.hid (bel_step0 hb B1.out)
  have K2 := Lib.hid O2.lks
  clear hb HD1 B1 O2
  go_wp2_with fail
  refine (C2.out _ HD2.out.1 HD2.out.2).mono ?_; rintro e w3 ⟨v3, rfl, O3, hb⟩
  have HD3 := Lib.hid (And.intro (HD2.out.1.below hb) (HD2.out.2.below hb))
  have B3 := Lib.hid (bel_step0 hb B2.out)
  have K23 := Lib.hid (K2.out.below hb)
  have K3 := Lib.hid O3.lks
  have hb1 := ne_self_b ok
  clear hb HD2 B2 K2 O3
  go_wp2_with fail
  refine (C_rLooks _ _ _ _ _ K23.out K3.out).mono ?_; rintro e w4 ⟨rfl, hb⟩
  have HD4 := Lib.hid (And.intro (HD3.out.1.below hb) (HD3.out.2.below hb))
  have B4 := Lib.hid (bel_step0 hb B3.out)
  have K4 := Lib.hid (K23.out.below hb)
  clear hb HD3 B3 K23 K3 hb1
  go_upto_if 63 with fail
  go_cut [9, 10, 11, 12] (fun s9 s10 s11 s12 wx => Below w4.heap.size w4 wx)
  case first =>
    as_aux_lemma =>
      cases ok
      · go_wp2_with fail
        go_meet
        exact Below.refl _ _
      · obtain ⟨f1, f2, f3, f4, f5⟩ := HMF.out rfl
        have HF := Lib.hid (And.intro (And.intro f1 f2) (And.intro (And.intro f3 f4) f5))
        clear f1 f2 f3 f4 f5 HMF
        go_wp2_with fail
        refine (C3.out _ HD4.out.1 HD4.out.2).mono ?_; rintro e w5 ⟨v5, rfl, O5, hb⟩
        rw [HF.out.1.1]
        rw [HF.out.1.2] at O5
        have HD5 := Lib.hid (HD4.out.1.below hb)
        have B5 := Lib.hid hb
        have K45 := Lib.hid (K4.out.below hb)
        have K5 := Lib.hid O5.lks
        clear hb O5 K4 HD4
        go_wp2_with fail
        refine (C4.out _ _ K45.out HD5.out).mono ?_; rintro e w6 ⟨v6, rfl, O6, hb⟩
        rw [HF.out.2.1.1]
        rw [HF.out.2.1.2] at O6
        have B6 := Lib.hid (bel_step0 hb B5.out)
        have K46 := Lib.hid (K45.out.below hb)
        have K56 := Lib.hid (K5.out.below hb)
        have K6 := Lib.hid O6.lks
        clear hb O6 K45 HD5 B5 K5
        go_wp2_with fail
        refine (C_rLooks _ _ _ _ _ K56.out K46.out).mono ?_; rintro e w7 ⟨rfl, hb⟩
        have B7 := Lib.hid (bel_step0 hb B6.out)
        have K47 := Lib.hid (K46.out.below hb)
        have K67 := Lib.hid (K6.out.below hb)
        clear hb B6 K46 K6 K56
        go_wp2_with fail
        refine (C_rLooks _ _ _ _ _ K67.out K47.out).mono ?_; rintro e w8 ⟨rfl, hb⟩
        have B8 := Lib.hid (bel_step0 hb B7.out)
        have K48 := Lib.hid (K47.out.below hb)
        clear hb B7 K47 K67
        go_wp2_with fail
        refine (C5.out _ _ K48.out).mono ?_; rintro e w9 ⟨rfl, hb⟩
        rw [HF.out.2.2]
        have B9 := Lib.hid (bel_step0 hb B8.out)
        clear hb B8 K48
        go_wp2_with fail
        go_meet
        exact B9.out
  case rest =>
    as_aux_lemma =>
      rename World => wx
      have B5 := Lib.hid (bel_step0 hcut B4.out)
      clear hcut B4 K4 HD4 C1 C2 C3 C4 C5 HMF
      go_wp2_with fail
      refine (C_DrawSameReason _ n _ (HS.out.below B5.out)).mono ?_; rintro e w6 ⟨u2, m2, R2, rfl, hd, hb⟩
      obtain ⟨UA, uc, rfl⟩ := hd.form
      obtain ⟨ok2, k2, F, G, hk15, CI, CS, hG, hFs, hfact⟩ := both_more m2 R2 hd.s63
      have C1 := Lib.hid CI
      have C2 := Lib.hid CS
      have C3 := Lib.hid (fun W u (hW : LKs W (.slice UA m2 uc) m2 R2) (kW : TI W u k2 F) => C_UnexplainedI (.slice UA m2 uc) u m2 R2 k2 F W hW hd.s63 kW hFs)
      have HG := Lib.hid hG
      have HFA := Lib.hid hfact
      have HD6 := Lib.hid hd.1
      have B6 := Lib.hid (bel_step0 hb B5.out)
      have hm16 : m2 ≤ 16 := hd.2.1
      clear hb hd CI CS hG hFs hfact B5
      go_wp2_with fail
      refine (C1.out _ _ HD6.out).mono ?_; rintro e w7 ⟨a1, a2, rfl, TA, hb⟩
      have HD7 := Lib.hid (HD6.out.below hb)
      have B7 := Lib.hid (bel_step0 hb B6.out)
      have T7 := Lib.hid TA
      clear hb TA HD6 B6
      go_wp2_with fail
      refine (C2.out _ _ HD7.out).mono ?_; rintro e w8 ⟨b1, b2, rfl, TB, hb⟩
      have HD8 := Lib.hid (HD7.out.below hb)
      have B8 := Lib.hid (bel_step0 hb B7.out)
      have TA := T7.out.below hb
      have TI8 := Lib.hid (And.intro TA.ti TB.ti)
      have SI8 := Lib.hid (And.intro TA.si TB.si)
      have hb1 := ne_self_b ok2
      obtain ⟨A1, d1, rfl⟩ : ∃ A c, a1 = .slice A k2 c := by obtain ⟨A, c, e, _⟩ := TA.ti; exact ⟨A, c, e⟩
      clear hb TA TB HD7 B7 T7 C1 C2
      obtain ⟨z, hz⟩ : ∃ z, (ok2 && decide ((k2 : Int) ≤ 10)) = z := ⟨_, rfl⟩
      have HZ := Lib.hid hz
      clear hz
      go_upto_region 16 with fail
      go_cut [137] (fun s137 wx => s137 = .bool false ∧ Below w8.heap.size w8 wx)
      case first =>
        as_aux_lemma =>
          go_wp2_with fail
          refine (C_rTexts _ _ _ _ _ TI8.out.1 TI8.out.2).mono ?_; rintro e w9 ⟨rfl, hb⟩
          have B9 := Lib.hid hb
          have S9 := Lib.hid (And.intro (SI8.out.1.below hb) (SI8.out.2.below hb))
          clear hb
          go_wp2_with fail
          refine (C_rInts _ _ _ _ _ S9.out.1 S9.out.2).mono ?_; rintro e w10 ⟨rfl, hb⟩
          have B10 := Lib.hid (bel_step0 hb B9.out)
          have S10 := Lib.hid (S9.out.1.below hb)
          clear hb B9 S9
          cases ok2
          · go_wp2_with fail
            go_meet
            exact ⟨rfl, B10.out⟩
          · have HF := Lib.hid (HFA.out rfl).1
            go_wp2_with fail
            refine (C_rSum _ _ _ _ S10.out (by omega) HG.out).mono ?_; rintro e w11 ⟨rfl, rfl⟩
            rw [HF.out]
            have hnn : ((m2 : Int) != (m2 : Int)) = false := by simp
            go_wp2_with fail
            go_meet
            exact ⟨rfl, B10.out⟩
      case rest =>
        as_aux_lemma =>
          rename World => wx
          obtain ⟨rfl, hbx⟩ := hcut
          have HD9 := Lib.hid (HD8.out.below hbx)
          have B9 := Lib.hid (bel_step0 hbx B8.out)
          have T9 := Lib.hid (TI8.out.1.below hbx)
          clear hbx HD8 B8 TI8 SI8 hb1
          go_upto_region 18 with fail
          go_cut [143] (fun s143 wy => s143 = .bool z ∧ Below wx.heap.size wx wy)
          case first =>
            as_aux_lemma =>
              have hz := HZ.out
              clear HZ
              cases ok2
              · subst hz
                go_wp2_with fail
                go_meet
                exact ⟨by simp, Below.refl _ _⟩
              · have hz2 : decide ((k2 : Int) ≤ 10) = z := by simpa using hz
                clear hz
                go_wp2_with fail
                go_meet
                exact ⟨by rw [← hz2], Below.refl _ _⟩
          case rest =>
            as_aux_lemma =>
              rename World => wy
              obtain ⟨rfl, hby⟩ := hcut
              have HD9' := Lib.hid (HD9.out.below hby)
              have B9' := Lib.hid (bel_step0 hby B9.out)
              have T9' := Lib.hid (T9.out.below hby)
              clear hby HD9 B9 T9
              go_upto_if 143 with fail
              go_cut [20, 21] (fun s20 s21 wz => Below wy.heap.size wy wz)
              case first =>
                as_aux_lemma =>
                  have hz := HZ.out
                  clear HZ
                  cases z
                  · go_wp2_with fail
                    go_meet
                    exact Below.refl _ _
                  · rw [Bool.and_eq_true, decide_eq_true_eq] at hz
                    obtain ⟨g1, g2⟩ := (HFA.out hz.1).2 (by omega)
                    have HG2 := Lib.hid (And.intro g1 g2)
                    clear g1 g2 hz HFA
                    go_wp2_with fail
                    refine (C3.out _ _ HD9'.out T9'.out).mono ?_; rintro e w10 ⟨v10, rfl, O10, hb⟩
                    rw [HG2.out.1]
                    rw [HG2.out.2] at O10
                    obtain ⟨VA, vc, rfl⟩ : ∃ A c, v10 = .slice A 0 c := by obtain ⟨A, c, e, _⟩ := O10.wi; exact ⟨A, c, e⟩
                    have HB := Lib.hid hb
                    clear O10 hb
                    go_wp2_with fail
                    go_meet
                    exact HB.out
              case rest =>
                as_aux_lemma =>
                  rename World => wz
                  have B10 := Lib.hid (bel_step0 hcut B9'.out)
                  clear hcut B9' T9' HD9' C3 HFA HZ HG
                  go_wp2_with fail
                  refine (C_DrawCrossedLooks _ n _ (HS.out.below B10.out)).mono ?_; rintro e w11 ⟨u3, m3, R3, x3, rfl, hd, hx, hb⟩
                  obtain ⟨UA3, uc3, rfl⟩ := hd.form
                  have C1 := fun W (hW : LKs W (.slice UA3 m3 uc3) m3 R3) => C_CrossedLooksI (.slice UA3 m3 uc3) m3 R3 x3 W hW hd.s63
                  have C2 := fun W (hW : LKs W (.slice UA3 m3 uc3) m3 R3) => C_CrossedLooksS (.slice UA3 m3 uc3) m3 R3 x3 W hW hd.s63
                  have hcf := @cross_fact m3 R3 x3
                  obtain ⟨ok3, hok3⟩ : ∃ z0, clOk m3 R3 x3 = z0 := ⟨_, rfl⟩
                  obtain ⟨PL, hPL⟩ : ∃ z0, clL m3 R3 x3 = z0 := ⟨_, rfl⟩
                  rw [hok3, hPL] at C1 C2
                  rw [hPL] at hcf
                  obtain ⟨k3, hk3⟩ : ∃ k3, PL.length = k3 := ⟨_, rfl⟩
                  rw [hk3] at C1 C2
                  have hrows : ∀ i, i < k3 → ∃ a b : Nat, at_ PL i = [(a : Int), (b : Int)] ∧ a < m3 ∧ b < m3 ∧ (R3 a).rid = (R3 b).rid ∧ (R3 a).who ≠ (R3 b).who := fun i hi => by
                    have hm : at_ PL i ∈ PL := at_mem (by rw [hk3]; exact hi)
                    obtain ⟨a, b, e, h1, h2, h3, h4⟩ := hcf _ hm
                    exact ⟨a, b, e, h1, h2, h3, h4⟩
                  have C1 := Lib.hid C1
                  have C2 := Lib.hid C2
                  have HRW := Lib.hid hrows
                  have HD11 := Lib.hid hd.1
                  have B11 := Lib.hid (bel_step0 hb B10.out)
                  clear hd hx hb hcf hrows hok3 hPL hk3 B10
                  go_wp2_with fail
                  refine (C1.out _ HD11.out).mono ?_; rintro e w12 ⟨v12, rfl, O12, hb⟩
                  have HD12 := Lib.hid (HD11.out.below hb)
                  have B12 := Lib.hid (bel_step0 hb B11.out)
                  have S12 := Lib.hid O12.ssi
                  obtain ⟨VA, vc, rfl⟩ : ∃ A c, v12 = .slice A k3 c := by obtain ⟨A, c, e, _⟩ := O12.ssi; exact ⟨A, c, e⟩
                  clear hb O12 HD11 B11 C1
                  go_wp2_with fail
                  refine (C2.out _ HD12.out).mono ?_; rintro e w13 ⟨v13, rfl, O13, hb⟩
                  have HD13 := Lib.hid (HD12.out.below hb)
                  have B13 := Lib.hid (bel_step0 hb B12.out)
                  have S13 := Lib.hid (And.intro (S12.out.below hb) O13.ssi)
                  have hb1 := ne_self_b ok3
                  clear hb O13 HD12 B12 S12 C2
                  go_wp2_with fail
                  refine (C_rTable _ _ _ _ _ S13.out.1 S13.out.2).mono ?_; rintro e w14 ⟨rfl, hb⟩
                  have HD14 := Lib.hid (HD13.out.below hb)
                  have B14 := Lib.hid (bel_step0 hb B13.out)
                  have S14 := Lib.hid (S13.out.1.below hb)
                  clear hb HD13 B13 S13 hb1
                  go_wp2
                  go_loopw [28] (fun i wr => ∃ k : Nat, k ≤ k3 ∧ i = .int .i64 k ∧ Below w14.heap.size w14 wr) (fun i _ => k3 - (intOf i).toNat)
                  case atStart => exact ⟨0, Nat.zero_le _, rfl, Below.refl _ _⟩
                  case round =>
                    obtain ⟨k, hk, rfl, hB⟩ := hrel
                    by_cases hlt : k < k3
                    · obtain ⟨a, b, hab, ha, hb, hr, hw⟩ := HRW.out k hlt
                      obtain ⟨A2, c2, e2, hr2, _⟩ := S14.out.below hB
                      injection e2 with e2 _ e3
                      subst e2 e3
                      obtain ⟨pb, po, rfl, hpl, hpc⟩ := hr2 (by omega)
                      obtain ⟨sv, hsv, hc⟩ := hpc k hlt
                      rw [hab] at hsv
                      obtain ⟨RA, rc, rfl, hrr, hrc, hrm⟩ := hsv
                      obtain ⟨rb, ro, rfl, hrl, hcc⟩ := hrr (by simp)
                      have i0 : wr.cell? ⟨rb, ro, none⟩ = some (.int .i64 (a : Int)) := hcc 0 (by simp)
                      have i1 : wr.cell? ⟨rb, ro + 1, none⟩ = some (.int .i64 (b : Int)) := hcc 1 (by simp)
                      obtain ⟨LA, lc, e4, hl4, _⟩ := HD14.out.below hB
                      injection e4 with e4 _ e5
                      subst e4 e5
                      obtain ⟨lb, lo, rfl, hll, hlc⟩ := hl4 (by omega)
                      obtain ⟨_, x1, x2, _, _⟩ := hlc a ha
                      obtain ⟨_, y1, y2, _, _⟩ := hlc b hb
                      obtain ⟨z1, hz1⟩ : ∃ z, (R3 a).rid = z := ⟨_, rfl⟩
                      obtain ⟨p1, hp1⟩ : ∃ z, (R3 a).who = z := ⟨_, rfl⟩
                      obtain ⟨q1, hq1⟩ : ∃ z, (R3 b).who = z := ⟨_, rfl⟩
                      rw [← hr, hz1] at y2
                      rw [hz1] at x2
                      rw [hp1] at x1 hw
                      rw [hq1] at y1 hw
                      have hzz : (z1 != z1) = false := by simp
                      have hpq : (p1 == q1) = false := by rw [beq_eq_false_iff_ne]; exact hw
                      have g0 := cell_regrown hc; have g1 := cell_regrown i0; have g2 := cell_regrown i1
                      have g3 := cell_regrown x1; have g4 := cell_regrown x2; have g5 := cell_regrown y1; have g6 := cell_regrown y2
                      have b0 : (0 : Int) ≤ (k : Int) := by omega
                      have b1 : (k : Int) < (k3 : Int) := by omega
                      have b2 : (0 : Int) ≤ (a : Int) := by omega
                      have b3 : (a : Int) < (m3 : Int) := by omega
                      have b4 : (0 : Int) ≤ (b : Int) := by omega
                      have b5 : (b : Int) < (m3 : Int) := by omega
                      clear hab hr hw hpc hc hcc i0 i1 hl4 hlc x1 x2 y1 y2 hz1 hp1 hq1 hr2 hrr
                      go_wp2
                      (refine wp_region_quiet_below (by kernel_rfl) (by kernel_rfl) ?_; (repeat (go_big_quiet_step (fail))); refine wpQuiet_nil ?_; intro _ hw'; obtain ⟨⟨dq, osq⟩, hw''⟩ := hw'; subst hw'')
                      clear g0 g1 g2 g3 g4 g5 g6
                      go_wp2
                      go_roundw
                      case rel => exact ⟨k + 1, by omega, by go_num, by (repeat (first | with_reducible exact Below.refl _ _ | with_reducible exact below_regrown _ _ _ | with_reducible refine bel_step0 (by assumption) ?_ | with_reducible refine bel_alloc0 ?_ _ | with_reducible refine bel_regrown0 ?_ _ _ | with_reducible refine bel_regrown ?_ (by first | omega | (simp; done) | (simp; omega)) _ _ | with_reducible refine below_drewN ?_ _ | with_reducible refine Below.drew ?_ | with_reducible refine Below.alloc ?_ (by first | omega | (simp; done) | (simp; omega)) _ | with_reducible refine Below.setCell ?_ (by first | omega | (simp; done) | (simp; omega)) _ | with_reducible refine bel_step (by assumption) (by first | omega | (simp; done) | (simp; omega)) ?_ | with_reducible refine bel_grown (by assumption) (by first | omega | (simp; done) | (simp; omega)) (by first | omega | (simp; done) | (simp; omega)) ?_))⟩
                      case measure => simp [intOf]; omega
                    · have B15 := Lib.hid (bel_step0 hB B14.out)
                      clear hB B14 S14 HD14 HRW
                      go_wp2_with fail
                      refine (C_DrawUnexplained _ n _ (HS.out.below B15.out)).mono ?_; rintro e w16 ⟨u4, m4, R4, t4, q4, f4, rfl, hd, ht, ⟨hq12, hf⟩, hb⟩
                      have C1 := fun W (hW : LKs W u4 m4 R4) (kW : TI W t4 q4 f4) => C_UnexplainedI u4 t4 m4 R4 q4 f4 W hW hd.s63 kW (fun j hj => by have := hf j hj; omega)
                      have C2 := fun W (hW : LKs W u4 m4 R4) (kW : TI W t4 q4 f4) => C_UnexplainedS u4 t4 m4 R4 q4 f4 W hW hd.s63 kW (fun j hj => by have := hf j hj; omega)
                      obtain ⟨ok4, hok4⟩ : ∃ z0, ueOk m4 R4 q4 f4 = z0 := ⟨_, rfl⟩
                      obtain ⟨UL, hUL⟩ : ∃ z0, ueL m4 R4 q4 f4 = z0 := ⟨_, rfl⟩
                      rw [hok4, hUL] at C1 C2
                      have C1 := Lib.hid C1
                      have C2 := Lib.hid C2
                      have HD16 := Lib.hid (And.intro hd.1 ht)
                      have B16 := Lib.hid (bel_step0 hb B15.out)
                      clear hd ht hf hb hok4 hUL B15
                      go_wp2_with fail
                      refine (C1.out _ HD16.out.1 HD16.out.2).mono ?_; rintro e w17 ⟨v17, rfl, O17, hb⟩
                      have HD17 := Lib.hid (And.intro (HD16.out.1.below hb) (HD16.out.2.below hb))
                      have B17 := Lib.hid (bel_step0 hb B16.out)
                      have S17 := Lib.hid O17.wi.si
                      clear hb O17 HD16 B16 C1
                      go_wp2_with fail
                      refine (C2.out _ HD17.out.1 HD17.out.2).mono ?_; rintro e w18 ⟨v18, rfl, O18, hb⟩
                      have B18 := Lib.hid (bel_step0 hb B17.out)
                      have S18 := Lib.hid (And.intro (S17.out.below hb) O18.wi.si)
                      have hb1 : (ok4 == ok4) = true := by simp
                      clear hb O18 HD17 B17 S17 C2
                      go_wp2_with fail
                      refine (C_rInts _ _ _ _ _ S18.out.1 S18.out.2).mono ?_; rintro e w19 ⟨rfl, hb⟩
                      have B19 := Lib.hid (bel_step0 hb B18.out)
                      clear hb B18 S18
                      go_wp2_with fail
                      go_ret
                      exact ⟨rfl, B19.out⟩
set_option maxRecDepth 100000 in
theorem contract (H : Type) (enc : TypeId × Value → H) (W : World) (base : Nat) (args : Array Value) (ds gs : List (DataW H)) (before : List MemPlace)
    (hval0 : ∀ (j : Nat) t v, Tryz.f4.params[j]? = some t → args[j]? = some v → Value.okWide Tryz.prog W .any base t v)
    (hW : DataW.Whole enc Tryz.prog Tryz.f4.params.toList Rows.fnAccountsSpec.vars false W args.toList ds gs before) (hL : laidMetH Tryz.prog Rows.fnAccountsRow.laid W) :
    Calls Tryz.prog 4 args W fun e W' => ∃ v, e = .returned v ∧ Rows.fnAccountsSpec.post enc Tryz.prog Tryz.f4 false true false false W args v W' := by
  have hval : ∀ (j : Nat) t v, Tryz.f4.params[j]? = some t → args[j]? = some v → Value.okWide Tryz.prog W .any base t v := hval0
  have hW' := hW
  obtain ⟨p, q, hA0, hV, rfl, hfz, hnd⟩ := hW
  have hA : DataW.TrodAll enc Tryz.prog W 0 (fun _ => true) true Tryz.f4.params.toList args.toList ds p := hA0
  rw [Tryz.params4] at hA hval
  obtain ⟨v0, vs0, d0, ds0, p0, q0, hargs, rfl, rfl, h0, r0⟩ := trodAll_cons hA
  obtain ⟨rfl, rfl, rfl⟩ := trodAll_nil r0
  obtain rfl : args = #[v0] := by cases args; simp_all
  obtain ⟨rfl, rfl⟩ := trodVars_none hV
  have k0 := h0
  have lt0 : ∀ x ∈ p0, x.block < W.heap.size := by obtain ⟨m, hm⟩ := k0; exact DataW.trod_lt m _ _ _ hm
  obtain ⟨n0, b0⟩ := view_Suint8 (hval 0 22 v0 rfl rfl) h0
  clear hA0 hval0
  refine (walk v0 n0 W b0).mono fun e W' ⟨he, bel⟩ => ?_
  subst he
  exact ⟨_, rfl, _, _, _, [], _, [], hW', trodAll_mk1 (shut_bool Tryz.underlying4 _), (trodAll_cons_mk (Below.trod laidOut (by kernel_rfl) (of_decide_eq_true (by kernel_rfl)) k0 bel lt0) trodAll_mk0), rfl, bel.frame _, fun h => by cases h⟩
theorem reads (os : Os) {H : Type} (enc : TypeId × Value → H) : ∃ places, DataW.whole enc Tryz.prog ((doorW os).forCall (fun _ _ => 0) ⟨#[], #[.slice none 0 0], []⟩).memory Tryz.f4.params.toList Rows.fnAccountsSpec.vars false #[.slice none 0 0].toList 8 = some ([.nil], [], places) :=
  ⟨[], by kernel_rfl⟩
set_option maxRecDepth 100000 in
theorem door_metL (os : Os) (args : Array Value) : laidMet Tryz.prog Rows.fnAccountsRow.laid ((doorW os).forCall (fun _ _ => 0) ⟨#[], args, []⟩).memory :=
  laidMet_of_run3 8 (by kernel_rfl) (by kernel_rfl) (by kernel_rfl)
set_option maxRecDepth 100000 in
theorem lifted (os : Os) (started : os.Started) (H : Type) (enc : TypeId × Value → H) (F : Stop.Interp) :
    ReturnsInHanded {} Tryz.checked os 4 .any ((OpenSpec.ofChange Rows.fnAccountsSpec).preRow enc Tryz.prog Tryz.f4 Rows.fnAccountsRow.domain false Rows.fnAccountsRow.laid) (((OpenSpec.ofChange Rows.fnAccountsSpec).at F).post enc Tryz.prog Tryz.f4 false true false false) := by
  obtain ⟨places, hx⟩ := reads os enc
  refine returnsInHanded_of_row (C := Tryz.checked) (s := OpenSpec.ofChange Rows.fnAccountsSpec) own started (by kernel_rfl) Tryz.func4
    (witness_row_at (enc := enc) (C := Tryz.checked) false (doorW os) #[.slice none 0 0] rfl (door_shape os _) (door_rest os _) (by kernel_rfl)
      (OpenSpec.preRow_of_cond 8 hx (by kernel_rfl) (fun k hk => by cases hk) (by kernel_rfl) (door_metL os _))) ?_
  intro W base args ds gs before hval hW _ _ _ hL _ _
  exact contract H enc W base args ds gs before hval hW hL
theorem said : Rows.FnAccountsSaid :=
  OpenClaim.holds_of_cond 4 Tryz.f4 rfl rfl rfl rfl rfl rfl rfl ⟨rfl, rfl, rfl, rfl, rfl⟩ rfl rfl rfl rfl rfl (by kernel_rfl) Tryz.func4 (by kernel_rfl)
    (of_decide_eq_true (by kernel_rfl)) (by unfold Func.isWrapper; first | (rw [if_pos (by decide +kernel)]; kernel_rfl) | (rw [if_neg (by decide +kernel)]; exact ⟨rfl, rfl⟩))
    (fun os started H enc _ F => by rw [OpenClaim.pre_eq_preRow]; exact lifted os started H enc F)
theorem plain (f : FuncId) (fn : Func) (hf : Tryz.pinned.checked.prog.funcNamed Rows.fnAccountsRow.func = some f) (hfn : Tryz.pinned.checked.prog.funcs[f]? = some fn) :
    false = Tryz.pinned.checked.prog.looks [] ∧ ∀ (j : Nat) t, fn.params[j]? = some t → Tryz.pinned.checked.prog.wantsStandIn t = false := by
  obtain rfl : f = 4 := Option.some.inj ((show Tryz.prog.funcNamed Rows.fnAccountsRow.func = some 4 by kernel_rfl).symm.trans hf) |>.symm
  obtain rfl : fn = Tryz.f4 := (Option.some.inj (Tryz.func4.symm.trans hfn)).symm
  refine ⟨by kernel_rfl, fun j t ht => ?_⟩
  rw [Tryz.params4] at ht
  obtain rfl : t = 22 := by simpa using Array.mem_of_getElem? ht
  exact (show Tryz.prog.wantsStandIn 22 = false by kernel_rfl)
theorem proved : Rows.FnAccountsCardSaid :=
  Claim7.holds_tied_plain_at .later [] _ _ _ _ said (fun _ h => by cases h) (by kernel_rfl) (fun _ h => by cases h) fnAccounts_row_tie rfl ⟨rfl, rfl⟩ (by kernel_rfl) rfl plain (by kernel_rfl)
#print axioms proved
end Go.Proofs.YtmhelhjjadoiaaaGreatDoor.lawFnAccounts
