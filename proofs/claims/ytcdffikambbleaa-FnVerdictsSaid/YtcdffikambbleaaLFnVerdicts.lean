/- The law FnVerdicts returns true, whatever its argument, and leaves it as it was. No condition. -/
import Derived.Test.YtcdffikambbleaaRvDD
import Derived.Test.YtcdffikambbleaaRvDE
import Derived.Deep.CutBlock
namespace Go.Proofs.Ytcdffikambbleaa.lawFnVerdicts
open Go.ChangeShapes Go.WideShapes Go.ChangeAt Go.RowKit Go.Deep Go.Joins
open Go.ChangeMaps (open_string shut_string)
set_option linter.unusedVariables false
set_option linter.unusedSimpArgs false
open Go.Sort
theorem ne_self_b (b : Bool) : (b != b) = false := by cases b <;> rfl
set_option maxRecDepth 100000 in
set_option maxHeartbeats 8000000 in
theorem walk (v : Value) (n : Nat) (w : World) (h : SU w v n) :
    Calls Try.prog 12 #[v] w fun e w' => e = .returned (.bool true) ∧ Below w.heap.size w w' := by
  obtain ⟨A, cap, rfl⟩ := h.form
  have HS := Lib.hid h
  clear h
  by_cases hbig : 65536 < n
  · have hbig2 : decide (65536 < (n : Int)) = true := by simp; omega
    go_enter Try.func12, Try.ntmps12
    go_wp2_with fail
    refine (C_rBig _ n _ HS.out).mono ?_; rintro e w1 ⟨rfl, rfl⟩
    rw [hbig2]
    go_wp2_with fail
    go_ret
    exact ⟨rfl, Below.refl _ _⟩
  have hbig2 : decide (65536 < (n : Int)) = false := by simp; omega
  go_enter Try.func12, Try.ntmps12
  go_wp2_with fail
  refine (C_rBig _ n _ HS.out).mono ?_; rintro e w1 ⟨rfl, rfl⟩
  rw [hbig2]
  clear hbig hbig2
  go_wp2_with fail
  refine (C_DrawVotesMissing _ n _ HS.out).mono ?_; rintro e w1 ⟨u, m, T, rfl, hm, hu, B⟩
  obtain ⟨R, hR⟩ : ∃ R, R = fun j => (T j).rv := ⟨_, rfl⟩
  rw [← hR] at hu
  clear hR
  obtain ⟨mi, hmi⟩ : ∃ mi, votesMissing m R = mi := ⟨_, rfl⟩
  obtain ⟨ok, hok⟩ : ∃ ok, okRs m R = ok := ⟨_, rfl⟩
  obtain ⟨UA, uc, rfl⟩ : ∃ A c, u = .slice A m c := by obtain ⟨A, c, e, _⟩ := hu; exact ⟨A, c, e⟩
  have HM := Lib.hid hmi
  have HO := Lib.hid hok
  have C1 := Lib.hid (fun W hW => C_VotesMissingI (.slice UA m uc) m R W hW)
  have C2 := Lib.hid (fun W hW => C_VotesMissingS (.slice UA m uc) m R W hW)
  have C3 := Lib.hid (fun x W hW => C_DecidedI (.slice UA m uc) m R x W hW)
  rw [hmi, hok] at C1 C2
  have HU := Lib.hid hu
  have hbd := missing_bd m R
  rw [hmi] at hbd
  have hnb := none_bounds m R
  rw [hmi] at hnb
  have HNB := Lib.hid hnb
  clear hmi hok hu hnb
  go_wp2_with fail
  refine (C1.out _ HU.out).mono ?_; rintro e w2 ⟨rfl, hb⟩
  replace B := bel_step0 hb B
  have HU2 := Lib.hid (HU.out.below hb)
  clear hb
  go_wp2_with fail
  refine (C2.out _ HU2.out).mono ?_; rintro e w3 ⟨rfl, hb⟩
  replace B := bel_step0 hb B
  have HU3 := Lib.hid (HU2.out.below hb)
  have hbb := ne_self_b ok
  clear hb C1 C2 HU HU2
  go_upto_region 6 with fail
  go_cut [52] (fun s52 wx => s52 = .bool false ∧ w3 = wx)
  case first =>
    as_aux_lemma =>
      go_wp2_with fail
      go_meet
      exact ⟨rfl, rfl⟩
  case rest =>
    as_aux_lemma =>
      rename World => wx
      obtain ⟨rfl, rfl⟩ := hcut
      clear hbb
      go_wp2
      go_loopw [8, 9] (fun q i wr => ∃ k : Nat, k ≤ 4 ∧ i = .int .i64 k ∧ q = .int .i64 (cntV m R k : Nat) ∧ Below w3.heap.size w3 wr) (fun _ i _ => 4 - (intOf i).toNat)
      case atStart => exact ⟨0, by omega, rfl, rfl, Below.refl _ _⟩
      case round =>
        obtain ⟨k, hk, rfl, rfl, hB⟩ := hrel
        have hcl := cntV_le m R k
        by_cases hlt : k < 4
        · have hlt2 : (k : Int) ≤ 3 := by omega
          obtain ⟨c, hc⟩ : ∃ c, cntV m R k = c := ⟨_, rfl⟩
          have hcs : cntV m R (k + 1) = cntV m R k + (decided m R k).length := rfl
          have hdl := decided_le m R k
          obtain ⟨xs, hxs⟩ : ∃ xs, decided m R k = xs := ⟨_, rfl⟩
          have hok : okD m R k = ok := (okD_in hlt).trans HO.out
          rw [hc, hxs] at hcs
          rw [hc] at hcl
          rw [hxs] at hdl
          rw [hc]
          have hb0 : ∀ b, ((k : Int) == 0) = b → b = true → ¬ mi < (xs.length : Int) ∧ ¬ 3 * (xs.length : Int) < mi := by
            intro b e e2
            subst e2
            have hk0 : k = 0 := by simp at e; omega
            subst hk0
            have h1 := HNB.out
            have hx2 : decided m R 0 = xs := hxs
            rw [hx2] at h1
            omega
          have HB0 := Lib.hid hb0
          have HCS := Lib.hid hcs
          have HB := Lib.hid hB
          have C4 := Lib.hid (C3.out k wr (HU3.out.below hB))
          rw [hok, hxs] at C4
          clear hb0 hcs hxs hok hc hB
          go_wp2_with fail
          refine C4.out.mono ?_; rintro e w4 ⟨v4, rfl, ho4, hb4⟩
          obtain ⟨VA, vc, rfl⟩ : ∃ A c, v4 = .slice A xs.length c := by obtain ⟨A, c, e, _⟩ := ho4.wi.si; exact ⟨A, c, e⟩
          have HB4 := Lib.hid (bel_step0 hb4 HB.out)
          have hbb := ne_self_b ok
          clear ho4 hb4 C4
          cases hkb : ((k : Int) == 0)
          · clear HB0
            go_wp2_with fail
            go_roundw
            case rel => exact ⟨k + 1, by omega, by go_num, by rw [HCS.out]; go_num, HB4.out⟩
            case measure => simp [intOf]; omega
          · obtain ⟨f1, f2⟩ := HB0.out _ hkb rfl
            clear HB0
            go_wp2_with fail
            go_roundw
            case rel => exact ⟨k + 1, by omega, by go_num, by rw [HCS.out]; go_num, HB4.out⟩
            case measure => simp [intOf]; omega
        · obtain rfl : k = 4 := by omega
          have B4 := Lib.hid (bel_step0 hB B)
          obtain ⟨c, hc⟩ : ∃ c, cntV m R 4 = c := ⟨_, rfl⟩
          have h18 : ok = true → ((c : Int) != (m : Int)) = false := fun e => by
            have := cntV_all (m := m) (R := R) (HO.out.trans e)
            rw [hc] at this
            subst this
            simp
          rw [hc]
          have H18 := Lib.hid h18
          clear h18 hc hB B hcl hlt HU3 C3 HM HO HNB hbd
          go_upto_region 18 with fail
          go_cut [91] (fun s91 wx => s91 = .bool false ∧ wr = wx)
          case first =>
            as_aux_lemma =>
              cases ok
              · go_wp2_with fail
                go_meet
                exact ⟨rfl, rfl⟩
              · have h18 := H18.out rfl
                go_wp2_with fail
                go_meet
                exact ⟨rfl, rfl⟩
          case rest =>
            as_aux_lemma =>
              rename World => wx
              obtain ⟨rfl, rfl⟩ := hcut
              clear H18
              go_wp2_with fail
              refine (C_DrawPutOff _ n _ (HS.out.below B4.out)).mono ?_; rintro e w5 ⟨u5, m5, T5, d, rfl, hm5, hd, hu5, hb⟩
              have B5 := Lib.hid (bel_step0 hb B4.out)
              obtain ⟨R5, hR5⟩ : ∃ R5, R5 = fun j => (T5 j).rv := ⟨_, rfl⟩
              rw [← hR5] at hu5
              obtain ⟨fine, hfine⟩ : ∃ b, putOk m5 R5 d = b := ⟨_, rfl⟩
              obtain ⟨VB, vb, rfl⟩ : ∃ A c, u5 = .slice A m5 c := by obtain ⟨A, c, e, _⟩ := hu5; exact ⟨A, c, e⟩
              have HN := Lib.hid (fun (e : fine = true) => putoff_none (hfine.trans e))
              have C5 := Lib.hid (fun W hW => C_PutOffI (.slice VB m5 vb) m5 R5 d W hW)
              have C6 := Lib.hid (fun W hW => C_PutOffS (.slice VB m5 vb) m5 R5 d W hW)
              obtain ⟨N5, hN5⟩ : ∃ k, (if fine then m5 else 0) = k := ⟨_, rfl⟩
              obtain ⟨Q5, hQ5⟩ : ∃ q, (fun j => (putR R5 d j).rv) = q := ⟨_, rfl⟩
              obtain ⟨P5, hP5⟩ : ∃ q, putR R5 d = q := ⟨_, rfl⟩
              have hPQ : (fun j => (P5 j).rv) = Q5 := by rw [← hP5]; exact hQ5
              rw [hfine, hN5, hP5] at C5 C6
              have HNQ := Lib.hid (And.intro hN5 (And.intro hQ5 hPQ))
              have HU5 := Lib.hid hu5
              clear hb hR5 hfine hN5 hQ5 hP5 hPQ hu5 B4
              go_wp2_with fail
              refine (C5.out _ HU5.out).mono ?_; rintro e w6 ⟨v6, rfl, ho6, hb⟩
              have B6 := Lib.hid (bel_step0 hb B5.out)
              have HU6 := Lib.hid (HU5.out.below hb)
              have hq6 := ho6.rrs
              obtain ⟨VC, vc, rfl⟩ : ∃ A c, v6 = .slice A N5 c := by obtain ⟨A, c, e, _⟩ := hq6; exact ⟨A, c, e⟩
              rw [HNQ.out.2.2] at hq6
              have HQ6 := Lib.hid hq6
              clear hb ho6 hq6 B5 HU5
              go_wp2_with fail
              refine (C6.out _ HU6.out).mono ?_; rintro e w7 ⟨v7, rfl, ho7, hb⟩
              have B7 := Lib.hid (bel_step0 hb B6.out)
              have HQ7 := Lib.hid (HQ6.out.below hb)
              have hq7 := ho7.rrs
              obtain ⟨VD, vd, rfl⟩ : ∃ A c, v7 = .slice A N5 c := by obtain ⟨A, c, e, _⟩ := hq7; exact ⟨A, c, e⟩
              rw [HNQ.out.2.2] at hq7
              have HQ8 := Lib.hid hq7
              have hbb := ne_self_b fine
              clear hb ho7 hq7 B6 HU6 HQ6 C5 C6
              go_wp2_with fail
              refine (C_rReviews _ _ _ _ _ HQ7.out HQ8.out).mono ?_; rintro e w8 ⟨rfl, hb⟩
              have B8 := Lib.hid (bel_step0 hb B7.out)
              have HQ9 := Lib.hid (HQ7.out.below hb)
              clear hb HQ7 HQ8 B7 hbb
              go_upto_if 118 with fail
              go_cut [18, 19] (fun s18 s19 wx => Below w8.heap.size w8 wx)
              case first =>
                as_aux_lemma =>
                  cases fine
                  · go_wp2_with fail
                    go_meet
                    exact Below.refl _ _
                  · obtain ⟨f1, f2⟩ := HN.out rfl
                    obtain ⟨e1, e2, e3⟩ := HNQ.out
                    rw [if_pos rfl] at e1
                    subst e1
                    rw [e2] at f1 f2
                    have C7 := C_DecidedI (.slice VC m5 vc) m5 Q5 3 w8 HQ9.out
                    rw [f1, f2] at C7
                    have C7 := Lib.hid C7
                    clear f1 f2 e2 e3 HNQ HN
                    go_wp2_with fail
                    refine C7.out.mono ?_; rintro e w9 ⟨v9, rfl, ho9, hb⟩
                    obtain ⟨VE, ve, rfl⟩ : ∃ A c, v9 = .slice A 0 c := by obtain ⟨A, c, e, _⟩ := ho9.wi.si; exact ⟨A, c, e⟩
                    have HB := Lib.hid hb
                    clear hb ho9 C7
                    go_wp2_with fail
                    go_meet
                    exact HB.out
              case rest =>
                as_aux_lemma =>
                  rename World => wx
                  have B9 := Lib.hid (bel_step0 hcut B8.out)
                  clear hcut B8 HQ9 HN HNQ
                  go_wp2_with fail
                  refine (C_DrawDecided _ n _ (HS.out.below B9.out)).mono ?_; rintro e w10 ⟨u10, m10, T10, d10, rfl, hm10, hd10, hu10, hb⟩
                  have B10 := Lib.hid (bel_step0 hb B9.out)
                  obtain ⟨R10, hR10⟩ : ∃ R10, R10 = fun j => (T10 j).rv := ⟨_, rfl⟩
                  rw [← hR10] at hu10
                  obtain ⟨VF, vf, rfl⟩ : ∃ A c, u10 = .slice A m10 c := by obtain ⟨A, c, e, _⟩ := hu10; exact ⟨A, c, e⟩
                  obtain ⟨told, htold⟩ : ∃ b, okD m10 R10 d10 = b := ⟨_, rfl⟩
                  obtain ⟨xs, hxs⟩ : ∃ b, decided m10 R10 d10 = b := ⟨_, rfl⟩
                  have C8 := Lib.hid (fun W hW => C_DecidedI (.slice VF m10 vf) m10 R10 d10 W hW)
                  have C9 := Lib.hid (fun W hW => C_DecidedS (.slice VF m10 vf) m10 R10 d10 W hW)
                  rw [htold, hxs] at C8 C9
                  have HU10 := Lib.hid hu10
                  clear hb hR10 htold hxs hu10 B9
                  go_wp2_with fail
                  refine (C8.out _ HU10.out).mono ?_; rintro e w11 ⟨v11, rfl, ho11, hb⟩
                  have B11 := Lib.hid (bel_step0 hb B10.out)
                  have HU11 := Lib.hid (HU10.out.below hb)
                  obtain ⟨VG, vg, rfl⟩ : ∃ A c, v11 = .slice A xs.length c := by obtain ⟨A, c, e, _⟩ := ho11.wi.si; exact ⟨A, c, e⟩
                  have HX11 := Lib.hid ho11.wi.si
                  clear hb ho11 B10 HU10
                  go_wp2_with fail
                  refine (C9.out _ HU11.out).mono ?_; rintro e w12 ⟨v12, rfl, ho12, hb⟩
                  have B12 := Lib.hid (bel_step0 hb B11.out)
                  obtain ⟨VH, vh, rfl⟩ : ∃ A c, v12 = .slice A xs.length c := by obtain ⟨A, c, e, _⟩ := ho12.wi.si; exact ⟨A, c, e⟩
                  have HX12 := Lib.hid ho12.wi.si
                  have HX13 := Lib.hid (HX11.out.below hb)
                  have hbb := ne_self_b told
                  clear hb ho12 B11 HU11 HX11 C8 C9
                  go_wp2_with fail
                  refine (C_rInts _ _ _ _ _ HX13.out HX12.out).mono ?_; rintro e w13 ⟨rfl, hb⟩
                  have B13 := Lib.hid (bel_step0 hb B12.out)
                  clear hb HX13 HX12 B12 hbb
                  go_wp2_with fail
                  refine (C_DrawVerdictOf _ n _ (HS.out.below B13.out)).mono ?_; rintro e w14 ⟨x, u14, rfl, ho14, hxl, hb⟩
                  have B14 := Lib.hid (bel_step0 hb B13.out)
                  obtain ⟨VI, vi, rfl⟩ := ho14.form
                  have HX14 := Lib.hid ho14.wi.si
                  obtain ⟨rid, due, vs⟩ := x
                  simp only at hxl
                  obtain ⟨vv, hvv⟩ : ∃ b, verdictOf ⟨rid, due, vs.length, ai vs⟩ = b := ⟨_, rfl⟩
                  obtain ⟨known, hkn⟩ : ∃ b, Rv.ok ⟨rid, due, vs.length, ai vs⟩ = b := ⟨_, rfl⟩
                  have C10 := Lib.hid (fun W (hW : SI W (.slice VI vs.length vi) vs.length (ai vs)) => C_VerdictOfI (.agg #[.int .i64 rid, .int .i64 due, .slice VI vs.length vi]) ⟨rid, due, vs.length, ai vs⟩ W ⟨_, rfl, hW⟩)
                  have C11 := Lib.hid (fun W (hW : SI W (.slice VI vs.length vi) vs.length (ai vs)) => C_VerdictOfS (.agg #[.int .i64 rid, .int .i64 due, .slice VI vs.length vi]) ⟨rid, due, vs.length, ai vs⟩ W ⟨_, rfl, hW⟩)
                  rw [hvv, hkn] at C10 C11
                  clear hvv hkn hb ho14 B13
                  obtain ⟨w15, hw15⟩ : ∃ w15, w15 = w14.alloc (.cells #[.int .i64 rid, .int .i64 due, .slice VI vs.length vi] 27) := ⟨_, rfl⟩
                  obtain ⟨g, hg⟩ : ∃ g, g = w14.heap.size := ⟨_, rfl⟩
                  have r15 : w15.rowIs g 27 3 (c3v rid due (.slice VI vs.length vi)) := by rw [hw15, hg]; exact row3_alloc w14 _ _ _ _
                  have R15 := Lib.hid r15
                  have X15 := Lib.hid (show SI w15 (.slice VI vs.length vi) vs.length (ai vs) by rw [hw15]; exact HX14.out.alloc _)
                  have B15 := Lib.hid (show Below w.heap.size w w15 by rw [hw15]; exact bel_alloc0 B14.out _)
                  have HW15 := Lib.hid hw15.symm
                  have HG := Lib.hid hg.symm
                  clear hw15 hg r15 B14 HX14
                  go_upto_region 35 with fail
                  rw [HW15.out, HG.out]
                  clear HW15 HG
                  have x0 := R15.out.cell (i := 0) (by omega)
                  have x1 := R15.out.cell (i := 1) (by omega)
                  have x2 := R15.out.cell (i := 2) (by omega)
                  go_wp2_with fail
                  refine (C10.out _ X15.out).mono ?_; rintro e w16 ⟨rfl, hb⟩
                  have B16 := Lib.hid (bel_step0 hb B15.out)
                  have R16 := Lib.hid (R15.out.of_block (hb.block _ R15.out.lt))
                  have X16 := Lib.hid (X15.out.below hb)
                  clear hb x0 x1 x2 R15 X15 B15
                  have x0 := R16.out.cell (i := 0) (by omega)
                  have x1 := R16.out.cell (i := 1) (by omega)
                  have x2 := R16.out.cell (i := 2) (by omega)
                  go_wp2_with fail
                  refine (C11.out _ X16.out).mono ?_; rintro e w17 ⟨rfl, hb⟩
                  have B17 := Lib.hid (bel_step0 hb B16.out)
                  have hbb : (known == known) = true := by simp
                  clear hb x0 x1 x2 R16 X16 B16 C10 C11
                  go_wp2_with fail
                  go_ret
                  exact ⟨rfl, B17.out⟩
set_option maxRecDepth 100000 in
theorem lifted (os : Os) (started : os.Started) (H : Type) (enc : TypeId × Value → H) :
    ReturnsInHanded {} Try.checked os 12 .any (Rows.fnVerdictsSpec.pre6 enc Try.prog Try.f12 Rows.fnVerdictsRow.domain false) (Rows.fnVerdictsSpec.post enc Try.prog Try.f12 false true false false) := by
  refine returnsInHanded_of_change (C := Try.checked) own started (by kernel_rfl) Try.func12
    (ChangeSpec.witness6 (enc := enc) (C := Try.checked) false ⟨#[], #[.slice none 0 0], []⟩ 8 (by kernel_rfl) (by kernel_rfl) (by kernel_rfl) (by kernel_rfl)) ?_
  intro W base args ds gs before hval0 hW hcnd _
  have hval : ∀ (j : Nat) t v, Try.f12.params[j]? = some t → args[j]? = some v → Value.okWide Try.prog W .any base t v := hval0
  have hW' := hW
  obtain ⟨p, q, hA0, hV, rfl, hfz, hnd⟩ := hW
  have hA : DataW.TrodAll enc Try.prog W 0 (fun _ => true) true Try.f12.params.toList args.toList ds p := hA0
  rw [Try.params12] at hA hval
  obtain ⟨v0, vs0, d0, ds0, p0, q0, hargs, rfl, rfl, h0, r0⟩ := trodAll_cons hA
  obtain ⟨rfl, rfl, rfl⟩ := trodAll_nil r0
  obtain rfl : args = #[v0] := by cases args; simp_all
  obtain ⟨rfl, rfl⟩ := trodVars_none hV
  have k0 := h0
  have lt0 : ∀ x ∈ p0, x.block < W.heap.size := by obtain ⟨m, hm⟩ := k0; exact DataW.trod_lt m _ _ _ hm
  obtain ⟨n0, b0⟩ := view_Suint8 (hval 0 64 v0 rfl rfl) h0
  clear hA0 hval0
  refine (walk v0 n0 W b0).mono fun e W' ⟨he, bel⟩ => ?_
  subst he
  exact ⟨_, rfl, _, _, _, [], _, [], hW', trodAll_mk1 (shut_bool Try.underlying4 _), (trodAll_cons_mk (Below.trod laidOut (by kernel_rfl) (of_decide_eq_true (by kernel_rfl)) k0 bel lt0) trodAll_mk0), rfl, bel.frame _, fun h => by cases h⟩

theorem proved : Rows.FnVerdictsSaid :=
  OpenClaim.holds_of_wide 12 Try.f12 rfl rfl rfl rfl rfl rfl rfl ⟨rfl, rfl, rfl, rfl, rfl⟩ rfl rfl rfl rfl rfl (by kernel_rfl) Try.func12 (by kernel_rfl)
    (of_decide_eq_true (by kernel_rfl)) (by unfold Func.isWrapper; first | (rw [if_pos (by decide +kernel)]; kernel_rfl) | (rw [if_neg (by decide +kernel)]; exact ⟨rfl, rfl⟩))
    (fun os started H enc _ => lifted os started H enc)
#print axioms proved
end Go.Proofs.Ytcdffikambbleaa.lawFnVerdicts
