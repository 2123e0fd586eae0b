/- The law FnReviews returns true, whatever its argument, and leaves it as it was. No condition. -/
import Derived.Test.YtcdffikambbleaaPackB
import Derived.Test.YtcdffikambbleaaRevN
import Derived.Test.YtcdffikambbleaaRevX
import Derived.Test.YtcdffikambbleaaRevU
import Derived.Deep.CutBlock
namespace Go.Proofs.Ytcdffikambbleaa.lawFnReviews
open Go.ChangeShapes Go.WideShapes Go.ChangeAt Go.RowKit Go.Deep Go.Joins
open Go.ChangeMaps (open_string shut_string)
set_option linter.unusedVariables false
set_option linter.unusedSimpArgs false
open Go.Sort
theorem ne_self_b (b : Bool) : (b != b) = false := by cases b <;> rfl
set_option maxRecDepth 100000 in
set_option maxHeartbeats 16000000 in
theorem walk (v : Value) (n : Nat) (w : World) (h : SU w v n) :
    Calls Try.prog 15 #[v] w fun e w' => e = .returned (.bool true) ∧ Below w.heap.size w w' := by
  obtain ⟨A, cap, rfl⟩ := h.form
  have HS := Lib.hid h
  clear h
  by_cases hbig : 65536 < n
  · have hbig2 : decide (65536 < (n : Int)) = true := by simp; omega
    go_enter Try.func15, Try.ntmps15
    go_wp2_with fail
    refine (C_rBig _ n _ HS.out).mono ?_; rintro e w1 ⟨rfl, rfl⟩
    rw [hbig2]
    go_wp2_with fail
    go_ret
    exact ⟨rfl, Below.refl _ _⟩
  have hbig2 : decide (65536 < (n : Int)) = false := by simp; omega
  go_enter Try.func15, Try.ntmps15
  go_wp2_with fail
  refine (C_rBig _ n _ HS.out).mono ?_; rintro e w1 ⟨rfl, rfl⟩
  rw [hbig2]
  clear hbig hbig2
  go_wp2_with fail
  refine (C_DrawCastVote _ n _ HS.out).mono ?_; rintro e w1 ⟨u, m, T, r, x, rfl, hm, hu, B⟩
  obtain ⟨R, hR⟩ : ∃ R, R = fun j => (T j).rv := ⟨_, rfl⟩
  rw [← hR] at hu
  clear hR
  obtain ⟨UA, uc, rfl⟩ : ∃ A c, u = .slice A m c := by obtain ⟨A, c, e, _⟩ := hu; exact ⟨A, c, e⟩
  obtain ⟨ok, hok⟩ : ∃ ok, castOk m R r x = ok := ⟨_, rfl⟩
  obtain ⟨P, hP⟩ : ∃ P, castR R r x = P := ⟨_, rfl⟩
  obtain ⟨N, hN⟩ : ∃ N, (if ok then m else 0) = N := ⟨_, rfl⟩
  have C1 := Lib.hid (fun W hW => C_CastVoteI (.slice UA m uc) m R r x W hW)
  have C2 := Lib.hid (fun W hW => C_CastVoteS (.slice UA m uc) m R r x W hW)
  rw [hok, hP, hN] at C1 C2
  have HF := Lib.hid (fun (i : Nat) (hi : i < N) (he : (P i).rid = r) => cast_fact (n := m) (i := i) (R := R) (r := r) (x := x) (by
    cases hk : castOk m R r x
    · rw [hk] at hok; subst hok; simp at hN; omega
    · rfl) (by cases ok <;> simp at hN <;> omega) (by rw [hP]; exact he))
  rw [hP] at HF
  have HNm := Lib.hid (show N ≤ m by cases ok <;> simp at hN <;> omega)
  have HU := Lib.hid hu
  have hNm := HNm.out
  clear hok hP hN hu
  go_wp2_with fail
  refine (C1.out _ HU.out).mono ?_; rintro e w2 ⟨v2, rfl, ho2, hb⟩
  have B2 := Lib.hid (bel_step0 hb B)
  have HU2 := Lib.hid (HU.out.below hb)
  have hq2 := ho2.rrs
  obtain ⟨VA, va, rfl⟩ : ∃ A c, v2 = .slice A N c := by obtain ⟨A, c, e, _⟩ := hq2; exact ⟨A, c, e⟩
  have HQ2 := Lib.hid hq2
  clear hb ho2 hq2 HU B
  go_wp2_with fail
  refine (C2.out _ HU2.out).mono ?_; rintro e w3 ⟨v3, rfl, ho3, hb⟩
  have B3 := Lib.hid (bel_step0 hb B2.out)
  have HU3 := Lib.hid (HU2.out.below hb)
  have HQ3 := Lib.hid (HQ2.out.below hb)
  have hq3 := ho3.rrs
  obtain ⟨VB, vb, rfl⟩ : ∃ A c, v3 = .slice A N c := by obtain ⟨A, c, e, _⟩ := hq3; exact ⟨A, c, e⟩
  have HQ4 := Lib.hid hq3
  have hbb := ne_self_b ok
  clear hb ho3 hq3 HU2 HQ2 B2 C1 C2
  go_wp2_with fail
  refine (C_rReviews _ _ _ _ _ HQ3.out HQ4.out).mono ?_; rintro e w4 ⟨rfl, hb⟩
  have B4 := Lib.hid (bel_step0 hb B3.out)
  have HU4 := Lib.hid (HU3.out.below hb)
  have HQ5 := Lib.hid (HQ3.out.below hb)
  clear hb HU3 HQ3 HQ4 B3 hbb
  go_wp2
  go_loopw [10] (fun i wr => ∃ k : Nat, k ≤ N ∧ i = .int .i64 k ∧ Below w4.heap.size w4 wr) (fun i _ => N - (intOf i).toNat)
  case atStart => exact ⟨0, Nat.zero_le _, rfl, Below.refl _ _⟩
  case round =>
    obtain ⟨k, hk, rfl, hB⟩ := hrel
    have hzs := hB.size
    by_cases hlt : k < N
    · have hkN : (k : Int) < (N : Int) := by omega
      have hkm : (k : Int) < (m : Int) := by omega
      have hk0 : (0 : Int) ≤ (k : Int) := by omega
      obtain ⟨_, _, e0, hr0, _, _⟩ := HQ5.out.below hB
      injection e0 with e1 _ e3
      subst e1 e3
      obtain ⟨b, off, rfl, hb, hcell⟩ := hr0 (by omega)
      obtain ⟨Y, hY⟩ : ∃ Y, (P k).rv = Y := ⟨_, rfl⟩
      obtain ⟨sv, hsv, hck0, hck1, hck2⟩ := hcell k hlt
      have hY2 : (P k).rid = Y.rid := by rw [← hY]; rfl
      have hF := HF.out k hlt
      simp only [hY] at hsv hck0 hck1 hck2 hF
      rw [hY2] at hF
      obtain ⟨yr, yd, yn, yf⟩ := Y
      simp only at hsv hck0 hck1 hck2 hF
      have hsv0 := hsv; obtain ⟨A1, c1, rfl, hsr1, hsc1, hsm1⟩ := hsv0; clear hsr1
      have HB := Lib.hid hB
      by_cases hrid : yr = r
      · obtain ⟨_, _, e0, hu0, _, _⟩ := HU4.out.below hB
        injection e0 with e1 _ e3
        subst e1 e3
        obtain ⟨b', off', rfl, hb', hcell'⟩ := hu0 (by omega)
        obtain ⟨sz, hsz, hcz0, hcz1, hcz2⟩ := hcell' k (by omega)
        obtain ⟨f1, f2, f3⟩ := hF hrid
        obtain ⟨Z, hZ⟩ : ∃ Z, R k = Z := ⟨_, rfl⟩
        rw [hZ] at f2 f3
        simp only [hZ] at hsz hcz0 hcz1 hcz2
        obtain ⟨zr, zd, zn, zf⟩ := Z
        simp only at hsz hcz0 hcz1 hcz2
        have hsz0 := hsz; obtain ⟨A2, c2, rfl, hsr2, hsc2, hsm2⟩ := hsz0; clear hsr2
        obtain ⟨vv, hvv⟩ : ∃ vv, verdictOf ⟨yr, yd, yn, yf⟩ = vv := ⟨_, rfl⟩
        obtain ⟨cs, hcs⟩ : ∃ cs, cbL ⟨zr, zd, zn, zf⟩ 1 = cs := ⟨_, rfl⟩
        rw [hvv, hcs] at f3
        have C3 := Lib.hid (C_VerdictOfI (.agg #[.int .i64 yr, .int .i64 yd, .slice A1 yn c1]) ⟨yr, yd, yn, yf⟩ wr ⟨_, rfl, hsv⟩)
        have C4 := Lib.hid (fun W (hW : Below wr.heap.size wr W) => C_CouldBecomeI (.agg #[.int .i64 zr, .int .i64 zd, .slice A2 zn c2]) ⟨zr, zd, zn, zf⟩ 1 W ⟨_, rfl, hsz.below hW⟩)
        have C5 := Lib.hid (fun W (hW : Below wr.heap.size wr W) => C_IsReviewI (.agg #[.int .i64 yr, .int .i64 yd, .slice A1 yn c1]) ⟨yr, yd, yn, yf⟩ W ⟨_, rfl, hsv.below hW⟩)
        rw [hvv, f1] at C3
        rw [hcs, f2] at C4
        rw [f1] at C5
        have F3 := Lib.hid f3
        have G0 := Lib.hid (fun W (hW : Below wr.heap.size wr W) => And.intro ((hW.cell (p := ⟨b, off + k * 3, none⟩) hb).trans hck0) (And.intro ((hW.cell (p := ⟨b, off + k * 3 + 1, none⟩) hb).trans hck1) ((hW.cell (p := ⟨b, off + k * 3 + 2, none⟩) hb).trans hck2)))
        have G1 := Lib.hid (fun W (hW : Below wr.heap.size wr W) => And.intro ((hW.cell (p := ⟨b', off' + k * 3, none⟩) hb').trans hcz0) (And.intro ((hW.cell (p := ⟨b', off' + k * 3 + 1, none⟩) hb').trans hcz1) ((hW.cell (p := ⟨b', off' + k * 3 + 2, none⟩) hb').trans hcz2)))
        subst hrid
        clear f1 f2 f3 hF hY hY2 hZ hvv hcs hcell hcell' hsv hsz hcz0 hcz1 hcz2 hB
        go_wp2_with fail
        refine C3.out.mono ?_; rintro e w5 ⟨rfl, hb5⟩
        have B5 := Lib.hid hb5
        clear hck0 hck1 hck2
        obtain ⟨q0, q1, q2⟩ := G1.out _ hb5
        clear hb5
        go_wp2_with fail
        refine (C4.out _ B5.out).mono ?_; rintro e w6 ⟨v6, rfl, ho6, hb6⟩
        have B6 := Lib.hid (bel_step0 hb6 B5.out)
        obtain ⟨VE, ve, rfl⟩ : ∃ A c, v6 = .slice A cs.length c := by obtain ⟨A, c, e, _⟩ := ho6.wi.si; exact ⟨A, c, e⟩
        have X6 := Lib.hid ho6.wi.si
        clear hb6 ho6 q0 q1 q2 C3 C4 G1
        go_wp2_with fail
        refine (C_rHas _ _ _ _ _ X6.out).mono ?_; rintro e w7 ⟨rfl, rfl⟩
        rw [F3.out]
        obtain ⟨q0, q1, q2⟩ := G0.out _ B6.out
        go_wp2_with fail
        refine (C5.out _ B6.out).mono ?_; rintro e w7 ⟨rfl, hb7⟩
        have B7 := Lib.hid (bel_step0 (bel_step0 hb7 B6.out) HB.out)
        clear hb7 q0 q1 q2 C5 X6
        go_wp2_with fail
        go_roundw
        case rel => exact ⟨k + 1, by omega, by go_num, B7.out⟩
        case measure => simp [intOf]; omega
      · clear hF hY hY2 hcell hsv hck1 hck2 hB
        go_wp2
        go_roundw
        case rel => exact ⟨k + 1, by omega, by go_num, HB.out⟩
        case measure => simp [intOf]; omega
    · obtain rfl : k = N := by omega
      have B5 := Lib.hid (bel_step0 hB B4.out)
      clear hB HF HNm HU4 HQ5 B4 hlt hNm hk hm
      go_wp2_with fail
      refine (C_DrawLateReviews _ n _ (HS.out.below B5.out)).mono ?_; rintro e w6 ⟨u6, m6, T6, d, rfl, hm6, hd, hu6, hb⟩
      have B6 := Lib.hid (bel_step0 hb B5.out)
      obtain ⟨R6, hR6⟩ : ∃ R6, R6 = fun j => (T6 j).rv := ⟨_, rfl⟩
      rw [← hR6] at hu6
      obtain ⟨VF, vf, rfl⟩ : ∃ A c, u6 = .slice A m6 c := by obtain ⟨A, c, e, _⟩ := hu6; exact ⟨A, c, e⟩
      obtain ⟨fine, hfine⟩ : ∃ b, lateOk m6 R6 d = b := ⟨_, rfl⟩
      obtain ⟨xs, hxs⟩ : ∃ b, late m6 R6 d = b := ⟨_, rfl⟩
      obtain ⟨told, htold⟩ : ∃ b, okD m6 R6 0 = b := ⟨_, rfl⟩
      obtain ⟨ns, hns⟩ : ∃ b, decided m6 R6 0 = b := ⟨_, rfl⟩
      have hlf := fun (j : Nat) (hj : j < (late m6 R6 d).length) => late_fact hj
      have hxl := late_le m6 R6 d
      rw [hxs, hns, htold] at hlf
      rw [hxs] at hxl
      have C1 := Lib.hid (fun W hW => C_LateReviewsI (.slice VF m6 vf) m6 R6 d W hW)
      have C2 := Lib.hid (fun W hW => C_LateReviewsS (.slice VF m6 vf) m6 R6 d W hW)
      have C3 := Lib.hid (fun W hW => C_DecidedI (.slice VF m6 vf) m6 R6 0 W hW)
      rw [hfine, hxs] at C1 C2
      rw [htold, hns] at C3
      have HLF := Lib.hid hlf
      have HU6 := Lib.hid hu6
      clear hb hR6 hfine hxs htold hns hlf hu6 B5
      go_wp2_with fail
      refine (C1.out _ HU6.out).mono ?_; rintro e w7 ⟨v7, rfl, ho7, hb⟩
      have B7 := Lib.hid (bel_step0 hb B6.out)
      have HU7 := Lib.hid (HU6.out.below hb)
      obtain ⟨VG, vg, rfl⟩ : ∃ A c, v7 = .slice A xs.length c := by obtain ⟨A, c, e, _⟩ := ho7.wi.si; exact ⟨A, c, e⟩
      have X7 := Lib.hid ho7.wi.si
      clear hb ho7 B6 HU6
      go_wp2_with fail
      refine (C2.out _ HU7.out).mono ?_; rintro e w8 ⟨v8, rfl, ho8, hb⟩
      have B8 := Lib.hid (bel_step0 hb B7.out)
      have HU8 := Lib.hid (HU7.out.below hb)
      have X8 := Lib.hid (X7.out.below hb)
      obtain ⟨VH, vh, rfl⟩ : ∃ A c, v8 = .slice A xs.length c := by obtain ⟨A, c, e, _⟩ := ho8.wi.si; exact ⟨A, c, e⟩
      have Y8 := Lib.hid ho8.wi.si
      have hbb := ne_self_b fine
      clear hb ho8 B7 HU7 X7 C1 C2
      go_wp2_with fail
      refine (C_rInts _ _ _ _ _ X8.out Y8.out).mono ?_; rintro e w9 ⟨rfl, hb⟩
      have B9 := Lib.hid (bel_step0 hb B8.out)
      have HU9 := Lib.hid (HU8.out.below hb)
      have X9 := Lib.hid (X8.out.below hb)
      clear hb hbb B8 HU8 X8 Y8
      go_wp2_with fail
      refine (C3.out _ HU9.out).mono ?_; rintro e w10 ⟨v10, rfl, ho10, hb⟩
      have B10 := Lib.hid (bel_step0 hb B9.out)
      have X10 := Lib.hid (X9.out.below hb)
      obtain ⟨VI, vi, rfl⟩ : ∃ A c, v10 = .slice A ns.length c := by obtain ⟨A, c, e, _⟩ := ho10.wi.si; exact ⟨A, c, e⟩
      have Z10 := Lib.hid ho10.wi.si
      clear hb ho10 B9 HU9 X9 C3
      go_wp2
      go_loopw [23] (fun i wr => ∃ k : Nat, k ≤ xs.length ∧ i = .int .i64 k ∧ w10 = wr) (fun i _ => xs.length - (intOf i).toNat)
      case atStart => exact ⟨0, Nat.zero_le _, rfl, rfl⟩
      case round =>
        obtain ⟨k, hk, rfl, rfl⟩ := hrel
        by_cases hlt : k < xs.length
        · obtain ⟨f1, f2⟩ := HLF.out k hlt
          subst f1
          have hkN : (k : Int) < (xs.length : Int) := by omega
          have hk0 : (0 : Int) ≤ (k : Int) := by omega
          obtain ⟨_, _, e0, hr0, _, _⟩ := X10.out
          injection e0 with e1 _ e3
          subst e1 e3
          obtain ⟨b, off, rfl, hb, hcell⟩ := hr0 (by omega)
          have hck := hcell k hlt
          have F2 := Lib.hid f2
          clear hcell f2
          go_wp2_with fail
          refine (C_rHas _ _ _ _ _ Z10.out).mono ?_; rintro e w11 ⟨rfl, rfl⟩
          rw [F2.out]
          clear hck
          go_wp2_with fail
          go_roundw
          case rel => exact ⟨k + 1, by omega, by go_num, by first | rfl | trivial⟩
          case measure => simp [intOf]; omega
        · clear HLF X10 Z10 hxl hk hd hm6
          go_wp2_with fail
          refine (C_DrawCouldBecome _ n _ (HS.out.below B10.out)).mono ?_; rintro e w14 ⟨x, u14, mo, rfl, ho14, hxl, hb⟩
          have B14 := Lib.hid (bel_step0 hb B10.out)
          obtain ⟨VJ, vj, rfl⟩ := ho14.form
          have HX14 := Lib.hid ho14.wi.si
          obtain ⟨rid, due, vs⟩ := x
          simp only at hxl
          obtain ⟨cl, hcl⟩ : ∃ b, cbL ⟨rid, due, vs.length, ai vs⟩ mo = b := ⟨_, rfl⟩
          obtain ⟨known, hkn⟩ : ∃ b, cbOk ⟨rid, due, vs.length, ai vs⟩ mo = b := ⟨_, rfl⟩
          have C10 := Lib.hid (fun W (hW : SI W (.slice VJ vs.length vj) vs.length (ai vs)) => C_CouldBecomeI (.agg #[.int .i64 rid, .int .i64 due, .slice VJ vs.length vj]) ⟨rid, due, vs.length, ai vs⟩ mo W ⟨_, rfl, hW⟩)
          have C11 := Lib.hid (fun W (hW : SI W (.slice VJ vs.length vj) vs.length (ai vs)) => C_CouldBecomeS (.agg #[.int .i64 rid, .int .i64 due, .slice VJ vs.length vj]) ⟨rid, due, vs.length, ai vs⟩ mo W ⟨_, rfl, hW⟩)
          rw [hcl, hkn] at C10 C11
          clear hcl hkn hb ho14 B10
          obtain ⟨w15, hw15⟩ : ∃ w15, w15 = w14.alloc (.cells #[.int .i64 rid, .int .i64 due, .slice VJ vs.length vj] 27) := ⟨_, rfl⟩
          obtain ⟨g, hg⟩ : ∃ g, g = w14.heap.size := ⟨_, rfl⟩
          have r15 : w15.rowIs g 27 3 (c3v rid due (.slice VJ vs.length vj)) := by rw [hw15, hg]; exact row3_alloc w14 _ _ _ _
          have R15 := Lib.hid r15
          have X15 := Lib.hid (show SI w15 (.slice VJ vs.length vj) vs.length (ai vs) by rw [hw15]; exact HX14.out.alloc _)
          have B15 := Lib.hid (show Below w.heap.size w w15 by rw [hw15]; exact bel_alloc0 B14.out _)
          have HW15 := Lib.hid hw15.symm
          have HG := Lib.hid hg.symm
          clear hw15 hg r15 B14 HX14
          go_upto_region 28 with fail
          rw [HW15.out, HG.out]
          clear HW15 HG
          have x0 := R15.out.cell (i := 0) (by omega)
          have x1 := R15.out.cell (i := 1) (by omega)
          have x2 := R15.out.cell (i := 2) (by omega)
          go_wp2_with fail
          refine (C10.out _ X15.out).mono ?_; rintro e w16 ⟨v16, rfl, ho16, hb⟩
          have B16 := Lib.hid (bel_step0 hb B15.out)
          have R16 := Lib.hid (R15.out.of_block (hb.block _ R15.out.lt))
          have X16 := Lib.hid (X15.out.below hb)
          obtain ⟨VK, vk, rfl⟩ : ∃ A c, v16 = .slice A cl.length c := by obtain ⟨A, c, e, _⟩ := ho16.wi.si; exact ⟨A, c, e⟩
          have Y16 := Lib.hid ho16.wi.si
          clear hb x0 x1 x2 R15 X15 B15 ho16
          have x0 := R16.out.cell (i := 0) (by omega)
          have x1 := R16.out.cell (i := 1) (by omega)
          have x2 := R16.out.cell (i := 2) (by omega)
          go_wp2_with fail
          refine (C11.out _ X16.out).mono ?_; rintro e w17 ⟨v17, rfl, ho17, hb⟩
          have B17 := Lib.hid (bel_step0 hb B16.out)
          have Y17 := Lib.hid (Y16.out.below hb)
          obtain ⟨VL, vl, rfl⟩ : ∃ A c, v17 = .slice A cl.length c := by obtain ⟨A, c, e, _⟩ := ho17.wi.si; exact ⟨A, c, e⟩
          have Z17 := Lib.hid ho17.wi.si
          have hbb := ne_self_b known
          clear hb x0 x1 x2 R16 X16 B16 C10 C11 Y16 ho17
          go_wp2_with fail
          refine (C_rInts _ _ _ _ _ Y17.out Z17.out).mono ?_; rintro e w18 ⟨rfl, hb⟩
          have B18 := Lib.hid (bel_step0 hb B17.out)
          clear hb hbb B17 Y17 Z17
          go_wp2_with fail
          refine (C_DrawDeciders _ n _ (HS.out.below B18.out)).mono ?_; rintro e w19 ⟨u, m, T, rfl, hm, hu, hb⟩
          have B19 := Lib.hid (bel_step0 hb B18.out)
          obtain ⟨R, hR⟩ : ∃ R, R = fun j => (T j).rv := ⟨_, rfl⟩
          rw [← hR] at hu
          obtain ⟨UA, uc, rfl⟩ : ∃ A c, u = .slice A m c := by obtain ⟨A, c, e, _⟩ := hu; exact ⟨A, c, e⟩
          obtain ⟨good, hgood⟩ : ∃ b, okRs m R = b := ⟨_, rfl⟩
          obtain ⟨rows, hrows⟩ : ∃ q, outR R m = q := ⟨_, rfl⟩
          obtain ⟨N, hN⟩ : ∃ k, (if good then rows.length else 0) = k := ⟨_, rfl⟩
          have hrl : good = true → rows.length ≤ 50 := fun e => by
            have h1 := okRs_le (hgood.trans e)
            have h2 := outR_le (okRs_votes (hgood.trans e)) m (Nat.le_refl _)
            rw [hrows] at h2; omega
          have hcnt : good = true → ∀ i, i < m → (R i).n = 3 → cntR (R i).rid rows = 3 := fun e i hi h3 => by rw [← hrows]; exact decide_fact (hgood.trans e) hi h3
          have htwo : ∀ row ∈ rows, row.length = 2 := by rw [← hrows]; exact outR_two R m
          have C1 := Lib.hid (fun W hW => C_DecidersI (.slice UA m uc) m R W hW)
          have C2 := Lib.hid (fun W hW => C_DecidersS (.slice UA m uc) m R W hW)
          have C3 := Lib.hid (fun W hW => C_AreReviewsI (.slice UA m uc) m R W hW)
          rw [hgood, hrows, hN] at C1 C2
          rw [hgood] at C3
          have HU := Lib.hid hu
          have HC := Lib.hid (And.intro hrl (And.intro hcnt (And.intro htwo hN)))
          clear hb hR hgood hrows hN hrl hcnt htwo hu B18
          go_wp2_with fail
          refine (C1.out _ HU.out).mono ?_; rintro e w20 ⟨v20, rfl, ho20, hb⟩
          have B20 := Lib.hid (bel_step0 hb B19.out)
          have HU20 := Lib.hid (HU.out.below hb)
          have hs20 := ho20.ssi
          obtain ⟨VA, va, rfl⟩ : ∃ A c, v20 = .slice A N c := by obtain ⟨A, c, e, _⟩ := hs20; exact ⟨A, c, e⟩
          have X20 := Lib.hid hs20
          clear hb ho20 hs20 B19 HU
          go_wp2_with fail
          refine (C2.out _ HU20.out).mono ?_; rintro e w21 ⟨v21, rfl, ho21, hb⟩
          have B21 := Lib.hid (bel_step0 hb B20.out)
          have HU21 := Lib.hid (HU20.out.below hb)
          have X21 := Lib.hid (X20.out.below hb)
          have hs21 := ho21.ssi
          obtain ⟨VB, vb, rfl⟩ : ∃ A c, v21 = .slice A N c := by obtain ⟨A, c, e, _⟩ := hs21; exact ⟨A, c, e⟩
          have Y21 := Lib.hid hs21
          have hbb := ne_self_b good
          clear hb ho21 hs21 B20 HU20 X20 C1 C2
          go_wp2_with fail
          refine (C_rTable _ _ _ _ _ X21.out Y21.out).mono ?_; rintro e w22 ⟨rfl, hb⟩
          have B22 := Lib.hid (bel_step0 hb B21.out)
          have HU22 := Lib.hid (HU21.out.below hb)
          have X22 := Lib.hid (X21.out.below hb)
          clear hb HU21 X21 Y21 B21
          go_wp2_with fail
          refine (C3.out _ HU22.out).mono ?_; rintro e w23 ⟨rfl, hb⟩
          have B23 := Lib.hid (bel_step0 hb B22.out)
          have HU23 := Lib.hid (HU22.out.below hb)
          have X23 := Lib.hid (X22.out.below hb)
          clear hb HU22 X22 B22 C3
          cases good
          · go_wp2
            refine wp_loop_rounds 1 ?_
            rw [rounds_succ]
            by_cases hm0 : 0 < m
            · have hm1 : (0 : Int) < (m : Int) := by omega
              go_wp2
              go_ret
              exact ⟨rfl, B23.out⟩
            · have hm1 : ¬ (0 : Int) < (m : Int) := by omega
              go_wp2
              go_ret
              exact ⟨rfl, B23.out⟩
          · obtain ⟨hrl, hcnt, htwo, hN⟩ := HC.out
            have hrl := hrl rfl
            have hcnt := hcnt rfl
            rw [if_pos rfl] at hN
            have HN := Lib.hid hN
            have HCN := Lib.hid hcnt
            have HTW := Lib.hid htwo
            rw [hN] at hrl
            clear hcnt htwo hN HC hbb
            go_wp2
            go_loopw [35] (fun i wr => ∃ k : Nat, k ≤ m ∧ i = .int .i64 k ∧ Below w23.heap.size w23 wr) (fun i _ => m - (intOf i).toNat)
            case atStart => exact ⟨0, Nat.zero_le _, rfl, Below.refl _ _⟩
            case round =>
              obtain ⟨k, hk, rfl, hB⟩ := hrel
              by_cases hlt : k < m
              · have hkN : (k : Int) < (m : Int) := by omega
                have hk0 : (0 : Int) ≤ (k : Int) := by omega
                obtain ⟨_, _, e0, hr0, _, _⟩ := HU23.out.below hB
                injection e0 with e1 _ e3
                subst e1 e3
                obtain ⟨b, off, rfl, hb, hcell⟩ := hr0 (by omega)
                obtain ⟨sz, hsz, hcz0, hcz1, hcz2⟩ := hcell k (by omega)
                have hcn := HCN.out k hlt
                obtain ⟨Z, hZ⟩ : ∃ Z, R k = Z := ⟨_, rfl⟩
                rw [hZ] at hcn
                simp only [hZ] at hsz hcz0 hcz1 hcz2
                obtain ⟨zr, zd, zn, zf⟩ := Z
                simp only at hsz hcz0 hcz1 hcz2 hcn
                have hsz0 := hsz; obtain ⟨A2, c2, rfl, hsr2, hsc2, hsm2⟩ := hsz0; clear hsr2
                have HB := Lib.hid hB
                have HX := Lib.hid (X23.out.below hB)
                clear hcell hsz hcz1 hZ hB
                by_cases h3 : zn = 3
                · have HCT := Lib.hid (hcn h3)
                  have h3b : ((zn : Int) != 3) = false := by subst h3; rfl
                  clear hcn h3
                  go_wp2
                  go_loopw [36, 37] (fun q i wi => ∃ j : Nat, j ≤ N ∧ i = .int .i64 j ∧ q = .int .i64 (cntR zr (rows.take j) : Nat) ∧ Below wr.heap.size wr wi) (fun _ i _ => N - (intOf i).toNat)
                  case atStart => exact ⟨0, Nat.zero_le _, rfl, rfl, Below.refl _ _⟩
                  case round =>
                    obtain ⟨j, hj, rfl, rfl, hB⟩ := hrel
                    by_cases hlj : j < N
                    · have hjr : j < rows.length := by rw [HN.out]; exact hlj
                      have hst := cntR_step (r := zr) hjr
                      obtain ⟨c, hc⟩ : ∃ c, cntR zr (rows.take j) = c := ⟨_, rfl⟩
                      have hcle : c ≤ 50 := by
                        rw [← hc]
                        have h1 := cntR_le zr (rows.take j)
                        rw [List.length_take] at h1; omega
                      rw [hc] at hst ⊢
                      obtain ⟨_, _, e0, hr0, _, _⟩ := HX.out.below hB
                      injection e0 with e1 _ e3
                      subst e1 e3
                      obtain ⟨b2, off2, rfl, hb2, hcell2⟩ := hr0 (by omega)
                      obtain ⟨sv, hsv, hck⟩ := hcell2 j hlj
                      obtain ⟨A3, c3, rfl, hsr3, hsc3, hsm3⟩ := hsv
                      have hl2 : (at_ rows j).length = 2 := HTW.out _ (at_mem hjr)
                      obtain ⟨b3, off3, rfl, hb3, hc3⟩ := hsr3 (by omega)
                      have hc30 := hc3 0 (by omega)
                      rw [Nat.add_zero] at hc30
                      obtain ⟨y, hy⟩ : ∃ y, ai (at_ rows j) 0 = y := ⟨_, rfl⟩
                      rw [hl2] at hck hsc3
                      rw [hy] at hc30 hst
                      have hz0 := (hB.cell (p := ⟨b, off + k * 3, none⟩) hb).trans hcz0
                      have g1 := cell_regrown hck; have g2 := cell_regrown hc30; have g3 := cell_regrown hz0
                      have hj0 : (0 : Int) ≤ (j : Int) := by omega
                      have hj1 : (j : Int) < (N : Int) := by omega
                      have HB2 := Lib.hid hB
                      have hc31 : (2 : Int) ≤ (c3 : Int) := by omega
                      clear hcell2 hsr3 hc3 hck hc30 hl2 hy hc hz0 hB
                      cases he : (y == zr)
                      · have HST := Lib.hid (show cntR zr (rows.take (j + 1)) = c by rw [hst, he]; rfl)
                        clear hst
                        go_wp2
                        (refine wp_region_quiet_below (by kernel_rfl) (by kernel_rfl) ?_; (repeat (go_big_quiet_step (fail))); refine wpQuiet_nil ?_; intro _ hw'; obtain ⟨⟨dq, osq⟩, hw''⟩ := hw'; subst hw'')
                        clear g1 g2 g3
                        go_wp2
                        go_roundw
                        case rel => exact ⟨j + 1, by omega, by go_num, by rw [HST.out], bel_regrown0 HB2.out _ _⟩
                        case measure => simp [intOf]; omega
                      · have HST := Lib.hid (show cntR zr (rows.take (j + 1)) = c + 1 by rw [hst, he]; rfl)
                        clear hst
                        go_wp2
                        (refine wp_region_quiet_below (by kernel_rfl) (by kernel_rfl) ?_; (repeat (go_big_quiet_step (fail))); refine wpQuiet_nil ?_; intro _ hw'; obtain ⟨⟨dq, osq⟩, hw''⟩ := hw'; subst hw'')
                        clear g1 g2 g3
                        go_wp2
                        go_roundw
                        case rel => exact ⟨j + 1, by omega, by go_num, by rw [HST.out]; go_num, bel_regrown0 HB2.out _ _⟩
                        case measure => simp [intOf]; omega
                    · have hfin : cntR zr (rows.take j) = 3 := by rw [List.take_of_length_le (by rw [HN.out]; omega)]; exact HCT.out
                      rw [hfin]
                      have HB2 := Lib.hid (bel_step0 hB HB.out)
                      clear hfin hB
                      go_wp2
                      go_roundw
                      case rel => exact ⟨k + 1, by omega, by go_num, HB2.out⟩
                      case measure => simp [intOf]; omega
                · have h3b : ((zn : Int) != 3) = true := by simp; omega
                  clear hcn h3
                  go_wp2
                  go_roundw
                  case rel => exact ⟨k + 1, by omega, by go_num, HB.out⟩
                  case measure => simp [intOf]; omega
              · go_wp2
                go_ret
                exact ⟨rfl, bel_step0 hB B23.out⟩
set_option maxRecDepth 100000 in
theorem lifted (os : Os) (started : os.Started) (H : Type) (enc : TypeId × Value → H) :
    ReturnsInHanded {} Try.checked os 15 .any (Rows.fnReviewsSpec.pre6 enc Try.prog Try.f15 Rows.fnReviewsRow.domain false) (Rows.fnReviewsSpec.post enc Try.prog Try.f15 false true false false) := by
  refine returnsInHanded_of_change (C := Try.checked) own started (by kernel_rfl) Try.func15
    (ChangeSpec.witness6 (enc := enc) (C := Try.checked) false ⟨#[], #[.slice none 0 0], []⟩ 8 (by kernel_rfl) (by kernel_rfl) (by kernel_rfl) (by kernel_rfl)) ?_
  intro W base args ds gs before hval0 hW hcnd _
  have hval : ∀ (j : Nat) t v, Try.f15.params[j]? = some t → args[j]? = some v → Value.okWide Try.prog W .any base t v := hval0
  have hW' := hW
  obtain ⟨p, q, hA0, hV, rfl, hfz, hnd⟩ := hW
  have hA : DataW.TrodAll enc Try.prog W 0 (fun _ => true) true Try.f15.params.toList args.toList ds p := hA0
  rw [Try.params15] at hA hval
  obtain ⟨v0, vs0, d0, ds0, p0, q0, hargs, rfl, rfl, h0, r0⟩ := trodAll_cons hA
  obtain ⟨rfl, rfl, rfl⟩ := trodAll_nil r0
  obtain rfl : args = #[v0] := by cases args; simp_all
  obtain ⟨rfl, rfl⟩ := trodVars_none hV
  have k0 := h0
  have lt0 : ∀ x ∈ p0, x.block < W.heap.size := by obtain ⟨m, hm⟩ := k0; exact DataW.trod_lt m _ _ _ hm
  obtain ⟨n0, b0⟩ := view_Suint8 (hval 0 64 v0 rfl rfl) h0
  clear hA0 hval0
  refine (walk v0 n0 W b0).mono fun e W' ⟨he, bel⟩ => ?_
  subst he
  exact ⟨_, rfl, _, _, _, [], _, [], hW', trodAll_mk1 (shut_bool Try.underlying4 _), (trodAll_cons_mk (Below.trod laidOut (by kernel_rfl) (of_decide_eq_true (by kernel_rfl)) k0 bel lt0) trodAll_mk0), rfl, bel.frame _, fun h => by cases h⟩

theorem proved : Rows.FnReviewsSaid :=
  OpenClaim.holds_of_wide 15 Try.f15 rfl rfl rfl rfl rfl rfl rfl ⟨rfl, rfl, rfl, rfl, rfl⟩ rfl rfl rfl rfl rfl (by kernel_rfl) Try.func15 (by kernel_rfl)
    (of_decide_eq_true (by kernel_rfl)) (by unfold Func.isWrapper; first | (rw [if_pos (by decide +kernel)]; kernel_rfl) | (rw [if_neg (by decide +kernel)]; exact ⟨rfl, rfl⟩))
    (fun os started H enc _ => lifted os started H enc)
#print axioms proved
end Go.Proofs.Ytcdffikambbleaa.lawFnReviews
