/- The law FnLeaks returns true, whatever its argument, and leaves it as it was. No condition beyond the row's own. -/
import Derived.Test.YtnhkejbgcjebmaaDoorClDF
import Derived.Test.YtnhkejbgcjebmaaDoorClueL
import Derived.Test.YtnhkejbgcjebmaaDoorClueO
import Derived.Test.YtnhkejbgcjebmaaDoorClueI
import Derived.Test.YtnhkejbgcjebmaaDoorDoorW
import Derived.Deep.CutBlock
import Derived.Test.YtnhkejbgcjebmaaDoorCards
import Derived.Test.YtnhkejbgcjebmaaDoorTie
import Derived.Test.YtnhkejbgcjebmaaDoorOpen
import Derived.Deep.DeepHandedRow
import Derived.LaidMore
import Derived.Deep.DeepLaidRun
import Derived.PinnedBridge
import Derived.OpenShut
import Derived.ChangeMaps5
namespace Go.Proofs.YtnhkejbgcjebmaaDoor.lawFnLeaks
open Go.ChangeShapes Go.WideShapes Go.ChangeAt Go.RowKit Go.Deep Go.Joins
open Go.ChangeMaps (open_string shut_string)
set_option linter.unusedVariables false
set_option linter.unusedSimpArgs false
open Go.Sort
theorem ne_self_b (b : Bool) : (b != b) = false := by cases b <;> rfl
theorem step_fact {n : Nat} {f : Nat → ByteArray} {k : Int} (h : (stepG n f k && stepB n f k) = true) : dictB n f = true ∧ 1 ≤ stepI n f k ∧ stepI n f k ≤ 10 ∧ ∀ i, i < n → k ≤ (cP n f (stepI n f k) (pF f (stepI n f k) i) : Int) := by
  rw [Bool.and_eq_true] at h
  obtain ⟨h1, h2⟩ := h
  have hd : dictB n f = true := by unfold stepG at h1; rw [Bool.and_eq_true] at h1; exact h1.1
  rcases firstB_cases 10 (okS n f k) with ⟨_, h3⟩ | ⟨i0, h3, h4, _, h5⟩
  · have : ∃ i, i < 10 ∧ okS n f k i = true := anyB_iff.1 h2
    obtain ⟨i, hi, e⟩ := this
    rw [h3 i hi] at e; cases e
  · have e : stepI n f k = (i0 : Int) + 1 := by unfold stepI; rw [if_pos h2, h4]
    refine ⟨hd, by omega, by omega, fun i hi => ?_⟩
    have := allB_iff.1 (show allB n (ok1 n f k ((i0 : Int) + 1)) = true from h5) i hi
    rw [e]
    unfold ok1 at this
    simpa using this
theorem C_padOK (s : ByteArray) (st : Int) (w : World) (hw : wordB s = true) (h1 : 1 ≤ st) (h2 : st ≤ 10) :
    Calls Tryd.prog 16 #[.string s, .int .i64 st] w fun e w' => e = .returned (.tuple #[.int .i64 (padN s.size st), .bool true]) ∧ Below w.heap.size w w' := by
  have hz := wordB_size hw
  have h := C_PaddedLengthI s st w (by omega)
  have e : (wordB s && within st 1 10) = true := by rw [hw, show within st 1 10 = true from within_iff.2 ⟨h1, h2⟩]; rfl
  rw [e, if_pos rfl] at h
  exact h
theorem leak_fact {n : Nat} {f : Nat → ByteArray} {k : Int} {x : ByteArray} (h : (dictB n f && inB n f x && within k 1 12) = true) : dictB n f = true ∧ wordB x = true ∧ within k 1 12 = true ∧
    ((wleak n f k x).toList == [108, 101, 110, 103, 116, 104]) = !decide (k ≤ ((cntB n fun j => fitB x.size 0 ByteArray.empty ByteArray.empty (f j)) : Int)) := by
  rw [Bool.and_eq_true, Bool.and_eq_true] at h
  obtain ⟨⟨h1, h2⟩, h3⟩ := h
  refine ⟨h1, inB_word (fun j hj => dictB_word h1 hj) h2, h3, ?_⟩
  unfold wleak
  rw [wl_length]
  rfl
set_option maxRecDepth 100000 in
set_option maxHeartbeats 8000000 in
theorem walk (v : Value) (n : Nat) (w : World) (h : SU w v n) :
    Calls Tryd.prog 14 #[v] w fun e w' => e = .returned (.bool true) ∧ Below w.heap.size w w' := by
  obtain ⟨A, cap, rfl⟩ := h.form
  have HS := Lib.hid h
  clear h
  by_cases hbig : 65536 < n
  · have hbig2 : decide (65536 < (n : Int)) = true := by simp; omega
    go_enter Tryd.func14, Tryd.ntmps14
    go_wp2_with fail
    refine (C_vBig _ n _ HS.out).mono ?_; rintro e w1 ⟨rfl, rfl⟩
    rw [hbig2]
    go_wp2_with fail
    go_ret
    exact ⟨rfl, Below.refl _ _⟩
  have hbig2 : decide (65536 < (n : Int)) = false := by simp; omega
  go_enter Tryd.func14, Tryd.ntmps14
  go_wp2_with fail
  refine (C_vBig _ n _ HS.out).mono ?_; rintro e w1 ⟨rfl, rfl⟩
  rw [hbig2]
  clear hbig hbig2
  go_wp2_with fail
  refine (C_DrawLeastSafe _ n _ HS.out).mono ?_; rintro e w1 ⟨u, m, f, p, q, rfl, hd, B⟩
  obtain ⟨UA, uc, rfl⟩ := hd.form
  have C1 := fun p q W (hW : DW W (.slice UA m uc) m f) => C_LeastSafeI _ m f p q W hW.1 hW.s63
  have C2 := fun W (hW : DW W (.slice UA m uc) m f) => C_LeastSafeS _ m f p q W hW.1 hW.s63
  obtain ⟨ok, hok⟩ : ∃ z0, dictB m f = z0 := ⟨_, rfl⟩
  rw [hok] at C1 C2
  have D1 := C1 p q
  have D2 := C1 false false
  have D3 := C1 true true
  have hall : ok = true → (if ok then leastM m f false false m else 0) = m := fun e => by rw [e, if_pos rfl]; exact least_all (hok.trans e) m
  obtain ⟨r, hr⟩ : ∃ z0, (if ok then leastM m f p q m else 0) = z0 := ⟨_, rfl⟩
  obtain ⟨lb, hlb⟩ : ∃ z0, (if ok then leastM m f true true m else 0) = z0 := ⟨_, rfl⟩
  obtain ⟨la, hla⟩ : ∃ z0, (if ok then leastM m f false false m else 0) = z0 := ⟨_, rfl⟩
  have hfact : ok = true → la = m ∧ lb ≤ r ∧ r ≤ m ∧ 1 ≤ lb := fun e => by
    have h1 := least_less (n := m) (f := f) p q m
    have h2 := leastM_bd m f p q m
    have h3 := least_one (hok.trans e) m (Nat.le_refl _)
    rw [hla] at hall
    subst e
    rw [if_pos rfl] at hr hlb
    rw [hr] at h1 h2
    rw [hlb] at h1 h3
    exact ⟨hall rfl, h1, h2.2, h3⟩
  rw [hr] at D1 C2
  rw [hlb] at D3
  rw [hla] at D2
  have D1 := Lib.hid D1
  have D2 := Lib.hid D2
  have D3 := Lib.hid D3
  have C2 := Lib.hid C2
  have HF := Lib.hid hfact
  have HD1 := Lib.hid hd
  have B1 := Lib.hid B
  clear hd C1 hok hall hr hlb hla hfact B
  go_wp2_with fail
  refine (D1.out _ HD1.out).mono ?_; rintro e w2 ⟨rfl, hb⟩
  have HD2 := Lib.hid (HD1.out.below hb)
  have B2 := Lib.hid (bel_step0 hb B1.out)
  clear hb HD1 B1 D1
  go_wp2_with fail
  refine (C2.out _ HD2.out).mono ?_; rintro e w3 ⟨rfl, hb⟩
  have HD3 := Lib.hid (HD2.out.below hb)
  have B3 := Lib.hid (bel_step0 hb B2.out)
  have hbb := ne_self_b ok
  clear hb HD2 B2 C2
  go_upto_if 74 with fail
  clear hbb
  go_cut [10, 11, 12, 13] (fun s10 s11 s12 s13 wx => Below w3.heap.size w3 wx)
  case first =>
    as_aux_lemma =>
      cases ok
      · go_wp2_with fail
        go_meet
        exact Below.refl _ _
      · obtain ⟨rfl, h1, h2, h3⟩ := HF.out rfl
        go_wp2_with fail
        refine (D2.out _ HD3.out).mono ?_; rintro e w4 ⟨rfl, hb⟩
        have HD4 := Lib.hid (HD3.out.below hb)
        have B4 := Lib.hid hb
        clear hb
        go_wp2_with fail
        refine (D3.out _ HD4.out).mono ?_; rintro e w5 ⟨rfl, hb⟩
        have B5 := Lib.hid (bel_step0 hb B4.out)
        clear hb
        go_wp2_with fail
        go_meet
        exact B5.out
  case rest =>
    as_aux_lemma =>
      rename World => wx
      have B6 := Lib.hid (bel_step0 hcut B3.out)
      clear hcut B3 HD3 D2 D3 HF
      go_wp2_with fail
      refine (C_DrawWhatLeaks _ n _ (HS.out.below B6.out)).mono ?_; rintro e w7 ⟨u, m, f, y, k, rfl, hd, hy, hk, hb⟩
      obtain ⟨UA, uc, rfl⟩ := hd.form
      have hy63 : y.size ≤ 9223372036854775807 := by omega
      have hy20 : y.size ≤ 1048576 := by omega
      have C1 := fun W (hW : DW W (.slice UA m uc) m f) => C_WhatLeaksI _ m f y k W hW.1 hW.s63 hy63
      have C2 := fun W (hW : DW W (.slice UA m uc) m f) => C_WhatLeaksS _ m f y k W hW.1 hW.s63 hy63
      have C3 := fun W => C_LengthClueI y W hy20
      have C4 := fun W (hW : DW W (.slice UA m uc) m f) => C_IsSafeClueI _ m f y.size 0 ByteArray.empty ByteArray.empty k W hW.1 hW.s63 (by decide) (by decide)
      obtain ⟨told, htold⟩ : ∃ z0, (dictB m f && inB m f y && within k 1 12) = z0 := ⟨_, rfl⟩
      rw [htold] at C1 C2
      obtain ⟨K, hK⟩ : ∃ z0, (if told then wleak m f k y else (⟨#[]⟩ : ByteArray)) = z0 := ⟨_, rfl⟩
      rw [hK] at C1 C2
      obtain ⟨cc, hcc⟩ : ∃ z0 : Nat, (cntB m fun j => fitB y.size 0 ByteArray.empty ByteArray.empty (f j)) = z0 := ⟨_, rfl⟩
      rw [hcc] at C4
      obtain ⟨so, hso⟩ : ∃ z0, (dictB m f && okC y.size 0 ByteArray.empty ByteArray.empty && within k 1 12) = z0 := ⟨_, rfl⟩
      rw [hso] at C4
      have hfact : told = true → so = true ∧ wordB y = true ∧ (K.toList == [108, 101, 110, 103, 116, 104]) = !decide (k ≤ (cc : Int)) := fun e => by
        obtain ⟨h1, h2, h3, h4⟩ := leak_fact (htold.trans e)
        rw [hcc] at h4
        rw [e, if_pos rfl] at hK
        rw [hK] at h4
        exact ⟨by rw [← hso, h1, h3, len_ok h2]; rfl, h2, h4⟩
      have C1 := Lib.hid C1
      have C2 := Lib.hid C2
      have C3 := Lib.hid C3
      have C4 := Lib.hid C4
      have HF := Lib.hid hfact
      have HD7 := Lib.hid hd
      have B7 := Lib.hid (bel_step0 hb B6.out)
      clear hd hy hk hb hy63 hy20 htold hK hcc hso hfact B6
      go_wp2_with fail
      refine (C1.out _ HD7.out).mono ?_; rintro e w8 ⟨rfl, hb⟩
      have HD8 := Lib.hid (HD7.out.below hb)
      have B8 := Lib.hid (bel_step0 hb B7.out)
      clear hb HD7 B7 C1
      go_wp2_with fail
      refine (C2.out _ HD8.out).mono ?_; rintro e w9 ⟨rfl, hb⟩
      have HD9 := Lib.hid (HD8.out.below hb)
      have B9 := Lib.hid (bel_step0 hb B8.out)
      have hbb := ne_self_b told
      clear hb HD8 B8 C2
      go_upto_if 139 with fail
      clear hbb
      go_cut [21, 22, 23, 24] (fun s21 s22 s23 s24 wx => Below w9.heap.size w9 wx)
      case first =>
        as_aux_lemma =>
          cases told
          · go_wp2_with fail
            go_meet
            exact Below.refl _ _
          · obtain ⟨rfl, h1, h2⟩ := HF.out rfl
            have C3b := C3.out
            rw [h1, if_pos rfl] at C3b
            have C3b := Lib.hid C3b
            have h3 : (K.toList != [108, 101, 110, 103, 116, 104]) = decide (k ≤ (cc : Int)) := by rw [bne, h2, Bool.not_not]
            obtain ⟨safe, hsafe⟩ : ∃ z0, decide (k ≤ (cc : Int)) = z0 := ⟨_, rfl⟩
            have C4b := C4.out
            rw [hsafe] at C4b h3 h2
            have C4b := Lib.hid C4b
            have H23 := Lib.hid (And.intro h2 h3)
            clear h1 h2 h3 HF C3 C4 hsafe
            go_wp2_with fail
            refine (C3b.out _).mono ?_; rintro e w10 ⟨rfl, hb⟩
            have HD10 := Lib.hid (HD9.out.below hb)
            have B10 := Lib.hid hb
            clear hb C3b
            obtain ⟨w11, hw3⟩ : ∃ w3, w3 = (w10).alloc (.cells #[.int .i64 y.size, .int .i64 0, .string ByteArray.empty, .string ByteArray.empty] 29) := ⟨_, rfl⟩; obtain ⟨g11, hg⟩ : ∃ g, g = (w10).heap.size := ⟨_, rfl⟩; have Rw11 := Lib.hid (show (w11).rowIs g11 29 4 (c4 y.size 0 ByteArray.empty ByteArray.empty) by (rw [hw3, hg]; exact row4_alloc w10 _ _ _ _ _)); have HB3 := Lib.hid (show Below (w10).heap.size w10 w11 by (rw [hw3]; exact bel_alloc0 (Below.refl _ _) _)); have HW3 := Lib.hid hw3.symm; have HG := Lib.hid hg.symm; clear hw3 hg
            have HD11 := Lib.hid (HD10.out.below HB3.out)
            have B11 := Lib.hid (bel_step0 HB3.out B10.out)
            go_upto_region 20 with fail
            rw [HW3.out, HG.out]
            clear HW3 HG HB3 HD10 B10
            have x0 := Rw11.out.cell (i := 0) (by omega); have x1 := Rw11.out.cell (i := 1) (by omega); have x2 := Rw11.out.cell (i := 2) (by omega); have x3 := Rw11.out.cell (i := 3) (by omega); simp only [c4, if_true, if_false, Nat.reduceEqDiff, reduceCtorEq] at x0 x1 x2 x3
            go_wp2_with fail
            refine (C4b.out _ HD11.out).mono ?_; rintro e w12 ⟨rfl, hb⟩
            have B12 := Lib.hid (bel_step0 hb B11.out)
            clear hb x0 x1 x2 x3 Rw11 HD11 B11 C4b
            have h2 := H23.out.1
            have h3 := H23.out.2
            cases safe
            all_goals
              go_wp2_with fail
              go_meet
              exact B12.out
      case rest =>
        as_aux_lemma =>
          rename World => wx
          have B13 := Lib.hid (bel_step0 hcut B9.out)
          clear hcut B9 HD9 C3 C4 HF
          go_wp2_with fail
          refine (C_DrawStepFor _ n _ (HS.out.below B13.out)).mono ?_; rintro e w14 ⟨u, m, f, k, rfl, hd, hk, hb⟩
          obtain ⟨UA, uc, rfl⟩ := hd.form
          have C1 := fun W (hW : DW W (.slice UA m uc) m f) => C_StepForI _ m f k W hW.1 hW.s63
          have C2 := fun W (hW : DW W (.slice UA m uc) m f) => C_StepForS _ m f k W hW.1 hW.s63
          obtain ⟨fine, hfine⟩ : ∃ z0, (stepG m f k && stepB m f k) = z0 := ⟨_, rfl⟩
          obtain ⟨st, hst⟩ : ∃ z0, (if stepG m f k then stepI m f k else 0) = z0 := ⟨_, rfl⟩
          rw [hfine, hst] at C1 C2
          have hfact : fine = true → dictB m f = true ∧ 1 ≤ st ∧ st ≤ 10 ∧ ∀ i, i < m → k ≤ (cP m f st (pF f st i) : Int) := fun e => by
            have h1 := hfine.trans e
            have h2 := step_fact h1
            rw [Bool.and_eq_true] at h1
            rw [h1.1, if_pos rfl] at hst
            rw [hst] at h2
            exact h2
          have C1 := Lib.hid C1
          have C2 := Lib.hid C2
          have HF := Lib.hid hfact
          have HD14 := Lib.hid hd
          have B14 := Lib.hid (bel_step0 hb B13.out)
          clear hd hk hb hfine hst hfact B13
          go_wp2_with fail
          refine (C1.out _ HD14.out).mono ?_; rintro e w15 ⟨rfl, hb⟩
          have HD15 := Lib.hid (HD14.out.below hb)
          have B15 := Lib.hid (bel_step0 hb B14.out)
          clear hb HD14 B14 C1
          go_wp2_with fail
          refine (C2.out _ HD15.out).mono ?_; rintro e w16 ⟨rfl, hb⟩
          have HD16 := Lib.hid (HD15.out.below hb)
          have B16 := Lib.hid (bel_step0 hb B15.out)
          have hbb := ne_self_b fine
          clear hb HD15 B15 C2
          go_upto_region 28 with fail
          clear hbb
          go_upto_block 0 with fail
          go_cut [31, 32, 33, 34, 35, 36, 37] (fun s31 s32 s33 s34 s35 s36 s37 wx => Below w16.heap.size w16 wx)
          case first =>
            as_aux_lemma =>
              go_wp2
              go_loopw [31] (fun i wr => ∃ q : Nat, q ≤ m ∧ i = .int .i64 q ∧ Below w16.heap.size w16 wr) (fun i _ => m - (intOf i).toNat)
              case atStart => exact ⟨0, Nat.zero_le _, rfl, Below.refl _ _⟩
              case round =>
                obtain ⟨i, hi, rfl, hB⟩ := hrel
                have HB := Lib.hid hB
                clear hB
                cases fine
                · by_cases hlt : i < m
                  all_goals
                    go_wp2
                    go_meet
                    exact HB.out
                · by_cases hlt : i < m
                  · obtain ⟨hdd, h1, h2, h3⟩ := HF.out rfl
                    have h3i := h3 i hlt
                    obtain ⟨x, hx⟩ : ∃ x, pF f st i = x := ⟨_, rfl⟩
                    rw [hx] at h3i
                    have P1 := fun j (hj : j < m) W => C_padOK (f j) st W (dictB_word hdd hj) h1 h2
                    have P2 := P1 i hlt
                    rw [show padN (f i).size st = x from hx] at P2
                    have P1 := Lib.hid P1
                    have P2 := Lib.hid P2
                    have H3 := Lib.hid h3i
                    obtain ⟨A9, c9, e9, hr9, _⟩ := (HD16.out.below HB.out).1
                    injection e9 with e9 _ e9c
                    subst e9 e9c
                    have HR := Lib.hid hr9
                    obtain ⟨b, off, rfl, hb, hcell⟩ := hr9 (by omega)
                    have hck := hcell i hlt
                    have hi0 : (0 : Int) ≤ (i : Int) := by omega
                    have hi1 : (i : Int) < (m : Int) := by omega
                    clear hcell hr9 h3 h3i hx hdd
                    go_wp2_with fail
                    refine (P2.out _).mono ?_; rintro e w17 ⟨rfl, hb17⟩
                    have HB17 := Lib.hid (bel_step0 hb17 HB.out)
                    have HR17 := Lib.hid (HR.out.below hb17)
                    clear hb17 hck HR
                    go_wp2
                    obtain ⟨wo, rfl⟩ : ∃ wo : World, wo = wr := ⟨_, rfl⟩
                    go_loopw [34, 35] (fun c j wv => ∃ q : Nat, q ≤ m ∧ j = .int .i64 q ∧ c = .int .i64 (cP q f st x : Nat) ∧ Below w17.heap.size w17 wv) (fun _ j _ => m - (intOf j).toNat)
                    case atStart => exact ⟨0, Nat.zero_le _, rfl, rfl, Below.refl _ _⟩
                    case round =>
                      obtain ⟨q, hq, rfl, rfl, hBq⟩ := hrel
                      have HBQ := Lib.hid hBq
                      clear hBq
                      have hle := cP_le q f st x
                      have hsu := cP_succ q f st x
                      obtain ⟨c, hc0⟩ : ∃ c, cP q f st x = c := ⟨_, rfl⟩
                      rw [hc0] at hle hsu
                      by_cases hlq : q < m
                      · rw [hc0]
                        obtain ⟨b2, off2, e2, hb2, hcell⟩ := (HR17.out.below HBQ.out) (by omega)
                        injection e2 with e2
                        injection e2 with e2 e3
                        subst e2 e3
                        have hck := hcell q hlq
                        have hq0 : (0 : Int) ≤ (q : Int) := by omega
                        have hq1 : (q : Int) < (m : Int) := by omega
                        have P3 := P1.out q hlq
                        obtain ⟨y2, hy2⟩ : ∃ y2, padN (f q).size st = y2 := ⟨_, rfl⟩
                        have hsu2 : cP (q + 1) f st x = c + (if y2 = x then 1 else 0) := by rw [hsu]; unfold pF; rw [hy2]
                        rw [hy2] at P3
                        have P3 := Lib.hid P3
                        have HSU := Lib.hid hsu2
                        clear hcell hc0 hsu hsu2 hy2
                        go_wp2_with fail
                        refine (P3.out _).mono ?_; rintro e w18 ⟨rfl, hb18⟩
                        have HB18 := Lib.hid (bel_step0 hb18 HBQ.out)
                        clear hb18 hck
                        cases he : (x == y2)
                        all_goals
                          have hyx := he
                          go_wp2
                          go_roundw
                          case rel => exact ⟨q + 1, by omega, by go_num, by rw [HSU.out]; (first | rw [if_pos (by simpa using (by simpa using hyx : x = y2).symm)] | rw [if_neg (by intro e; rw [e] at hyx; simp at hyx)]); (first | rfl | go_num), HB18.out⟩
                          case measure => simp [intOf]; omega
                      · obtain rfl : q = m := by omega
                        have h3c := H3.out
                        rw [hc0] at h3c ⊢
                        clear hc0 hsu
                        go_wp2
                        go_roundw
                        case rel => exact ⟨i + 1, by omega, by go_num, bel_step0 HBQ.out HB17.out⟩
                        case measure => simp [intOf]; omega
                  · go_wp2
                    go_meet
                    exact HB.out
          case rest =>
            as_aux_lemma =>
              rename World => wx
              have B20 := Lib.hid (bel_step0 hcut B16.out)
              clear hcut B16 HD16 HF
              go_wp2_with fail
              refine (C_DrawPaddedLength _ n _ (HS.out.below B20.out)).mono ?_; rintro e w21 ⟨z, k, rfl, hz, hk, hb⟩
              obtain ⟨hk0, hk1⟩ := sm9_of hk
              have C1 := fun W => C_PaddedLengthI z k W (by omega)
              have C2 := fun W => C_PaddedLengthS z k W (by omega)
              obtain ⟨known, hkn⟩ : ∃ z0, (wordB z && within k 1 10) = z0 := ⟨_, rfl⟩
              obtain ⟨q, hq⟩ : ∃ z0 : Int, (if known then padN z.size k else 0) = z0 := ⟨_, rfl⟩
              rw [hkn, hq] at C1 C2
              have hfact : known = true → (z.size : Int) ≤ q ∧ q < (z.size : Int) + k := fun e => by
                rw [e, if_pos rfl] at hq
                rw [e, Bool.and_eq_true] at hkn
                have := within_iff.1 hkn.2
                rw [← hq]
                exact pad_ge z.size k this.1
              have C1 := Lib.hid C1
              have C2 := Lib.hid C2
              have HF := Lib.hid hfact
              have B21 := Lib.hid (bel_step0 hb B20.out)
              clear hkn hq hb B20 hfact hk
              go_wp2_with fail
              refine (C1.out _).mono ?_; rintro e w22 ⟨rfl, hb⟩
              have B22 := Lib.hid (bel_step0 hb B21.out)
              clear hb B21
              go_wp2_with fail
              refine (C2.out _).mono ?_; rintro e w23 ⟨rfl, hb⟩
              have B23 := Lib.hid (bel_step0 hb B22.out)
              clear hb B22
              cases known
              · go_wp2_with fail
                go_ret
                exact ⟨rfl, B23.out⟩
              · obtain ⟨h1, h2⟩ := HF.out rfl
                go_wp2_with fail
                go_ret
                exact ⟨rfl, B23.out⟩
set_option maxRecDepth 100000 in
theorem contract (H : Type) (enc : TypeId × Value → H) (W : World) (base : Nat) (args : Array Value) (ds gs : List (DataW H)) (before : List MemPlace)
    (hval0 : ∀ (j : Nat) t v, Tryd.f14.params[j]? = some t → args[j]? = some v → Value.okWide Tryd.prog W .any base t v)
    (hW : DataW.Whole enc Tryd.prog Tryd.f14.params.toList Rows.fnLeaksSpec.vars false W args.toList ds gs before) (hL : laidMetH Tryd.prog Rows.fnLeaksRow.laid W) :
    Calls Tryd.prog 14 args W fun e W' => ∃ v, e = .returned v ∧ Rows.fnLeaksSpec.post enc Tryd.prog Tryd.f14 false true false false W args v W' := by
  have hval : ∀ (j : Nat) t v, Tryd.f14.params[j]? = some t → args[j]? = some v → Value.okWide Tryd.prog W .any base t v := hval0
  have hW' := hW
  obtain ⟨p, q, hA0, hV, rfl, hfz, hnd⟩ := hW
  have hA : DataW.TrodAll enc Tryd.prog W 0 (fun _ => true) true Tryd.f14.params.toList args.toList ds p := hA0
  rw [Tryd.params14] at hA hval
  obtain ⟨v0, vs0, d0, ds0, p0, q0, hargs, rfl, rfl, h0, r0⟩ := trodAll_cons hA
  obtain ⟨rfl, rfl, rfl⟩ := trodAll_nil r0
  obtain rfl : args = #[v0] := by cases args; simp_all
  obtain ⟨rfl, rfl⟩ := trodVars_none hV
  have k0 := h0
  have lt0 : ∀ x ∈ p0, x.block < W.heap.size := by obtain ⟨m, hm⟩ := k0; exact DataW.trod_lt m _ _ _ hm
  obtain ⟨n0, b0⟩ := view_Suint8 (hval 0 56 v0 rfl rfl) h0
  clear hA0 hval0
  refine (walk v0 n0 W b0).mono fun e W' ⟨he, bel⟩ => ?_
  subst he
  exact ⟨_, rfl, _, _, _, [], _, [], hW', trodAll_mk1 (shut_bool Tryd.underlying4 _), (trodAll_cons_mk (Below.trod laidOut (by kernel_rfl) (of_decide_eq_true (by kernel_rfl)) k0 bel lt0) trodAll_mk0), rfl, bel.frame _, fun h => by cases h⟩
theorem reads (os : Os) {H : Type} (enc : TypeId × Value → H) : ∃ places, DataW.whole enc Tryd.prog ((doorW os).forCall (fun _ _ => 0) ⟨#[], #[.slice none 0 0], []⟩).memory Tryd.f14.params.toList Rows.fnLeaksSpec.vars false #[.slice none 0 0].toList 8 = some ([.nil], [], places) :=
  ⟨[], by kernel_rfl⟩
set_option maxRecDepth 100000 in
theorem lifted (os : Os) (started : os.Started) (H : Type) (enc : TypeId × Value → H) (F : Stop.Interp) :
    ReturnsInHanded {} Tryd.checked os 14 .any ((OpenSpec.ofChange Rows.fnLeaksSpec).preRow enc Tryd.prog Tryd.f14 Rows.fnLeaksRow.domain false Rows.fnLeaksRow.laid) (((OpenSpec.ofChange Rows.fnLeaksSpec).at F).post enc Tryd.prog Tryd.f14 false true false false) := by
  obtain ⟨places, hx⟩ := reads os enc
  refine returnsInHanded_of_row (C := Tryd.checked) (s := OpenSpec.ofChange Rows.fnLeaksSpec) own started (by kernel_rfl) Tryd.func14
    (witness_row_at (enc := enc) (C := Tryd.checked) false (doorW os) #[.slice none 0 0] rfl (door_shape os _) (door_rest os _) (by kernel_rfl)
      (OpenSpec.preRow_of_cond 8 hx (by kernel_rfl) (fun k hk => by cases hk) (by kernel_rfl) (door_met os _))) ?_
  intro W base args ds gs before hval hW _ _ _ hL _ _
  exact contract H enc W base args ds gs before hval hW hL
theorem said : Rows.FnLeaksSaid :=
  OpenClaim.holds_of_cond 14 Tryd.f14 rfl rfl rfl rfl rfl rfl rfl ⟨rfl, rfl, rfl, rfl, rfl⟩ rfl rfl rfl rfl rfl (by kernel_rfl) Tryd.func14 (by kernel_rfl)
    (of_decide_eq_true (by kernel_rfl)) (by unfold Func.isWrapper; first | (rw [if_pos (by decide +kernel)]; kernel_rfl) | (rw [if_neg (by decide +kernel)]; exact ⟨rfl, rfl⟩))
    (fun os started H enc _ F => by rw [OpenClaim.pre_eq_preRow]; exact lifted os started H enc F)
theorem plain (f : FuncId) (fn : Func) (hf : Tryd.pinned.checked.prog.funcNamed Rows.fnLeaksRow.func = some f) (hfn : Tryd.pinned.checked.prog.funcs[f]? = some fn) :
    false = Tryd.pinned.checked.prog.looks [] ∧ ∀ (j : Nat) t, fn.params[j]? = some t → Tryd.pinned.checked.prog.wantsStandIn t = false := by
  obtain rfl : f = 14 := Option.some.inj ((show Tryd.prog.funcNamed Rows.fnLeaksRow.func = some 14 by kernel_rfl).symm.trans hf) |>.symm
  obtain rfl : fn = Tryd.f14 := (Option.some.inj (Tryd.func14.symm.trans hfn)).symm
  refine ⟨by kernel_rfl, fun j t ht => ?_⟩
  rw [Tryd.params14] at ht
  obtain rfl : t = 56 := by simpa using Array.mem_of_getElem? ht
  exact (show Tryd.prog.wantsStandIn 56 = false by kernel_rfl)
theorem proved : Rows.FnLeaksCardSaid :=
  Claim7.holds_tied_plain_at .later [] _ _ _ _ said (fun _ h => by cases h) (by kernel_rfl) (fun _ h => by cases h) fnLeaks_row_tie rfl ⟨rfl, rfl⟩ (by kernel_rfl) rfl plain (by kernel_rfl)
#print axioms proved
end Go.Proofs.YtnhkejbgcjebmaaDoor.lawFnLeaks
