/- The law FnClues returns true, whatever its argument, and leaves it as it was. No condition beyond the row's own. -/
import Derived.Test.YtnhkejbgcjebmaaDoorClDF
import Derived.Test.YtnhkejbgcjebmaaDoorClueL
import Derived.Test.YtnhkejbgcjebmaaDoorTxL
import Derived.Test.YtnhkejbgcjebmaaDoorDoorW
import Derived.Deep.CutBlock
import Derived.Deep.RegionHeld3
import Derived.Deep.DrawnRows
import Derived.Test.YtnhkejbgcjebmaaDoorCards
import Derived.Test.YtnhkejbgcjebmaaDoorTie
import Derived.Test.YtnhkejbgcjebmaaDoorOpen
import Derived.Deep.DeepHandedRow
import Derived.LaidMore
import Derived.Deep.DeepLaidRun
import Derived.PinnedBridge
import Derived.OpenShut
import Derived.ChangeMaps5
namespace Go.Proofs.YtnhkejbgcjebmaaDoor.lawFnClues
open Go.ChangeShapes Go.WideShapes Go.ChangeAt Go.RowKit Go.Deep Go.Joins
open Go.ChangeMaps (open_string shut_string)
set_option linter.unusedVariables false
set_option linter.unusedSimpArgs false
open Go.Sort
attribute [local go_sem ↓] Go.wp_at_zero Go.wp_at_succ
theorem ne_self_b (b : Bool) : (b != b) = false := by cases b <;> rfl
set_option maxRecDepth 100000 in
set_option maxHeartbeats 8000000 in
theorem walk (v : Value) (n : Nat) (w : World) (h : SU w v n) :
    Calls Tryd.prog 13 #[v] w fun e w' => e = .returned (.bool true) ∧ Below w.heap.size w w' := by
  obtain ⟨A, cap, rfl⟩ := h.form
  have HS := Lib.hid h
  clear h
  by_cases hbig : 65536 < n
  · have hbig2 : decide (65536 < (n : Int)) = true := by simp; omega
    go_enter Tryd.func13, Tryd.ntmps13
    go_wp2_with fail
    refine (C_vBig _ n _ HS.out).mono ?_; rintro e w1 ⟨rfl, rfl⟩
    rw [hbig2]
    go_wp2_with fail
    go_ret
    exact ⟨rfl, Below.refl _ _⟩
  have hbig2 : decide (65536 < (n : Int)) = false := by simp; omega
  go_enter Tryd.func13, Tryd.ntmps13
  go_wp2_with fail
  refine (C_vBig _ n _ HS.out).mono ?_; rintro e w1 ⟨rfl, rfl⟩
  rw [hbig2]
  clear hbig hbig2
  go_wp2_with fail
  refine (C_DrawCandidates _ n _ HS.out).mono ?_; rintro e w1 ⟨u, m, f, a, b, s, t, rfl, hd, hs, ht, B⟩
  obtain ⟨UA, uc, rfl⟩ := hd.form
  obtain ⟨oc, hoc⟩ : ∃ z0, okC a b s t = z0 := ⟨_, rfl⟩
  obtain ⟨dd, hdd⟩ : ∃ z0, dictB m f = z0 := ⟨_, rfl⟩
  obtain ⟨ok, hok⟩ : ∃ z0, (dd && oc) = z0 := ⟨_, rfl⟩
  obtain ⟨L, hL⟩ : ∃ z0, candL m f a b s t = z0 := ⟨_, rfl⟩
  have hs63 : s.size ≤ 9223372036854775807 := by omega
  have ht63 : t.size ≤ 9223372036854775807 := by omega
  have C1 := Lib.hid (fun W (hW : DW W (.slice UA m uc) m f) => C_CandidatesI _ m f a b s t W hW.1 hW.s63 hs63 ht63)
  have C2 := Lib.hid (fun W (hW : DW W (.slice UA m uc) m f) => C_CandidatesS _ m f a b s t W hW.1 hW.s63 hs63 ht63)
  have C3 := Lib.hid (fun W (hW : DW W (.slice UA m uc) m f) => C_IsDictionary _ m f W hW.1 hW.s63)
  have C4 := Lib.hid (fun W (hW : DW W (.slice UA m uc) m f) => C_IsDictionaryS _ m f W hW.1 hW.s63)
  have C5 := Lib.hid (fun W => C_IsClue a b s t W hs63 ht63)
  have C6 := Lib.hid (fun W => C_IsClueS a b s t W hs63 ht63)
  rw [hdd, hoc, hok, hL] at C1 C2
  rw [hdd] at C3 C4
  rw [hoc] at C5 C6
  have HD1 := Lib.hid hd
  have B1 := Lib.hid B
  clear hd hoc hdd hok hL hs ht hs63 ht63 B
  obtain ⟨w2, hw3⟩ : ∃ w3, w3 = (w1).alloc (.cells #[.int .i64 a, .int .i64 b, .string s, .string t] 29) := ⟨_, rfl⟩; obtain ⟨g2, hg⟩ : ∃ g, g = (w1).heap.size := ⟨_, rfl⟩; have Rw2 := Lib.hid (show (w2).rowIs g2 29 4 (c4 a b s t) by (rw [hw3, hg]; exact row4_alloc w1 _ _ _ _ _)); have HB3 := Lib.hid (show Below (w1).heap.size w1 w2 by (rw [hw3]; exact bel_alloc0 (Below.refl _ _) _)); have HW3 := Lib.hid hw3.symm; have HG := Lib.hid hg.symm; clear hw3 hg
  have HD2 := Lib.hid (HD1.out.below HB3.out)
  have B2 := Lib.hid (bel_step0 HB3.out B1.out)
  go_upto_region 4 with fail
  rw [HW3.out, HG.out]
  clear HW3 HG HB3 HD1 B1
  have x0 := Rw2.out.cell (i := 0) (by omega); have x1 := Rw2.out.cell (i := 1) (by omega); have x2 := Rw2.out.cell (i := 2) (by omega); have x3 := Rw2.out.cell (i := 3) (by omega); simp only [c4, if_true, if_false, Nat.reduceEqDiff, reduceCtorEq] at x0 x1 x2 x3
  go_wp2_with fail
  refine (C1.out _ HD2.out).mono ?_; rintro e w3 ⟨v3, rfl, ht3, hb⟩
  have R3 := Lib.hid (Rw2.out.of_block (hb.block _ Rw2.out.lt))
  have HD3 := Lib.hid (HD2.out.below hb)
  have B3 := Lib.hid (bel_step0 hb B2.out)
  have T3 := Lib.hid ht3.ti
  obtain ⟨VA, vc, rfl⟩ : ∃ A c, v3 = .slice A L.length c := by obtain ⟨A, c, e, _⟩ := ht3; exact ⟨A, c, e⟩
  clear hb ht3 Rw2 HD2 B2 x0 x1 x2 x3 C1
  have x0 := R3.out.cell (i := 0) (by omega); have x1 := R3.out.cell (i := 1) (by omega); have x2 := R3.out.cell (i := 2) (by omega); have x3 := R3.out.cell (i := 3) (by omega); simp only [c4, if_true, if_false, Nat.reduceEqDiff, reduceCtorEq] at x0 x1 x2 x3
  go_wp2_with fail
  refine (C2.out _ HD3.out).mono ?_; rintro e w4 ⟨v4, rfl, ho4, hb⟩
  have R4 := Lib.hid (R3.out.of_block (hb.block _ R3.out.lt))
  have HD4 := Lib.hid (HD3.out.below hb)
  have B4 := Lib.hid (bel_step0 hb B3.out)
  have T34 := Lib.hid (T3.out.below hb)
  have T4 := Lib.hid ho4.wt.ti
  obtain ⟨VB, vb, rfl⟩ := ho4.form
  clear hb ho4 R3 HD3 B3 x0 x1 x2 x3 C2 T3
  go_upto_region 6 with fail
  go_cut [77] (fun s77 wx => s77 = .bool false ∧ Below w4.heap.size w4 wx)
  case first =>
    as_aux_lemma =>
      have hbb := ne_self_b ok
      have hb1 := ne_self_b dd
      have hb2 := ne_self_b oc
      have r0 : ∀ W, Below w4.heap.size w4 W → W.cell? ⟨g2, 0, none⟩ = some (.int .i64 a) := fun W hW => (hW.cell (p := ⟨g2, 0, none⟩) R4.out.lt).trans (R4.out.cell (i := 0) (by omega))
      have r1 : ∀ W, Below w4.heap.size w4 W → W.cell? ⟨g2, 1, none⟩ = some (.int .i64 b) := fun W hW => (hW.cell (p := ⟨g2, 1, none⟩) R4.out.lt).trans (R4.out.cell (i := 1) (by omega))
      have r2 : ∀ W, Below w4.heap.size w4 W → W.cell? ⟨g2, 2, none⟩ = some (.string s) := fun W hW => (hW.cell (p := ⟨g2, 2, none⟩) R4.out.lt).trans (R4.out.cell (i := 2) (by omega))
      have r3 : ∀ W, Below w4.heap.size w4 W → W.cell? ⟨g2, 3, none⟩ = some (.string t) := fun W hW => (hW.cell (p := ⟨g2, 3, none⟩) R4.out.lt).trans (R4.out.cell (i := 3) (by omega))
      go_region_held3 (fun W => Below w4.heap.size w4 W) (((repeat (first | with_reducible exact Below.refl _ _ | with_reducible exact below_regrown _ _ _ | with_reducible refine bel_step0 (by assumption) ?_ | with_reducible refine bel_alloc0 ?_ _ | with_reducible refine bel_regrown0 ?_ _ _ | with_reducible refine bel_regrown ?_ (by first | omega | (simp; done) | (simp; omega)) _ _ | with_reducible refine below_drewN ?_ _ | with_reducible refine Below.drew ?_ | with_reducible refine Below.alloc ?_ (by first | omega | (simp; done) | (simp; omega)) _ | with_reducible refine Below.setCell ?_ (by first | omega | (simp; done) | (simp; omega)) _ | with_reducible refine bel_step (by assumption) (by first | omega | (simp; done) | (simp; omega)) ?_ | with_reducible refine bel_grown (by assumption) (by first | omega | (simp; done) | (simp; omega)) (by first | omega | (simp; done) | (simp; omega)) ?_)))) (first | (go_at_call 45; refine (C_vTexts _ _ _ _ _ (T34.out.below (by (repeat (first | with_reducible exact Below.refl _ _ | with_reducible exact below_regrown _ _ _ | with_reducible refine bel_step0 (by assumption) ?_ | with_reducible refine bel_alloc0 ?_ _ | with_reducible refine bel_regrown0 ?_ _ _ | with_reducible refine bel_regrown ?_ (by first | omega | (simp; done) | (simp; omega)) _ _ | with_reducible refine below_drewN ?_ _ | with_reducible refine Below.drew ?_ | with_reducible refine Below.alloc ?_ (by first | omega | (simp; done) | (simp; omega)) _ | with_reducible refine Below.setCell ?_ (by first | omega | (simp; done) | (simp; omega)) _ | with_reducible refine bel_step (by assumption) (by first | omega | (simp; done) | (simp; omega)) ?_ | with_reducible refine bel_grown (by assumption) (by first | omega | (simp; done) | (simp; omega)) (by first | omega | (simp; done) | (simp; omega)) ?_)))) (T4.out.below (by (repeat (first | with_reducible exact Below.refl _ _ | with_reducible exact below_regrown _ _ _ | with_reducible refine bel_step0 (by assumption) ?_ | with_reducible refine bel_alloc0 ?_ _ | with_reducible refine bel_regrown0 ?_ _ _ | with_reducible refine bel_regrown ?_ (by first | omega | (simp; done) | (simp; omega)) _ _ | with_reducible refine below_drewN ?_ _ | with_reducible refine Below.drew ?_ | with_reducible refine Below.alloc ?_ (by first | omega | (simp; done) | (simp; omega)) _ | with_reducible refine Below.setCell ?_ (by first | omega | (simp; done) | (simp; omega)) _ | with_reducible refine bel_step (by assumption) (by first | omega | (simp; done) | (simp; omega)) ?_ | with_reducible refine bel_grown (by assumption) (by first | omega | (simp; done) | (simp; omega)) (by first | omega | (simp; done) | (simp; omega)) ?_))))).mono ?_; rintro e wa ⟨rfl, hb⟩) | (go_at_call 27; refine (C3.out _ (HD4.out.below (by (repeat (first | with_reducible exact Below.refl _ _ | with_reducible exact below_regrown _ _ _ | with_reducible refine bel_step0 (by assumption) ?_ | with_reducible refine bel_alloc0 ?_ _ | with_reducible refine bel_regrown0 ?_ _ _ | with_reducible refine bel_regrown ?_ (by first | omega | (simp; done) | (simp; omega)) _ _ | with_reducible refine below_drewN ?_ _ | with_reducible refine Below.drew ?_ | with_reducible refine Below.alloc ?_ (by first | omega | (simp; done) | (simp; omega)) _ | with_reducible refine Below.setCell ?_ (by first | omega | (simp; done) | (simp; omega)) _ | with_reducible refine bel_step (by assumption) (by first | omega | (simp; done) | (simp; omega)) ?_ | with_reducible refine bel_grown (by assumption) (by first | omega | (simp; done) | (simp; omega)) (by first | omega | (simp; done) | (simp; omega)) ?_))))).mono ?_; rintro e wa ⟨rfl, hb⟩) | (go_at_call 25; refine (C4.out _ (HD4.out.below (by (repeat (first | with_reducible exact Below.refl _ _ | with_reducible exact below_regrown _ _ _ | with_reducible refine bel_step0 (by assumption) ?_ | with_reducible refine bel_alloc0 ?_ _ | with_reducible refine bel_regrown0 ?_ _ _ | with_reducible refine bel_regrown ?_ (by first | omega | (simp; done) | (simp; omega)) _ _ | with_reducible refine below_drewN ?_ _ | with_reducible refine Below.drew ?_ | with_reducible refine Below.alloc ?_ (by first | omega | (simp; done) | (simp; omega)) _ | with_reducible refine Below.setCell ?_ (by first | omega | (simp; done) | (simp; omega)) _ | with_reducible refine bel_step (by assumption) (by first | omega | (simp; done) | (simp; omega)) ?_ | with_reducible refine bel_grown (by assumption) (by first | omega | (simp; done) | (simp; omega)) (by first | omega | (simp; done) | (simp; omega)) ?_))))).mono ?_; rintro e wa ⟨rfl, hb⟩) | (go_at_call 20; refine (C5.out _).mono ?_; rintro e wa ⟨rfl, hb⟩) | (go_at_call 18; refine (C6.out _).mono ?_; rintro e wa ⟨rfl, hb⟩))
      all_goals
        go_wp2_with fail
        go_meet
        exact ⟨rfl, by (repeat (first | with_reducible exact Below.refl _ _ | with_reducible exact below_regrown _ _ _ | with_reducible refine bel_step0 (by assumption) ?_ | with_reducible refine bel_alloc0 ?_ _ | with_reducible refine bel_regrown0 ?_ _ _ | with_reducible refine bel_regrown ?_ (by first | omega | (simp; done) | (simp; omega)) _ _ | with_reducible refine below_drewN ?_ _ | with_reducible refine Below.drew ?_ | with_reducible refine Below.alloc ?_ (by first | omega | (simp; done) | (simp; omega)) _ | with_reducible refine Below.setCell ?_ (by first | omega | (simp; done) | (simp; omega)) _ | with_reducible refine bel_step (by assumption) (by first | omega | (simp; done) | (simp; omega)) ?_ | with_reducible refine bel_grown (by assumption) (by first | omega | (simp; done) | (simp; omega)) (by first | omega | (simp; done) | (simp; omega)) ?_))⟩
  case rest =>
    as_aux_lemma =>
      rename World => wx
      obtain ⟨rfl, hbx⟩ := hcut
      have B5 := Lib.hid (bel_step0 hbx B4.out)
      clear hbx R4 HD4 B4 T34 T4 C3 C4 C5 C6
      go_wp2_with fail
      refine (C_DrawIsSafeClue _ n _ (HS.out.below B5.out)).mono ?_; rintro e w6 ⟨u, m, f, a, b, s, t, k, rfl, hd, hs, ht, hk, hb⟩
      obtain ⟨UA, uc, rfl⟩ := hd.form
      obtain ⟨oc, hoc⟩ : ∃ z0, (dictB m f && okC a b s t) = z0 := ⟨_, rfl⟩
      obtain ⟨told, htold⟩ : ∃ z0, (oc && within k 1 12) = z0 := ⟨_, rfl⟩
      obtain ⟨cc, hcc⟩ : ∃ z0 : Nat, (cntB m fun j => fitB a b s t (f j)) = z0 := ⟨_, rfl⟩
      obtain ⟨safe, hsafe⟩ : ∃ z0, (told && decide (k ≤ (cc : Int))) = z0 := ⟨_, rfl⟩
      obtain ⟨L, hL⟩ : ∃ z0, candL m f a b s t = z0 := ⟨_, rfl⟩
      have hs63 : s.size ≤ 9223372036854775807 := by omega
      have ht63 : t.size ≤ 9223372036854775807 := by omega
      have C1 := Lib.hid (fun W (hW : DW W (.slice UA m uc) m f) => C_IsSafeClueI _ m f a b s t k W hW.1 hW.s63 hs63 ht63)
      have C2 := Lib.hid (fun W (hW : DW W (.slice UA m uc) m f) => C_IsSafeClueS _ m f a b s t k W hW.1 hW.s63 hs63 ht63)
      have C3 := Lib.hid (fun W (hW : DW W (.slice UA m uc) m f) => C_CandidatesI _ m f a b s t W hW.1 hW.s63 hs63 ht63)
      rw [hoc, htold, hcc, hsafe] at C1 C2
      rw [hoc, hL] at C3
      have hone : told = true → oc = true ∧ L.length = cc := fun e => by
        rw [e, Bool.and_eq_true] at htold
        refine ⟨htold.1, ?_⟩
        rw [← hL, ← hcc]
        unfold candL
        rw [show (dictB m f && okC a b s t) = true from hoc.trans htold.1, if_pos rfl, pickT_length]
      have HONE := Lib.hid hone
      have HSF := Lib.hid hsafe
      have HD6 := Lib.hid hd
      have B6 := Lib.hid (bel_step0 hb B5.out)
      clear hd hoc htold hcc hsafe hL hs ht hs63 ht63 hone hb B5 hk
      obtain ⟨w7, hw3⟩ : ∃ w3, w3 = (w6).alloc (.cells #[.int .i64 a, .int .i64 b, .string s, .string t] 29) := ⟨_, rfl⟩; obtain ⟨g7, hg⟩ : ∃ g, g = (w6).heap.size := ⟨_, rfl⟩; have Rw7 := Lib.hid (show (w7).rowIs g7 29 4 (c4 a b s t) by (rw [hw3, hg]; exact row4_alloc w6 _ _ _ _ _)); have HB3 := Lib.hid (show Below (w6).heap.size w6 w7 by (rw [hw3]; exact bel_alloc0 (Below.refl _ _) _)); have HW3 := Lib.hid hw3.symm; have HG := Lib.hid hg.symm; clear hw3 hg
      have HD7 := Lib.hid (HD6.out.below HB3.out)
      have B7 := Lib.hid (bel_step0 HB3.out B6.out)
      go_upto_region 9 with fail
      rw [HW3.out, HG.out]
      clear HW3 HG HB3 HD6 B6
      have x0 := Rw7.out.cell (i := 0) (by omega); have x1 := Rw7.out.cell (i := 1) (by omega); have x2 := Rw7.out.cell (i := 2) (by omega); have x3 := Rw7.out.cell (i := 3) (by omega); simp only [c4, if_true, if_false, Nat.reduceEqDiff, reduceCtorEq] at x0 x1 x2 x3
      go_wp2_with fail
      refine (C1.out _ HD7.out).mono ?_; rintro e w8 ⟨rfl, hb⟩
      have R8 := Lib.hid (Rw7.out.of_block (hb.block _ Rw7.out.lt))
      have HD8 := Lib.hid (HD7.out.below hb)
      have B8 := Lib.hid (bel_step0 hb B7.out)
      clear hb Rw7 HD7 B7 x0 x1 x2 x3 C1
      have x0 := R8.out.cell (i := 0) (by omega); have x1 := R8.out.cell (i := 1) (by omega); have x2 := R8.out.cell (i := 2) (by omega); have x3 := R8.out.cell (i := 3) (by omega); simp only [c4, if_true, if_false, Nat.reduceEqDiff, reduceCtorEq] at x0 x1 x2 x3
      go_wp2_with fail
      refine (C2.out _ HD8.out).mono ?_; rintro e w9 ⟨rfl, hb⟩
      have R9 := Lib.hid (R8.out.of_block (hb.block _ R8.out.lt))
      have HD9 := Lib.hid (HD8.out.below hb)
      have B9 := Lib.hid (bel_step0 hb B8.out)
      have hb1 := ne_self_b safe
      have hb2 := ne_self_b told
      clear hb R8 HD8 B8 x0 x1 x2 x3 C2
      go_upto_if 106 with fail
      clear hb1 hb2
      go_cut [16, 17] (fun s16 s17 wx => Below w9.heap.size w9 wx)
      case first =>
        as_aux_lemma =>
          cases told
          · go_wp2_with fail
            go_meet
            exact Below.refl _ _
          · obtain ⟨rfl, h2⟩ := HONE.out rfl
            subst h2
            have hsf : decide (k ≤ (L.length : Int)) = safe := HSF.out
            have HSF2 := Lib.hid hsf
            have x0 := R9.out.cell (i := 0) (by omega); have x1 := R9.out.cell (i := 1) (by omega); have x2 := R9.out.cell (i := 2) (by omega); have x3 := R9.out.cell (i := 3) (by omega); simp only [c4, if_true, if_false, Nat.reduceEqDiff, reduceCtorEq] at x0 x1 x2 x3
            clear hsf HONE HSF
            go_wp2_with fail
            refine (C3.out _ HD9.out).mono ?_; rintro e w10 ⟨v3, rfl, ht3, hb⟩
            obtain ⟨VA, vc, rfl⟩ : ∃ A c, v3 = .slice A L.length c := by obtain ⟨A, c, e, _⟩ := ht3; exact ⟨A, c, e⟩
            have HB := Lib.hid hb
            clear hb ht3 x0 x1 x2 x3 C3
            have hbb := ne_self_b safe
            cases hsl : decide (k ≤ (L.length : Int))
            · have e1 : safe = false := by rw [← HSF2.out, hsl]
              subst e1
              clear HSF2 hbb
              go_wp2_with fail
              go_meet
              exact HB.out
            · have e1 : safe = true := by rw [← HSF2.out, hsl]
              subst e1
              clear HSF2 hbb
              go_wp2_with fail
              go_meet
              exact HB.out
      case rest =>
        as_aux_lemma =>
          rename World => wx
          have B10 := Lib.hid (bel_step0 hcut B9.out)
          clear hcut B9 R9 HD9 C3 HONE HSF
          go_wp2_with fail
          refine (C_DrawIndexClue _ n _ (HS.out.below B10.out)).mono ?_; rintro e w11 ⟨u, m, f, y, rfl, hd, hy, hb⟩
          obtain ⟨UA, uc, rfl⟩ := hd.form
          obtain ⟨fine, hfine⟩ : ∃ z0, (dictB m f && wordB y) = z0 := ⟨_, rfl⟩
          have hy63 : y.size ≤ 9223372036854775807 := by omega
          have hy20 : y.size ≤ 1048576 := by omega
          have C1 := fun W (hW : DW W (.slice UA m uc) m f) => C_IndexClueI _ m f y W hW.1 hW.s63 hy63
          have C2 := fun W (hW : DW W (.slice UA m uc) m f) => C_IndexClueS _ m f y W hW.1 hW.s63 hy63
          have C4 := Lib.hid (fun W => C_LengthClueI y W hy20)
          rw [hfine] at C1 C2
          obtain ⟨P, hP⟩ : ∃ z0, (if fine then aftM f y m else (⟨#[]⟩ : ByteArray)) = z0 := ⟨_, rfl⟩
          obtain ⟨Q, hQ⟩ : ∃ z0, (if fine then befM f y m else (⟨#[]⟩ : ByteArray)) = z0 := ⟨_, rfl⟩
          rw [hP, hQ] at C1 C2
          have C1 := Lib.hid C1
          have C2 := Lib.hid C2
          have HP := Lib.hid (And.intro hP (And.intro hQ hfine))
          have HY := Lib.hid hy20
          have HD11 := Lib.hid hd
          have B11 := Lib.hid (bel_step0 hb B10.out)
          clear hd hfine hy hb B10 hP hQ hy63 hy20
          go_wp2_with fail
          refine (C1.out _ HD11.out).mono ?_; rintro e w12 ⟨rfl, hb⟩
          have HD12 := Lib.hid (HD11.out.below hb)
          have B12 := Lib.hid (bel_step0 hb B11.out)
          clear hb HD11 B11 C1
          obtain ⟨w13, hw3⟩ : ∃ w3, w3 = (w12).alloc (.cells #[.int .i64 0, .int .i64 0, .string P, .string Q] 29) := ⟨_, rfl⟩; obtain ⟨g13, hg⟩ : ∃ g, g = (w12).heap.size := ⟨_, rfl⟩; have Rw13 := Lib.hid (show (w13).rowIs g13 29 4 (c4 0 0 P Q) by (rw [hw3, hg]; exact row4_alloc w12 _ _ _ _ _)); have HB3 := Lib.hid (show Below (w12).heap.size w12 w13 by (rw [hw3]; exact bel_alloc0 (Below.refl _ _) _)); have HW3 := Lib.hid hw3.symm; have HG := Lib.hid hg.symm; clear hw3 hg
          have HD13 := Lib.hid (HD12.out.below HB3.out)
          have B13 := Lib.hid (bel_step0 HB3.out B12.out)
          go_upto_region 19 with fail
          rw [HW3.out, HG.out]
          clear HW3 HG HB3 HD12 B12
          go_wp2_with fail
          refine (C2.out _ HD13.out).mono ?_; rintro e w14 ⟨rfl, hb⟩
          have R14 := Lib.hid (Rw13.out.of_block (hb.block _ Rw13.out.lt))
          have HD14 := Lib.hid (HD13.out.below hb)
          have B14 := Lib.hid (bel_step0 hb B13.out)
          clear hb Rw13 HD13 B13 C2
          obtain ⟨w15, hw3⟩ : ∃ w3, w3 = (w14).alloc (.cells #[.int .i64 0, .int .i64 0, .string P, .string Q] 29) := ⟨_, rfl⟩; obtain ⟨g15, hg⟩ : ∃ g, g = (w14).heap.size := ⟨_, rfl⟩; have Rw15 := Lib.hid (show (w15).rowIs g15 29 4 (c4 0 0 P Q) by (rw [hw3, hg]; exact row4_alloc w14 _ _ _ _ _)); have HB3 := Lib.hid (show Below (w14).heap.size w14 w15 by (rw [hw3]; exact bel_alloc0 (Below.refl _ _) _)); have HW3 := Lib.hid hw3.symm; have HG := Lib.hid hg.symm; clear hw3 hg
          have R15 := Lib.hid (R14.out.of_block (HB3.out.block _ R14.out.lt))
          have HD15 := Lib.hid (HD14.out.below HB3.out)
          have B15 := Lib.hid (bel_step0 HB3.out B14.out)
          go_upto_region 20 with fail
          rw [HW3.out, HG.out]
          clear HW3 HG HB3 HD14 B14 R14
          have x0 := R15.out.cell (i := 0) (by omega); have x1 := R15.out.cell (i := 1) (by omega); have x2 := R15.out.cell (i := 2) (by omega); have x3 := R15.out.cell (i := 3) (by omega); simp only [c4, if_true, if_false, Nat.reduceEqDiff, reduceCtorEq] at x0 x1 x2 x3
          have y0 := Rw15.out.cell (i := 0) (by omega); have y1 := Rw15.out.cell (i := 1) (by omega); have y2 := Rw15.out.cell (i := 2) (by omega); have y3 := Rw15.out.cell (i := 3) (by omega); simp only [c4, if_true, if_false, Nat.reduceEqDiff, reduceCtorEq] at y0 y1 y2 y3
          have hbb := ne_self_b fine
          go_upto_if 148 with fail
          clear hbb x0 x1 x2 x3 y0 y1 y2 y3 Rw15
          go_cut [24, 25, 26, 27, 28, 29, 30] (fun s24 s25 s26 s27 s28 s29 s30 wx => Below w15.heap.size w15 wx)
          case first =>
            as_aux_lemma =>
              cases fine
              · go_wp2_with fail
                go_meet
                exact Below.refl _ _
              · obtain ⟨h1, h2, h3⟩ := HP.out
                rw [if_pos rfl] at h1 h2
                rw [Bool.and_eq_true] at h3
                obtain ⟨hdd, hww⟩ := h3
                have f1 := idx_fact hdd hww
                have f2 := idx_ok (x := y) hdd
                have f3 := fun i (hi : i < m) (hx : f i = y) => len_fact hdd hi hx
                have f4 := len_ok hww
                rw [h1, h2] at f1 f2
                obtain ⟨L1, hL1⟩ : ∃ z0, candL m f 0 0 P Q = z0 := ⟨_, rfl⟩
                obtain ⟨L2, hL2⟩ : ∃ z0, candL m f y.size 0 ByteArray.empty ByteArray.empty = z0 := ⟨_, rfl⟩
                rw [hL1] at f1
                rw [hL2] at f3
                have sP : P.size ≤ 9223372036854775807 := by
                  rw [← h1]
                  rcases aft_cases f y m with e | ⟨j, _, e, _⟩
                  · rw [e]; exact Nat.zero_le _
                  · rw [e]; have := HD15.out.2.2 j; omega
                have sQ : Q.size ≤ 9223372036854775807 := by
                  rw [← h2]
                  rcases bef_cases f y m with e | ⟨j, _, e, _⟩
                  · rw [e]; exact Nat.zero_le _
                  · rw [e]; have := HD15.out.2.2 j; omega
                have D1 := fun W (hW : DW W (.slice UA m uc) m f) => C_CandidatesI _ m f 0 0 P Q W hW.1 hW.s63 sP sQ
                have D2 := fun W (hW : DW W (.slice UA m uc) m f) => C_CandidatesI _ m f y.size 0 ByteArray.empty ByteArray.empty W hW.1 hW.s63 (by decide) (by decide)
                have D3 := C4.out
                rw [hww, if_pos rfl] at D3
                rw [hdd, f2, hL1] at D1
                rw [hdd, f4, hL2] at D2
                have D1 := Lib.hid D1
                have D2 := Lib.hid D2
                have D3 := Lib.hid D3
                have HF := Lib.hid (And.intro f1 f3)
                have hl1 := f1.1
                clear f1 f2 f3 f4 hL1 hL2 h1 h2 hdd hww sP sQ HP C4
                have x0 := R15.out.cell (i := 0) (by omega); have x1 := R15.out.cell (i := 1) (by omega); have x2 := R15.out.cell (i := 2) (by omega); have x3 := R15.out.cell (i := 3) (by omega); simp only [c4, if_true, if_false, Nat.reduceEqDiff, reduceCtorEq] at x0 x1 x2 x3
                go_wp2_with fail
                refine (D1.out _ HD15.out).mono ?_; rintro e w16 ⟨v16, rfl, ht16, hb⟩
                have HD16 := Lib.hid (HD15.out.below hb)
                have B16 := Lib.hid hb
                have T16 := Lib.hid ht16.ti
                obtain ⟨VA, vc, rfl⟩ : ∃ A c, v16 = .slice A L1.length c := by obtain ⟨A, c, e, _⟩ := ht16; exact ⟨A, c, e⟩
                clear hb ht16 x0 x1 x2 x3 D1 R15 HD15
                go_wp2_with fail
                refine (D3.out _).mono ?_; rintro e w17 ⟨rfl, hb⟩
                have HD17 := Lib.hid (HD16.out.below hb)
                have B17 := Lib.hid (bel_step0 hb B16.out)
                have T17 := Lib.hid (T16.out.below hb)
                clear hb D3 HD16 B16 T16
                obtain ⟨w18, hw3⟩ : ∃ w3, w3 = (w17).alloc (.cells #[.int .i64 y.size, .int .i64 0, .string ByteArray.empty, .string ByteArray.empty] 29) := ⟨_, rfl⟩; obtain ⟨g18, hg⟩ : ∃ g, g = (w17).heap.size := ⟨_, rfl⟩; have Rw18 := Lib.hid (show (w18).rowIs g18 29 4 (c4 y.size 0 ByteArray.empty ByteArray.empty) by (rw [hw3, hg]; exact row4_alloc w17 _ _ _ _ _)); have HB3 := Lib.hid (show Below (w17).heap.size w17 w18 by (rw [hw3]; exact bel_alloc0 (Below.refl _ _) _)); have HW3 := Lib.hid hw3.symm; have HG := Lib.hid hg.symm; clear hw3 hg
                have HD18 := Lib.hid (HD17.out.below HB3.out)
                have B18 := Lib.hid (bel_step0 HB3.out B17.out)
                have T18 := Lib.hid (T17.out.below HB3.out)
                go_upto_region 25 with fail
                rw [HW3.out, HG.out]
                clear HW3 HG HB3 HD17 B17 T17
                have x0 := Rw18.out.cell (i := 0) (by omega); have x1 := Rw18.out.cell (i := 1) (by omega); have x2 := Rw18.out.cell (i := 2) (by omega); have x3 := Rw18.out.cell (i := 3) (by omega); simp only [c4, if_true, if_false, Nat.reduceEqDiff, reduceCtorEq] at x0 x1 x2 x3
                go_wp2_with fail
                refine (D2.out _ HD18.out).mono ?_; rintro e w19 ⟨v19, rfl, ht19, hb⟩
                have HD19 := Lib.hid (HD18.out.below hb)
                have B19 := Lib.hid (bel_step0 hb B18.out)
                have T19 := Lib.hid (T18.out.below hb)
                obtain ⟨VB, vb, rfl⟩ : ∃ A c, v19 = .slice A L2.length c := by obtain ⟨A, c, e, _⟩ := ht19; exact ⟨A, c, e⟩
                clear hb ht19 x0 x1 x2 x3 D2 Rw18 HD18 B18 T18
                go_wp2
                go_loop [30] (fun i => ∃ k : Nat, k ≤ m ∧ i = .int .i64 k) (fun i => m - (intOf i).toNat)
                case atStart => exact ⟨0, Nat.zero_le _, rfl⟩
                case round =>
                  obtain ⟨k, hk, rfl⟩ := hrel
                  by_cases hlt : k < m
                  · obtain ⟨A9, c9, e9, hr9, _⟩ := HD19.out.1
                    injection e9 with e9 _ e9c
                    subst e9 e9c
                    obtain ⟨b, off, rfl, hb, hcell⟩ := hr9 (by omega)
                    have hck := hcell k hlt
                    have hk0 : (0 : Int) ≤ (k : Int) := by omega
                    have hk1 : (k : Int) < (m : Int) := by omega
                    clear hcell hr9
                    cases heq : ((f k).toList == y.toList)
                    · go_wp2
                      go_round
                      case rel => exact ⟨k + 1, by omega, by go_num⟩
                      case measure => simp [intOf]; omega
                    · have hfy : f k = y := toList_inj (by simpa using heq)
                      obtain ⟨q1, q2⟩ := HF.out.1.2 k hlt hfy
                      have q3 := HF.out.2 k hlt hfy
                      obtain ⟨A8, c8, e8, hr8, _⟩ := T19.out
                      injection e8 with e8 _ e8c
                      subst e8 e8c
                      obtain ⟨b8, off8, rfl, hb8, hcell8⟩ := hr8 (by omega)
                      have hck8 := hcell8 0 (by omega)
                      rw [q2, Nat.add_zero] at hck8
                      have n1 : ((L1.length : Int) != 1) = false := by simp; omega
                      have n2 : ((L1.length : Int) == 1) = true := by simp; omega
                      have n3 : ((L2.length : Int) == 0) = false := by rw [beq_eq_false_iff_ne]; omega
                      have n4 : (0 : Int) < (L1.length : Int) := by omega
                      have n5 : 0 < L1.length := by omega
                      clear hcell8 hr8 q1 q2 q3 hfy hl1
                      go_wp2
                      go_round
                      case rel => exact ⟨k + 1, by omega, by go_num⟩
                      case measure => simp [intOf]; omega
                  · obtain rfl : k = m := by omega
                    go_wp2
                    go_meet
                    exact B19.out
          case rest =>
            as_aux_lemma =>
              rename World => wx
              have B20 := Lib.hid (bel_step0 hcut B15.out)
              clear hcut B15 R15 HD15 C4 HP
              go_wp2_with fail
              refine (C_DrawLengthClue _ n _ (HS.out.below B20.out)).mono ?_; rintro e w21 ⟨z, rfl, hz, hb⟩
              have hz20 : z.size ≤ 1048576 := by omega
              have C1 := fun W => C_LengthClueI z W hz20
              have C2 := fun W => C_LengthClueS z W hz20
              obtain ⟨known, hkn⟩ : ∃ z0, wordB z = z0 := ⟨_, rfl⟩
              obtain ⟨q, hq⟩ : ∃ z0 : Int, (if known then (z.size : Int) else 0) = z0 := ⟨_, rfl⟩
              rw [hkn, hq] at C1 C2
              have C1 := Lib.hid C1
              have C2 := Lib.hid C2
              have B21 := Lib.hid (bel_step0 hb B20.out)
              clear hz hz20 hkn hq hb B20
              go_wp2_with fail
              refine (C1.out _).mono ?_; rintro e w22 ⟨rfl, hb⟩
              have B22 := Lib.hid (bel_step0 hb B21.out)
              clear hb B21 C1
              obtain ⟨w23, hw3⟩ : ∃ w3, w3 = (w22).alloc (.cells #[.int .i64 q, .int .i64 0, .string ByteArray.empty, .string ByteArray.empty] 29) := ⟨_, rfl⟩; obtain ⟨g23, hg⟩ : ∃ g, g = (w22).heap.size := ⟨_, rfl⟩; have Rw23 := Lib.hid (show (w23).rowIs g23 29 4 (c4 q 0 ByteArray.empty ByteArray.empty) by (rw [hw3, hg]; exact row4_alloc w22 _ _ _ _ _)); have HB3 := Lib.hid (show Below (w22).heap.size w22 w23 by (rw [hw3]; exact bel_alloc0 (Below.refl _ _) _)); have HW3 := Lib.hid hw3.symm; have HG := Lib.hid hg.symm; clear hw3 hg
              have B23 := Lib.hid (bel_step0 HB3.out B22.out)
              go_upto_region 35 with fail
              rw [HW3.out, HG.out]
              clear HW3 HG HB3 B22
              go_wp2_with fail
              refine (C2.out _).mono ?_; rintro e w24 ⟨rfl, hb⟩
              have R24 := Lib.hid (Rw23.out.of_block (hb.block _ Rw23.out.lt))
              have B24 := Lib.hid (bel_step0 hb B23.out)
              clear hb B23 C2 Rw23
              obtain ⟨w25, hw3⟩ : ∃ w3, w3 = (w24).alloc (.cells #[.int .i64 q, .int .i64 0, .string ByteArray.empty, .string ByteArray.empty] 29) := ⟨_, rfl⟩; obtain ⟨g25, hg⟩ : ∃ g, g = (w24).heap.size := ⟨_, rfl⟩; have Rw25 := Lib.hid (show (w25).rowIs g25 29 4 (c4 q 0 ByteArray.empty ByteArray.empty) by (rw [hw3, hg]; exact row4_alloc w24 _ _ _ _ _)); have HB3 := Lib.hid (show Below (w24).heap.size w24 w25 by (rw [hw3]; exact bel_alloc0 (Below.refl _ _) _)); have HW3 := Lib.hid hw3.symm; have HG := Lib.hid hg.symm; clear hw3 hg
              have R25 := Lib.hid (R24.out.of_block (HB3.out.block _ R24.out.lt))
              have B25 := Lib.hid (bel_step0 HB3.out B24.out)
              go_upto_region 36 with fail
              rw [HW3.out, HG.out]
              clear HW3 HG HB3 B24 R24
              have x0 := R25.out.cell (i := 0) (by omega); have x1 := R25.out.cell (i := 1) (by omega); have x2 := R25.out.cell (i := 2) (by omega); have x3 := R25.out.cell (i := 3) (by omega); simp only [c4, if_true, if_false, Nat.reduceEqDiff, reduceCtorEq] at x0 x1 x2 x3
              have y0 := Rw25.out.cell (i := 0) (by omega); have y1 := Rw25.out.cell (i := 1) (by omega); have y2 := Rw25.out.cell (i := 2) (by omega); have y3 := Rw25.out.cell (i := 3) (by omega); simp only [c4, if_true, if_false, Nat.reduceEqDiff, reduceCtorEq] at y0 y1 y2 y3
              have hbb : (known == known) = true := by simp
              go_wp2_with fail
              go_ret
              exact ⟨rfl, B25.out⟩
set_option maxRecDepth 100000 in
theorem contract (H : Type) (enc : TypeId × Value → H) (W : World) (base : Nat) (args : Array Value) (ds gs : List (DataW H)) (before : List MemPlace)
    (hval0 : ∀ (j : Nat) t v, Tryd.f13.params[j]? = some t → args[j]? = some v → Value.okWide Tryd.prog W .any base t v)
    (hW : DataW.Whole enc Tryd.prog Tryd.f13.params.toList Rows.fnCluesSpec.vars false W args.toList ds gs before) (hL : laidMetH Tryd.prog Rows.fnCluesRow.laid W) :
    Calls Tryd.prog 13 args W fun e W' => ∃ v, e = .returned v ∧ Rows.fnCluesSpec.post enc Tryd.prog Tryd.f13 false true false false W args v W' := by
  have hval : ∀ (j : Nat) t v, Tryd.f13.params[j]? = some t → args[j]? = some v → Value.okWide Tryd.prog W .any base t v := hval0
  have hW' := hW
  obtain ⟨p, q, hA0, hV, rfl, hfz, hnd⟩ := hW
  have hA : DataW.TrodAll enc Tryd.prog W 0 (fun _ => true) true Tryd.f13.params.toList args.toList ds p := hA0
  rw [Tryd.params13] at hA hval
  obtain ⟨v0, vs0, d0, ds0, p0, q0, hargs, rfl, rfl, h0, r0⟩ := trodAll_cons hA
  obtain ⟨rfl, rfl, rfl⟩ := trodAll_nil r0
  obtain rfl : args = #[v0] := by cases args; simp_all
  obtain ⟨rfl, rfl⟩ := trodVars_none hV
  have k0 := h0
  have lt0 : ∀ x ∈ p0, x.block < W.heap.size := by obtain ⟨m, hm⟩ := k0; exact DataW.trod_lt m _ _ _ hm
  obtain ⟨n0, b0⟩ := view_Suint8 (hval 0 56 v0 rfl rfl) h0
  clear hA0 hval0
  refine (walk v0 n0 W b0).mono fun e W' ⟨he, bel⟩ => ?_
  subst he
  exact ⟨_, rfl, _, _, _, [], _, [], hW', trodAll_mk1 (shut_bool Tryd.underlying4 _), (trodAll_cons_mk (Below.trod laidOut (by kernel_rfl) (of_decide_eq_true (by kernel_rfl)) k0 bel lt0) trodAll_mk0), rfl, bel.frame _, fun h => by cases h⟩
theorem reads (os : Os) {H : Type} (enc : TypeId × Value → H) : ∃ places, DataW.whole enc Tryd.prog ((doorW os).forCall (fun _ _ => 0) ⟨#[], #[.slice none 0 0], []⟩).memory Tryd.f13.params.toList Rows.fnCluesSpec.vars false #[.slice none 0 0].toList 8 = some ([.nil], [], places) :=
  ⟨[], by kernel_rfl⟩
set_option maxRecDepth 100000 in
theorem lifted (os : Os) (started : os.Started) (H : Type) (enc : TypeId × Value → H) (F : Stop.Interp) :
    ReturnsInHanded {} Tryd.checked os 13 .any ((OpenSpec.ofChange Rows.fnCluesSpec).preRow enc Tryd.prog Tryd.f13 Rows.fnCluesRow.domain false Rows.fnCluesRow.laid) (((OpenSpec.ofChange Rows.fnCluesSpec).at F).post enc Tryd.prog Tryd.f13 false true false false) := by
  obtain ⟨places, hx⟩ := reads os enc
  refine returnsInHanded_of_row (C := Tryd.checked) (s := OpenSpec.ofChange Rows.fnCluesSpec) own started (by kernel_rfl) Tryd.func13
    (witness_row_at (enc := enc) (C := Tryd.checked) false (doorW os) #[.slice none 0 0] rfl (door_shape os _) (door_rest os _) (by kernel_rfl)
      (OpenSpec.preRow_of_cond 8 hx (by kernel_rfl) (fun k hk => by cases hk) (by kernel_rfl) (door_met os _))) ?_
  intro W base args ds gs before hval hW _ _ _ hL _ _
  exact contract H enc W base args ds gs before hval hW hL
theorem said : Rows.FnCluesSaid :=
  OpenClaim.holds_of_cond 13 Tryd.f13 rfl rfl rfl rfl rfl rfl rfl ⟨rfl, rfl, rfl, rfl, rfl⟩ rfl rfl rfl rfl rfl (by kernel_rfl) Tryd.func13 (by kernel_rfl)
    (of_decide_eq_true (by kernel_rfl)) (by unfold Func.isWrapper; first | (rw [if_pos (by decide +kernel)]; kernel_rfl) | (rw [if_neg (by decide +kernel)]; exact ⟨rfl, rfl⟩))
    (fun os started H enc _ F => by rw [OpenClaim.pre_eq_preRow]; exact lifted os started H enc F)
theorem plain (f : FuncId) (fn : Func) (hf : Tryd.pinned.checked.prog.funcNamed Rows.fnCluesRow.func = some f) (hfn : Tryd.pinned.checked.prog.funcs[f]? = some fn) :
    false = Tryd.pinned.checked.prog.looks [] ∧ ∀ (j : Nat) t, fn.params[j]? = some t → Tryd.pinned.checked.prog.wantsStandIn t = false := by
  obtain rfl : f = 13 := Option.some.inj ((show Tryd.prog.funcNamed Rows.fnCluesRow.func = some 13 by kernel_rfl).symm.trans hf) |>.symm
  obtain rfl : fn = Tryd.f13 := (Option.some.inj (Tryd.func13.symm.trans hfn)).symm
  refine ⟨by kernel_rfl, fun j t ht => ?_⟩
  rw [Tryd.params13] at ht
  obtain rfl : t = 56 := by simpa using Array.mem_of_getElem? ht
  exact (show Tryd.prog.wantsStandIn 56 = false by kernel_rfl)
theorem proved : Rows.FnCluesCardSaid :=
  Claim7.holds_tied_plain_at .later [] _ _ _ _ said (fun _ h => by cases h) (by kernel_rfl) (fun _ h => by cases h) fnClues_row_tie rfl ⟨rfl, rfl⟩ (by kernel_rfl) rfl plain (by kernel_rfl)
#print axioms proved
end Go.Proofs.YtnhkejbgcjebmaaDoor.lawFnClues
