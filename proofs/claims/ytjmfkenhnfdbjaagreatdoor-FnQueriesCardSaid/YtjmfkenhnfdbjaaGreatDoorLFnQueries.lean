/- The law FnQueries returns true, whatever its argument, and leaves it as it was. No condition beyond the row's own. -/
import Derived.Test.YtjmfkenhnfdbjaaGreatDoorPackC
import Derived.Test.YtjmfkenhnfdbjaaGreatDoorPackB
import Derived.Test.YtjmfkenhnfdbjaaGreatDoorDoorW
import Derived.Deep.CutBlock
import Derived.Deep.DeepCutAuto
import Derived.Test.YtjmfkenhnfdbjaaGreatDoorCards
import Derived.Test.YtjmfkenhnfdbjaaGreatDoorTie
import Derived.Test.YtjmfkenhnfdbjaaGreatDoorOpen
import Derived.Deep.DeepHandedRow
import Derived.LaidMore
import Derived.Deep.DeepLaidRun
import Derived.PinnedBridge
import Derived.OpenShut
import Derived.ChangeMaps5
namespace Go.Proofs.YtjmfkenhnfdbjaaGreatDoor.lawFnQueries
open Go.ChangeShapes Go.WideShapes Go.ChangeAt Go.RowKit Go.Deep Go.Joins
open Go.ChangeMaps (open_string shut_string)
set_option linter.unusedVariables false
open Go.Sort
theorem not_facts {s : ByteArray} {R : Rc} (h : nqOk s = true) : (nqS s).size ≤ 1000 ∧ nqS s = notT s ∧ goodQ s = true ∧ goodQ (notT s) = true := by
  have h2 := h
  unfold nqOk at h2
  rw [Bool.and_eq_true] at h2
  have e : nqS s = notT s := by unfold nqS; rw [if_pos h]
  have := good_len h2.2
  exact ⟨by rw [e]; omega, e, h2.1, h2.2⟩
theorem not_dm {s : ByteArray} {R : Rc} (h : nqOk s = true) (hk : dmOk s R = true) : dmOk (nqS s) R = true ∧ dmV (nqS s) R = !dmV s R := by
  obtain ⟨_, e, h1, h2⟩ := not_facts (R := R) h
  have hr : recOk R = true := by unfold dmOk at hk; rw [Bool.and_eq_true] at hk; exact hk.2
  have k2 : dmOk (notT s) R = true := by unfold dmOk; rw [h2, hr]; rfl
  rw [e]
  refine ⟨k2, ?_⟩
  unfold dmV
  rw [hk, k2, mtch_not h1 h2]; rfl
theorem both_facts {a b : ByteArray} (h : bothOk a b = true) : (bothS a b).size ≤ 1000 ∧ bothS a b = bothT a b ∧ goodQ a = true ∧ goodQ b = true ∧ goodQ (bothT a b) = true := by
  have h2 := h
  unfold bothOk at h2
  rw [Bool.and_eq_true, Bool.and_eq_true] at h2
  have e : bothS a b = bothT a b := by unfold bothS; rw [if_pos h]
  have := good_len h2.2.2
  exact ⟨by rw [e]; omega, e, h2.1, h2.2.1, h2.2.2⟩
theorem both_dm {a b : ByteArray} {R : Rc} (h : bothOk a b = true) (hr : recOk R = true) : dmOk a R = true ∧ dmOk b R = true ∧ dmOk (bothS a b) R = true ∧ dmV (bothS a b) R = (dmV a R && dmV b R) := by
  obtain ⟨_, e, h1, h2, h3⟩ := both_facts h
  have k1 : dmOk a R = true := by unfold dmOk; rw [h1, hr]; rfl
  have k2 : dmOk b R = true := by unfold dmOk; rw [h2, hr]; rfl
  have k3 : dmOk (bothT a b) R = true := by unfold dmOk; rw [h3, hr]; rfl
  rw [e]
  refine ⟨k1, k2, k3, ?_⟩
  unfold dmV
  rw [k1, k2, k3, mtch_both h1 h2 h3]; rfl
theorem not_cnt {s : ByteArray} (h : nqOk s = true) : goodQ s = true ∧ goodQ (nqS s) = true ∧ cntQ (nqS s) = cntQ s ∧ depQ (nqS s) = depQ s + 1 ∧ depQ s ≤ 100 := by
  obtain ⟨_, e, h1, h2⟩ := not_facts (R := noRec) h
  rw [e]
  refine ⟨h1, h2, cnt_not h1 h2, dep_not h1 h2, ?_⟩
  obtain ⟨o, ho⟩ := good_some h1
  have hd := dep_scn ho
  have hb := scn_bd (bN s) s.size
  have hl := good_len h1
  rw [hd] at hb
  rw [dep_of ho]
  omega
set_option maxRecDepth 100000 in
set_option maxHeartbeats 16000000 in
theorem walk (v : Value) (n : Nat) (w : World) (h : SU w v n) (hk : Pk w) :
    Calls Tryz.prog 3 #[v] w fun e w' => e = .returned (.bool true) ∧ Below w.heap.size w w' := by
  obtain ⟨A, cap, rfl⟩ := h.form
  have HS := Lib.hid h
  have HK := Lib.hid hk
  clear h hk
  by_cases hbig : 65536 < n
  · have hbig2 : decide (65536 < (n : Int)) = true := by simp; omega
    go_enter Tryz.func3, Tryz.ntmps3
    go_wp2_with fail
    refine (C_vBig _ n _ HS.out).mono ?_; rintro e w1 ⟨rfl, rfl⟩
    rw [hbig2]
    go_wp2_with fail
    go_ret
    exact ⟨rfl, Below.refl _ _⟩
  have hbig2 : decide (65536 < (n : Int)) = false := by simp; omega
  go_enter Tryz.func3, Tryz.ntmps3
  go_wp2_with fail
  refine (C_vBig _ n _ HS.out).mono ?_; rintro e w1 ⟨rfl, rfl⟩
  rw [hbig2]
  clear hbig hbig2
  go_wp2_with fail
  refine (C_DrawDoesMatch _ n _ HS.out).mono ?_; rintro e w1 ⟨s, R, u, rfl, hs, hev, hb1⟩
  obtain ⟨UA, uc, hu, _⟩ := id hev
  subst hu
  obtain ⟨g, hg⟩ : ∃ g, g = w1.heap.size := ⟨_, rfl⟩
  obtain ⟨W1, hW1⟩ : ∃ W, W = w1.alloc (.cells #[.int .i64 R.id, .int .i64 R.ser, .int .i64 R.made, .slice UA R.n uc] 26) := ⟨_, rfl⟩
  have bW : Below w1.heap.size w1 W1 := by rw [hW1]; exact (Below.refl _ _).alloc (Nat.le_refl _) _
  have bx : Box W1 g R (.slice UA R.n uc) := by rw [hW1, hg]; exact ⟨cell_new _ _ _ _ _ rfl, cell_new _ _ _ _ _ rfl, cell_new _ _ _ _ _ rfl, cell_new _ _ _ _ _ rfl⟩
  have hzg : g < W1.heap.size := by rw [hW1, hg]; simp
  have B1 := Lib.hid (bel_step0 bW hb1)
  have V1 := Lib.hid (hev.below bW)
  have X1 := Lib.hid bx
  have HW1 := Lib.hid hW1.symm
  have HG := Lib.hid hg.symm
  have hs1 : s.size ≤ 1048576 := by omega
  obtain ⟨Y, hY⟩ : ∃ Y, dmV s R = Y := ⟨_, rfl⟩
  obtain ⟨K, hK⟩ : ∃ K, dmOk s R = K := ⟨_, rfl⟩
  obtain ⟨G, hG⟩ : ∃ G, goodQ s = G := ⟨_, rfl⟩
  obtain ⟨T, hT⟩ : ∃ T, nqS s = T := ⟨_, rfl⟩
  obtain ⟨N, hN⟩ : ∃ N, nqOk s = N := ⟨_, rfl⟩
  have CI := Lib.hid (fun (t : ByteArray) (ht : t.size ≤ 1048576) W (hW : Below w.heap.size w W) h => C_DoesMatchI R (.slice UA R.n uc) t ht W (HK.out.below hW) h)
  have C1 := Lib.hid (CI.out s hs1)
  have C2 := Lib.hid (fun W h => C_DoesMatchS R (.slice UA R.n uc) s hs1 W h)
  have C3 := Lib.hid (fun W (hW : Below w.heap.size w W) => C_IsQuery s hs1 W (HK.out.below hW))
  have C4 := Lib.hid (fun W => C_IsQueryS s hs1 W)
  have C5 := Lib.hid (fun W (hW : Below w.heap.size w W) => C_NegatedI s (by omega) W (HK.out.below hW))
  have C6 : Hid (K = true → N = true → ∀ W, Below w.heap.size w W → EvS W (.slice UA R.n uc) R → Calls Tryz.prog 7 #[.string T, .agg #[.int .i64 (R).id, .int .i64 (R).ser, .int .i64 (R).made, .slice UA R.n uc]] W fun e w' => e = .returned (.tuple #[.bool (!Y), .bool true]) ∧ Below W.heap.size W w') := Lib.hid fun h1 h2 W hW hv => by
    obtain ⟨f1, f2⟩ := not_dm (hN.trans h2) (hK.trans h1)
    have hz := (not_facts (R := R) (hN.trans h2)).1
    have := CI.out (nqS s) (by omega) W hW hv
    rw [f1, f2, hT, hY] at this
    exact this
  rw [hY, hK] at C1 C2
  rw [hG] at C3 C4
  rw [hT, hN] at C5
  obtain ⟨J, hJ⟩ : ∃ J, recOk R = J := ⟨_, rfl⟩
  have C7 := Lib.hid (fun W h => C_IsRecord R (.slice UA R.n uc) W h)
  rw [hJ] at C7
  have HJ := Lib.hid hJ
  clear hY hK hG hT hN hJ hW1 hg bx bW hb1 hev hs hs1
  go_upto_region 4 with fail
  rw [HW1.out, HG.out]
  clear HW1 HG
  obtain ⟨x0, x1, x2, x3⟩ := X1.out
  go_wp2_with fail
  refine (C1.out _ B1.out V1.out).mono ?_; rintro e w2 ⟨rfl, hb⟩
  have B2 := Lib.hid (bel_step0 hb B1.out)
  have V2 := Lib.hid (V1.out.below hb)
  have X2 := Lib.hid (X1.out.below hzg hb)
  have hzg2 : g < w2.heap.size := Nat.lt_of_lt_of_le hzg hb.size
  clear x0 x1 x2 x3
  clear hb B1 V1 X1 hzg C1
  obtain ⟨x0, x1, x2, x3⟩ := X2.out
  go_wp2_with fail
  refine (C2.out _ V2.out).mono ?_; rintro e w3 ⟨rfl, hb⟩
  have B3 := Lib.hid (bel_step0 hb B2.out)
  have V3 := Lib.hid (V2.out.below hb)
  have X3 := Lib.hid (X2.out.below hzg2 hb)
  have hzg3 : g < w3.heap.size := Nat.lt_of_lt_of_le hzg2 hb.size
  clear x0 x1 x2 x3
  clear hb B2 V2 X2 hzg2 C2
  go_wp2_with fail
  refine (C3.out _ B3.out).mono ?_; rintro e w4 ⟨rfl, hb4⟩
  have B4 := Lib.hid (bel_step0 hb4 B3.out)
  go_wp2_with fail
  refine (C4.out _).mono ?_; rintro e w5 ⟨rfl, hb5⟩
  have B5 := Lib.hid (bel_step0 hb5 B4.out)
  have V5 := Lib.hid ((V3.out.below hb4).below hb5)
  have hzg4 : g < w4.heap.size := Nat.lt_of_lt_of_le hzg3 hb4.size
  have X5 := Lib.hid ((X3.out.below hzg3 hb4).below hzg4 hb5)
  have hzg5 : g < w5.heap.size := Nat.lt_of_lt_of_le hzg4 hb5.size
  clear hb4 hb5 B3 B4 V3 X3 hzg3 hzg4 C3 C4
  go_upto_if 73 with fail
  go_cut [9, 10, 11, 12] (fun s9 s10 s11 s12 wx => Below w5.heap.size w5 wx)
  case first =>
    as_aux_lemma =>
      cases K
      · go_wp2_with fail
        go_meet
        exact Below.refl _ _
      · have C6 := Lib.hid (C6.out rfl)
        cases N
        · go_wp2_with fail
          refine (C5.out _ B5.out).mono ?_; rintro e w6 ⟨rfl, hb⟩
          go_wp2_with fail
          go_meet
          exact hb
        · have D6 := Lib.hid (C6.out rfl)
          clear C6
          go_wp2_with fail
          refine (C5.out _ B5.out).mono ?_; rintro e w6 ⟨rfl, hb⟩
          have B6 := Lib.hid (bel_step0 hb B5.out)
          have V6 := Lib.hid (V5.out.below hb)
          have X6 := Lib.hid (X5.out.below hzg5 hb)
          have F6 := Lib.hid hb
          clear hb
          obtain ⟨x0, x1, x2, x3⟩ := X6.out
          go_wp2_with fail
          refine (D6.out _ B6.out V6.out).mono ?_; rintro e w7 ⟨rfl, hb⟩
          have F7 := Lib.hid (bel_step0 hb F6.out)
          clear x0 x1 x2 x3
          clear hb
          cases Y
          all_goals
            go_wp2_with fail
            go_meet
            exact F7.out
  case rest =>
    as_aux_lemma =>
      rename World => wx
      have hbx := hcut
      have BX := Lib.hid (bel_step0 hbx B5.out)
      have VX := Lib.hid (V5.out.below hbx)
      have XX := Lib.hid (X5.out.below hzg5 hbx)
      have hzx : g < wx.heap.size := Nat.lt_of_lt_of_le hzg5 hbx.size
      clear hcut hbx B5 V5 X5 hzg5 C5 C6
      go_wp2_with fail
      refine (C_DrawBothQueries _ n _ (HS.out.below BX.out)).mono ?_; rintro e w6 ⟨a, b, rfl, ha, hb0, hb⟩
      have B6 := Lib.hid (bel_step0 hb BX.out)
      have V6 := Lib.hid (VX.out.below hb)
      have X6 := Lib.hid (XX.out.below hzx hb)
      have hzg6 : g < w6.heap.size := Nat.lt_of_lt_of_le hzx hb.size
      have ha1 : a.size ≤ 1048576 := by omega
      have hb1 : b.size ≤ 1048576 := by omega
      obtain ⟨S, hS⟩ : ∃ S, bothS a b = S := ⟨_, rfl⟩
      obtain ⟨O, hO⟩ : ∃ O, bothOk a b = O := ⟨_, rfl⟩
      obtain ⟨ya, hya⟩ : ∃ y, dmV a R = y := ⟨_, rfl⟩
      obtain ⟨yb, hyb⟩ : ∃ y, dmV b R = y := ⟨_, rfl⟩
      have C1 := Lib.hid (fun W (hW : Below w.heap.size w W) => C_BothQueriesI a b ha1 hb1 W (HK.out.below hW))
      have C2 := Lib.hid (fun W => C_BothQueriesS a b ha1 hb1 W)
      have C3 : Hid ((O && J) = true → (∀ W, Below w.heap.size w W → EvS W (.slice UA R.n uc) R → Calls Tryz.prog 7 #[.string a, .agg #[.int .i64 (R).id, .int .i64 (R).ser, .int .i64 (R).made, .slice UA R.n uc]] W fun e w' => e = .returned (.tuple #[.bool ya, .bool true]) ∧ Below W.heap.size W w') ∧
          (∀ W, Below w.heap.size w W → EvS W (.slice UA R.n uc) R → Calls Tryz.prog 7 #[.string b, .agg #[.int .i64 (R).id, .int .i64 (R).ser, .int .i64 (R).made, .slice UA R.n uc]] W fun e w' => e = .returned (.tuple #[.bool yb, .bool true]) ∧ Below W.heap.size W w') ∧
          (∀ W, Below w.heap.size w W → EvS W (.slice UA R.n uc) R → Calls Tryz.prog 7 #[.string S, .agg #[.int .i64 (R).id, .int .i64 (R).ser, .int .i64 (R).made, .slice UA R.n uc]] W fun e w' => e = .returned (.tuple #[.bool (ya && yb), .bool true]) ∧ Below W.heap.size W w')) := Lib.hid fun hh => by
        rw [Bool.and_eq_true] at hh
        obtain ⟨f1, f2, f3, f4⟩ := both_dm (hO.trans hh.1) (HJ.out.trans hh.2)
        have hz := (both_facts (hO.trans hh.1)).1
        refine ⟨fun W hW hv => ?_, fun W hW hv => ?_, fun W hW hv => ?_⟩
        · have := CI.out a ha1 W hW hv
          rw [f1, hya] at this
          exact this
        · have := CI.out b hb1 W hW hv
          rw [f2, hyb] at this
          exact this
        · have := CI.out (bothS a b) (by omega) W hW hv
          rw [f3, f4, hya, hyb, hS] at this
          exact this
      rw [hS, hO] at C1 C2
      clear hS hO hya hyb ha hb0 ha1 hb1 hb BX VX XX hzx CI
      go_wp2_with fail
      refine (C1.out _ B6.out).mono ?_; rintro e w7 ⟨rfl, hb⟩
      have B7 := Lib.hid (bel_step0 hb B6.out)
      have F7 := Lib.hid hb
      clear hb
      go_wp2_with fail
      refine (C2.out _).mono ?_; rintro e w8 ⟨rfl, hb⟩
      have B8 := Lib.hid (bel_step0 hb B7.out)
      have F8 := Lib.hid (bel_step0 hb F7.out)
      have V8 := Lib.hid (V6.out.below F8.out)
      have X8 := Lib.hid (X6.out.below hzg6 F8.out)
      have hzg8 : g < w8.heap.size := Nat.lt_of_lt_of_le hzg6 F8.out.size
      clear hb F7 F8 B6 B7 V6 X6 hzg6 C1 C2
      go_upto_region 19 with fail
      go_cut [122] (fun s122 wx => s122 = .bool (O && J) ∧ Below w8.heap.size w8 wx)
      case first =>
        as_aux_lemma =>
          cases O
          · go_wp2_with fail
            go_meet
            exact ⟨rfl, Below.refl _ _⟩
          · obtain ⟨x0, x1, x2, x3⟩ := X8.out
            go_wp2_with fail
            refine (C7.out _ V8.out).mono ?_; rintro e w9 ⟨rfl, hb⟩
            clear x0 x1 x2 x3
            go_wp2_with fail
            go_meet
            exact ⟨rfl, hb⟩
      case rest =>
        as_aux_lemma =>
          rename World => wy
          obtain ⟨rfl, hby⟩ := hcut
          have B9 := Lib.hid (bel_step0 hby B8.out)
          have V9 := Lib.hid (V8.out.below hby)
          have X9 := Lib.hid (X8.out.below hzg8 hby)
          have hzg9 : g < wy.heap.size := Nat.lt_of_lt_of_le hzg8 hby.size
          obtain ⟨z, hz⟩ : ∃ z, (O && J) = z := ⟨_, rfl⟩
          rw [hz] at C3 ⊢
          clear hz hby B8 V8 X8 hzg8 C7
          go_upto_if 122 with fail
          go_cut [19, 20, 21, 22, 23, 24] (fun s19 s20 s21 s22 s23 s24 wz => Below wy.heap.size wy wz)
          case first =>
            as_aux_lemma =>
              cases z
              · go_wp2_with fail
                go_meet
                exact Below.refl _ _
              · obtain ⟨D1, D2, D3⟩ := C3.out rfl
                have D1 := Lib.hid D1
                have D2 := Lib.hid D2
                have D3 := Lib.hid D3
                obtain ⟨x0, x1, x2, x3⟩ := X9.out
                go_wp2_with fail
                refine (D1.out _ B9.out V9.out).mono ?_; rintro e wa ⟨rfl, hb⟩
                have Fa := Lib.hid hb
                clear x0 x1 x2 x3
                have hza : g < wa.heap.size := Nat.lt_of_lt_of_le hzg9 hb.size
                clear hb D1
                obtain ⟨x0, x1, x2, x3⟩ := (X9.out.below hzg9 Fa.out)
                go_wp2_with fail
                refine (D2.out _ (bel_step0 Fa.out B9.out) (V9.out.below Fa.out)).mono ?_; rintro e wb ⟨rfl, hb⟩
                have Fb := Lib.hid (bel_step0 hb Fa.out)
                clear x0 x1 x2 x3
                clear hb D2 Fa hza
                obtain ⟨x0, x1, x2, x3⟩ := (X9.out.below hzg9 Fb.out)
                go_wp2_with fail
                refine (D3.out _ (bel_step0 Fb.out B9.out) (V9.out.below Fb.out)).mono ?_; rintro e wc ⟨rfl, hb⟩
                have Fc := Lib.hid (bel_step0 hb Fb.out)
                clear x0 x1 x2 x3
                clear hb D3 Fb
                cases ya
                all_goals
                  cases yb
                  all_goals
                    go_wp2_with fail
                    go_meet
                    exact Fc.out
          case rest =>
            as_aux_lemma =>
              rename World => wz
              have BZ := Lib.hid (bel_step0 hcut B9.out)
              clear hcut B9 V9 X9 hzg9 C3
              go_wp2_with fail
              refine (C_DrawNegatedQuery _ n _ (HS.out.below BZ.out)).mono ?_; rintro e wa ⟨q, rfl, hq, hb⟩
              have BA := Lib.hid (bel_step0 hb BZ.out)
              have hq1 : q.size ≤ 1048576 := by omega
              obtain ⟨T2, hT2⟩ : ∃ T, nqS q = T := ⟨_, rfl⟩
              obtain ⟨M, hM⟩ : ∃ N, nqOk q = N := ⟨_, rfl⟩
              have C1 := Lib.hid (fun W (hW : Below w.heap.size w W) => C_NegatedI q (by omega) W (HK.out.below hW))
              have C2 := Lib.hid (fun W => C_NegatedS q (by omega) W)
              obtain ⟨c, hc⟩ : ∃ c, cntQ q = c := ⟨_, rfl⟩
              obtain ⟨d, hd⟩ : ∃ d, depQ q = d := ⟨_, rfl⟩
              have C3 : Hid (M = true → (∀ W, Below w.heap.size w W → Calls Tryz.prog 18 #[.string q] W fun e w' => e = .returned (.tuple #[.int .i64 (c : Int), .bool true]) ∧ Below W.heap.size W w') ∧
                  (∀ W, Below w.heap.size w W → Calls Tryz.prog 18 #[.string T2] W fun e w' => e = .returned (.tuple #[.int .i64 (c : Int), .bool true]) ∧ Below W.heap.size W w') ∧
                  (∀ W, Below w.heap.size w W → Calls Tryz.prog 19 #[.string q] W fun e w' => e = .returned (.tuple #[.int .i64 (d : Int), .bool true]) ∧ Below W.heap.size W w') ∧
                  (∀ W, Below w.heap.size w W → Calls Tryz.prog 19 #[.string T2] W fun e w' => e = .returned (.tuple #[.int .i64 ((d : Int) + 1), .bool true]) ∧ Below W.heap.size W w') ∧ d ≤ 100) := Lib.hid fun hh => by
                obtain ⟨f1, f2, f3, f4, f5⟩ := not_cnt (hM.trans hh)
                have hz := (not_facts (R := noRec) (hM.trans hh)).1
                refine ⟨fun W hW => ?_, fun W hW => ?_, fun W hW => ?_, fun W hW => ?_, by omega⟩
                · have := C_CountI q hq1 W (HK.out.below hW)
                  rw [f1, hc] at this
                  exact this
                · have := C_CountI (nqS q) (by omega) W (HK.out.below hW)
                  rw [f2, f3, hc, hT2] at this
                  exact this
                · have := C_NestingI q hq1 W (HK.out.below hW)
                  rw [f1, hd] at this
                  exact this
                · have := C_NestingI (nqS q) (by omega) W (HK.out.below hW)
                  rw [f2, f4, hd, hT2, show ((d + 1 : Nat) : Int) = (d : Int) + 1 by omega] at this
                  exact this
              rw [hT2, hM] at C1 C2
              clear hT2 hM hc hd hq hq1 hb BZ
              go_wp2_with fail
              refine (C1.out _ BA.out).mono ?_; rintro e wb ⟨rfl, hb⟩
              have BB := Lib.hid (bel_step0 hb BA.out)
              clear hb BA C1
              go_wp2_with fail
              refine (C2.out _).mono ?_; rintro e wc ⟨rfl, hb⟩
              have BC := Lib.hid (bel_step0 hb BB.out)
              clear hb BB C2
              go_upto_if 179 with fail
              go_cut [30, 31, 32, 33, 34, 35, 36, 37] (fun s30 s31 s32 s33 s34 s35 s36 s37 wz => Below wc.heap.size wc wz)
              case first =>
                as_aux_lemma =>
                  cases M
                  · go_wp2_with fail
                    go_meet
                    exact Below.refl _ _
                  · obtain ⟨D1, D2, D3, D4, hd100⟩ := C3.out rfl
                    have D1 := Lib.hid D1
                    have D2 := Lib.hid D2
                    have D3 := Lib.hid D3
                    have D4 := Lib.hid D4
                    go_wp2_with fail
                    refine (D1.out _ BC.out).mono ?_; rintro e u1 ⟨rfl, hb⟩
                    have F1 := Lib.hid hb
                    clear hb D1
                    go_wp2_with fail
                    refine (D2.out _ (bel_step0 F1.out BC.out)).mono ?_; rintro e u2 ⟨rfl, hb⟩
                    have F2 := Lib.hid (bel_step0 hb F1.out)
                    clear hb D2 F1
                    go_wp2_with fail
                    refine (D3.out _ (bel_step0 F2.out BC.out)).mono ?_; rintro e u3 ⟨rfl, hb⟩
                    have F3 := Lib.hid (bel_step0 hb F2.out)
                    clear hb D3 F2
                    go_wp2_with fail
                    refine (D4.out _ (bel_step0 F3.out BC.out)).mono ?_; rintro e u4 ⟨rfl, hb⟩
                    have F4 := Lib.hid (bel_step0 hb F3.out)
                    clear hb D4 F3
                    go_wp2_with fail
                    go_meet
                    exact F4.out
              case rest =>
                as_aux_lemma =>
                  rename World => wd
                  have BD := Lib.hid (bel_step0 hcut BC.out)
                  clear hcut BC C3
                  go_wp2_with fail
                  refine (C_DrawIsQuery _ n _ (HS.out.below BD.out)).mono ?_; rintro e we ⟨p, rfl, hp, hb⟩
                  have BE := Lib.hid (bel_step0 hb BD.out)
                  have hp1 : p.size ≤ 1048576 := by omega
                  obtain ⟨G2, hG2⟩ : ∃ G, goodQ p = G := ⟨_, rfl⟩
                  have C1 := Lib.hid (C_IsQuery p hp1 we (HK.out.below BE.out))
                  have C2 := Lib.hid (fun W => C_IsQueryS p hp1 W)
                  rw [hG2] at C1 C2
                  clear hG2 hp hp1 hb BD
                  have hgg : (G2 == G2) = true := by simp
                  go_wp2_with fail
                  refine C1.out.mono ?_; rintro e wf ⟨rfl, hb⟩
                  have BF := Lib.hid (bel_step0 hb BE.out)
                  clear hb C1
                  go_wp2_with fail
                  refine (C2.out _).mono ?_; rintro e wg ⟨rfl, hb⟩
                  have BG := Lib.hid (bel_step0 hb BF.out)
                  clear hb C2
                  go_wp2_with fail
                  go_ret
                  exact ⟨rfl, BG.out⟩
set_option maxRecDepth 100000 in
theorem contract (H : Type) (enc : TypeId × Value → H) (W : World) (base : Nat) (args : Array Value) (ds gs : List (DataW H)) (before : List MemPlace)
    (hval0 : ∀ (j : Nat) t v, Tryz.f3.params[j]? = some t → args[j]? = some v → Value.okWide Tryz.prog W .any base t v)
    (hW : DataW.Whole enc Tryz.prog Tryz.f3.params.toList Rows.fnQueriesSpec.vars false W args.toList ds gs before) (hL : laidMetH Tryz.prog Rows.fnQueriesRow.laid W) :
    Calls Tryz.prog 3 args W fun e W' => ∃ v, e = .returned v ∧ Rows.fnQueriesSpec.post enc Tryz.prog Tryz.f3 false true false false W args v W' := by
  have hval : ∀ (j : Nat) t v, Tryz.f3.params[j]? = some t → args[j]? = some v → Value.okWide Tryz.prog W .any base t v := hval0
  have hW' := hW
  obtain ⟨p, q, hA0, hV, rfl, hfz, hnd⟩ := hW
  have hA : DataW.TrodAll enc Tryz.prog W 0 (fun _ => true) true Tryz.f3.params.toList args.toList ds p := hA0
  rw [Tryz.params3] at hA hval
  obtain ⟨v0, vs0, d0, ds0, p0, q0, hargs, rfl, rfl, h0, r0⟩ := trodAll_cons hA
  obtain ⟨rfl, rfl, rfl⟩ := trodAll_nil r0
  obtain rfl : args = #[v0] := by cases args; simp_all
  obtain ⟨rfl, rfl⟩ := trodVars_none hV
  have k0 := h0
  have lt0 : ∀ x ∈ p0, x.block < W.heap.size := by obtain ⟨m, hm⟩ := k0; exact DataW.trod_lt m _ _ _ hm
  obtain ⟨n0, b0⟩ := view_Suint8 (hval 0 22 v0 rfl rfl) h0
  clear hA0 hval0
  refine (walk v0 n0 W b0 ⟨tab_of W hL, ers_of W hL⟩).mono fun e W' ⟨he, bel⟩ => ?_
  subst he
  exact ⟨_, rfl, _, _, _, [], _, [], hW', trodAll_mk1 (shut_bool Tryz.underlying4 _), (trodAll_cons_mk (Below.trod laidOut (by kernel_rfl) (of_decide_eq_true (by kernel_rfl)) k0 bel lt0) trodAll_mk0), rfl, bel.frame _, fun h => by cases h⟩
theorem reads (os : Os) {H : Type} (enc : TypeId × Value → H) : ∃ places, DataW.whole enc Tryz.prog ((doorW os).forCall (fun _ _ => 0) ⟨#[], #[.slice none 0 0], []⟩).memory Tryz.f3.params.toList Rows.fnQueriesSpec.vars false #[.slice none 0 0].toList 8 = some ([.nil], [], places) :=
  ⟨[], by kernel_rfl⟩
set_option maxRecDepth 100000 in
theorem door_metL (os : Os) (args : Array Value) : laidMet Tryz.prog Rows.fnQueriesRow.laid ((doorW os).forCall (fun _ _ => 0) ⟨#[], args, []⟩).memory :=
  laidMet_of_run3 8 (by kernel_rfl) (by kernel_rfl) (by kernel_rfl)
set_option maxRecDepth 100000 in
theorem lifted (os : Os) (started : os.Started) (H : Type) (enc : TypeId × Value → H) (F : Stop.Interp) :
    ReturnsInHanded {} Tryz.checked os 3 .any ((OpenSpec.ofChange Rows.fnQueriesSpec).preRow enc Tryz.prog Tryz.f3 Rows.fnQueriesRow.domain false Rows.fnQueriesRow.laid) (((OpenSpec.ofChange Rows.fnQueriesSpec).at F).post enc Tryz.prog Tryz.f3 false true false false) := by
  obtain ⟨places, hx⟩ := reads os enc
  refine returnsInHanded_of_row (C := Tryz.checked) (s := OpenSpec.ofChange Rows.fnQueriesSpec) own started (by kernel_rfl) Tryz.func3
    (witness_row_at (enc := enc) (C := Tryz.checked) false (doorW os) #[.slice none 0 0] rfl (door_shape os _) (door_rest os _) (by kernel_rfl)
      (OpenSpec.preRow_of_cond 8 hx (by kernel_rfl) (fun k hk => by cases hk) (by kernel_rfl) (door_metL os _))) ?_
  intro W base args ds gs before hval hW _ _ _ hL _ _
  exact contract H enc W base args ds gs before hval hW hL
theorem said : Rows.FnQueriesSaid :=
  OpenClaim.holds_of_cond 3 Tryz.f3 rfl rfl rfl rfl rfl rfl rfl ⟨rfl, rfl, rfl, rfl, rfl⟩ rfl rfl rfl rfl rfl (by kernel_rfl) Tryz.func3 (by kernel_rfl)
    (of_decide_eq_true (by kernel_rfl)) (by unfold Func.isWrapper; first | (rw [if_pos (by decide +kernel)]; kernel_rfl) | (rw [if_neg (by decide +kernel)]; exact ⟨rfl, rfl⟩))
    (fun os started H enc _ F => by rw [OpenClaim.pre_eq_preRow]; exact lifted os started H enc F)
theorem plain (f : FuncId) (fn : Func) (hf : Tryz.pinned.checked.prog.funcNamed Rows.fnQueriesRow.func = some f) (hfn : Tryz.pinned.checked.prog.funcs[f]? = some fn) :
    true = Tryz.pinned.checked.prog.looks [] ∧ ∀ (j : Nat) t, fn.params[j]? = some t → Tryz.pinned.checked.prog.wantsStandIn t = false := by
  obtain rfl : f = 3 := Option.some.inj ((show Tryz.prog.funcNamed Rows.fnQueriesRow.func = some 3 by kernel_rfl).symm.trans hf) |>.symm
  obtain rfl : fn = Tryz.f3 := (Option.some.inj (Tryz.func3.symm.trans hfn)).symm
  refine ⟨by kernel_rfl, fun j t ht => ?_⟩
  rw [Tryz.params3] at ht
  obtain rfl : t = 22 := by simpa using Array.mem_of_getElem? ht
  exact (show Tryz.prog.wantsStandIn 22 = false by kernel_rfl)
theorem proved : Rows.FnQueriesCardSaid :=
  Claim7.holds_tied_plain_at .later [] _ _ _ _ said (fun _ h => by cases h) (by kernel_rfl) (fun _ h => by cases h) fnQueries_row_tie rfl ⟨rfl, rfl⟩ (by kernel_rfl) rfl plain (by kernel_rfl)
#print axioms proved
end Go.Proofs.YtjmfkenhnfdbjaaGreatDoor.lawFnQueries
