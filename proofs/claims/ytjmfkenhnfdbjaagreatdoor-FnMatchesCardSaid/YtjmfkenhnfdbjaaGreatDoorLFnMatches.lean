/- The law FnMatches returns true, whatever its argument, and leaves it as it was. No condition beyond the row's own. -/
import Derived.Test.YtjmfkenhnfdbjaaGreatDoorPackC
import Derived.Test.YtjmfkenhnfdbjaaGreatDoorPackB
import Derived.Test.YtjmfkenhnfdbjaaGreatDoorDoorW
import Derived.Deep.CutBlock
import Derived.Deep.DeepCutAuto
import Derived.Test.YtjmfkenhnfdbjaaGreatDoorCards
import Derived.Test.YtjmfkenhnfdbjaaGreatDoorTie
import Derived.Test.YtjmfkenhnfdbjaaGreatDoorOpen
import Derived.Deep.DeepHandedRow
import Derived.LaidMore
import Derived.Deep.DeepLaidRun
import Derived.PinnedBridge
import Derived.OpenShut
import Derived.ChangeMaps5
namespace Go.Proofs.YtjmfkenhnfdbjaaGreatDoor.lawFnMatches
open Go.ChangeShapes Go.WideShapes Go.ChangeAt Go.RowKit Go.Deep Go.Joins
open Go.ChangeMaps (open_string shut_string)
set_option linter.unusedVariables false
open Go.Sort
theorem ao_facts {a b : ByteArray} {n : Nat} {R : Nat → Rc} (h : aoOk a b n R = true) : moOk a n R = true ∧ moOk b n R = true ∧ aoV a b n R = eqL (moL a n R) (moL b n R) := by
  have h2 := h
  unfold aoOk at h2
  rw [Bool.and_eq_true, Bool.and_eq_true] at h2
  refine ⟨by unfold moOk; rw [h2.1, h2.2.2]; rfl, by unfold moOk; rw [h2.2.1, h2.2.2]; rfl, ?_⟩
  unfold aoV
  rw [h, Bool.true_and]
theorem sn_facts {s : ByteArray} (h : goodQ s = true) : 1 ≤ cntQ s ∧ (snL s).length ≤ cntQ s := by
  obtain ⟨o, ho⟩ := good_some h
  rw [cnt_of ho]
  refine ⟨?_, ?_⟩
  · have hq := read_que ho
    obtain ⟨l, hX, he⟩ := pJ_ind (X := fun l _ _ => 1 ≤ ((List.range l.length).flatMap fun j => (atQ l j).tests).length) (fun o h => by
      have : 1 ≤ o.q.tests.length := by
        obtain ⟨l2, hX2, he2⟩ := pJ_ind (X := fun l _ _ => 1 ≤ ((List.range l.length).flatMap fun j => (atQ l j).tests).length) (fun o h => by
          have := tests_pos _ _ o h
          simpa [atQ] using this) (fun l d e o hX _ _ _ => by rw [atQ_app, List.length_append]; omega) h
        rw [he2]; exact hX2
      simpa [atQ] using this) (fun l d e o hX _ _ _ => by rw [atQ_app, List.length_append]; omega) hq
    rw [he]; exact hX
  · unfold snL
    rw [if_pos h, scS_tests ho]
    exact Nat.le_trans (once_len _) (sersT_len _)
theorem sn_none {s : ByteArray} (h : goodQ s = false) : snL s = [] := by unfold snL; rw [h]; rfl
set_option maxRecDepth 100000 in
set_option maxHeartbeats 16000000 in
theorem walk (v : Value) (n : Nat) (w : World) (h : SU w v n) (hk : Pk w) :
    Calls Tryz.prog 4 #[v] w fun e w' => e = .returned (.bool true) ∧ Below w.heap.size w w' := by
  obtain ⟨A, cap, rfl⟩ := h.form
  have HS := Lib.hid h
  have HK := Lib.hid hk
  clear h hk
  by_cases hbig : 65536 < n
  · have hbig2 : decide (65536 < (n : Int)) = true := by simp; omega
    go_enter Tryz.func4, Tryz.ntmps4
    go_wp2_with fail
    refine (C_vBig _ n _ HS.out).mono ?_; rintro e w1 ⟨rfl, rfl⟩
    rw [hbig2]
    go_wp2_with fail
    go_ret
    exact ⟨rfl, Below.refl _ _⟩
  have hbig2 : decide (65536 < (n : Int)) = false := by simp; omega
  go_enter Tryz.func4, Tryz.ntmps4
  go_wp2_with fail
  refine (C_vBig _ n _ HS.out).mono ?_; rintro e w1 ⟨rfl, rfl⟩
  rw [hbig2]
  clear hbig hbig2
  go_wp2_with fail
  refine (C_DrawAgrees _ n _ HS.out).mono ?_; rintro e w1 ⟨a, b, u, k, R, rfl, ha, hb, hr, hk, hb1⟩
  have B1 := Lib.hid hb1
  have V1 := Lib.hid hr
  have ha1 : a.size ≤ 1048576 := by omega
  have hbb1 : b.size ≤ 1048576 := by omega
  obtain ⟨Y, hY⟩ : ∃ Y, aoV a b k R = Y := ⟨_, rfl⟩
  obtain ⟨K, hK⟩ : ∃ K, aoOk a b k R = K := ⟨_, rfl⟩
  have C1 := Lib.hid (fun W (hW : Below w.heap.size w W) h => C_AgreesOnI a b u k R ha1 hbb1 W (HK.out.below hW) h)
  have C2 := Lib.hid (fun W h => C_AgreesOnS a b u k R ha1 hbb1 W h)
  obtain ⟨xs, hxs⟩ : ∃ xs, moL a k R = xs := ⟨_, rfl⟩
  obtain ⟨ys, hys⟩ : ∃ ys, moL b k R = ys := ⟨_, rfl⟩
  have C3 : Hid (K = true → (∀ W, Below w.heap.size w W → RcS W u k R → Calls Tryz.prog 24 #[.string a, u] W fun e w' => ∃ v', e = .returned (.tuple #[v', .bool true]) ∧ OI W.heap.size w' v' xs ∧ Below W.heap.size W w') ∧
      (∀ W, Below w.heap.size w W → RcS W u k R → Calls Tryz.prog 24 #[.string b, u] W fun e w' => ∃ v', e = .returned (.tuple #[v', .bool true]) ∧ OI W.heap.size w' v' ys ∧ Below W.heap.size W w') ∧ eqI xs.length ys.length (ai xs) (ai ys) = Y) := Lib.hid fun hh => by
    obtain ⟨f1, f2, f3⟩ := ao_facts (hK.trans hh)
    refine ⟨fun W hW hv => ?_, fun W hW hv => ?_, ?_⟩
    · have := C_MatchingI a u k R ha1 W (HK.out.below hW) hv
      rw [f1, hxs] at this
      exact this
    · have := C_MatchingI b u k R hbb1 W (HK.out.below hW) hv
      rw [f2, hys] at this
      exact this
    · rw [← hY, f3, hxs, hys]; rfl
  rw [hY, hK] at C1 C2
  clear hY hK hxs hys ha hb ha1 hbb1 hr hb1 hk
  go_wp2_with fail
  refine (C1.out _ B1.out V1.out).mono ?_; rintro e w2 ⟨rfl, hb⟩
  have B2 := Lib.hid (bel_step0 hb B1.out)
  have V2 := Lib.hid (V1.out.below hb)
  clear hb B1 V1 C1
  go_wp2_with fail
  refine (C2.out _ V2.out).mono ?_; rintro e w3 ⟨rfl, hb⟩
  have B3 := Lib.hid (bel_step0 hb B2.out)
  have V3 := Lib.hid (V2.out.below hb)
  clear hb B2 V2 C2
  go_upto_if 63 with fail
  go_cut [10, 11, 12, 13] (fun s10 s11 s12 s13 wx => Below w3.heap.size w3 wx)
  case first =>
    as_aux_lemma =>
      cases K
      · go_wp2_with fail
        go_meet
        exact Below.refl _ _
      · obtain ⟨D1, D2, hE⟩ := C3.out rfl
        have D1 := Lib.hid D1
        have D2 := Lib.hid D2
        have HE := Lib.hid hE
        clear hE
        go_wp2_with fail
        refine (D1.out _ B3.out V3.out).mono ?_; rintro e w4 ⟨v4, rfl, ho4, hb⟩
        have F4 := Lib.hid hb
        have O4 := Lib.hid ho4
        clear hb ho4 D1
        go_wp2_with fail
        refine (D2.out _ (bel_step0 F4.out B3.out) (V3.out.below F4.out)).mono ?_; rintro e w5 ⟨v5, rfl, ho5, hb⟩
        have F5 := Lib.hid (bel_step0 hb F4.out)
        have S4 := Lib.hid (O4.out.below hb).wi.si
        have S5 := Lib.hid ho5.wi.si
        clear hb ho5 D2 O4
        go_wp2_with fail
        refine (C_vInts _ _ _ _ _ _ _ S4.out S5.out).mono ?_; rintro e w6 ⟨rfl, hb⟩
        have F6 := Lib.hid (bel_step0 hb F5.out)
        clear hb
        rw [HE.out]
        go_wp2_with fail
        go_meet
        exact F6.out
  case rest =>
    as_aux_lemma =>
      rename World => wx
      have BX := Lib.hid (bel_step0 hcut B3.out)
      clear hcut B3 V3 C3
      go_wp2_with fail
      refine (C_DrawMatching _ n _ (HS.out.below BX.out)).mono ?_; rintro e w4 ⟨s, u2, k2, R2, rfl, hs, hr, hk2, hb⟩
      have B4 := Lib.hid (bel_step0 hb BX.out)
      have V4 := Lib.hid hr
      have hs1 : s.size ≤ 1048576 := by omega
      obtain ⟨zs, hzs⟩ : ∃ zs, moL s k2 R2 = zs := ⟨_, rfl⟩
      obtain ⟨J, hJ⟩ : ∃ J, moOk s k2 R2 = J := ⟨_, rfl⟩
      have C1 := Lib.hid (fun W (hW : Below w.heap.size w W) h => C_MatchingI s u2 k2 R2 hs1 W (HK.out.below hW) h)
      have C2 := Lib.hid (fun W h => C_MatchingS s u2 k2 R2 hs1 W h)
      rw [hzs, hJ] at C1 C2
      clear hzs hJ hs hs1 hr hk2 hb BX
      go_wp2_with fail
      refine (C1.out _ B4.out V4.out).mono ?_; rintro e w5 ⟨v5, rfl, ho5, hb⟩
      have B5 := Lib.hid (bel_step0 hb B4.out)
      have V5 := Lib.hid (V4.out.below hb)
      have O5 := Lib.hid ho5
      clear hb ho5 B4 V4 C1
      go_wp2_with fail
      refine (C2.out _ V5.out).mono ?_; rintro e w6 ⟨v6, rfl, ho6, hb⟩
      have B6 := Lib.hid (bel_step0 hb B5.out)
      have S5 := Lib.hid (O5.out.below hb).wi.si
      have S6 := Lib.hid ho6.wi.si
      clear hb ho6 B5 V5 O5 C2
      have HE := Lib.hid (eqI_refl zs.length (ai zs))
      go_wp2_with fail
      refine (C_vInts _ _ _ _ _ _ _ S5.out S6.out).mono ?_; rintro e w7 ⟨rfl, hb⟩
      have B7 := Lib.hid (bel_step0 hb B6.out)
      rw [HE.out]
      clear hb B6 S5 S6 HE
      go_wp2_with fail
      refine (C_DrawSeriesNamed _ n _ (HS.out.below B7.out)).mono ?_; rintro e w8 ⟨q, rfl, hq, hb⟩
      have B8 := Lib.hid (bel_step0 hb B7.out)
      have hq1 : q.size ≤ 1048576 := by omega
      obtain ⟨ts, hts⟩ : ∃ ts, snL q = ts := ⟨_, rfl⟩
      obtain ⟨G, hG⟩ : ∃ G, goodQ q = G := ⟨_, rfl⟩
      obtain ⟨c, hc⟩ : ∃ c, cntQ q = c := ⟨_, rfl⟩
      obtain ⟨d, hd⟩ : ∃ d, depQ q = d := ⟨_, rfl⟩
      have C1 := Lib.hid (fun W (hW : Below w.heap.size w W) => C_SeriesI q hq1 W (HK.out.below hW))
      have C2 := Lib.hid (fun W => C_SeriesS q hq1 W)
      have C3 := Lib.hid (fun W (hW : Below w.heap.size w W) => C_CountI q hq1 W (HK.out.below hW))
      have C4 := Lib.hid (fun W => C_CountS q hq1 W)
      have C5 := Lib.hid (fun W (hW : Below w.heap.size w W) => C_NestingI q hq1 W (HK.out.below hW))
      have C6 := Lib.hid (fun W => C_NestingS q hq1 W)
      have HF : Hid (G = true → (1 : Int) ≤ (c : Int) ∧ (ts.length : Int) ≤ (c : Int)) := Lib.hid fun hh => by
        obtain ⟨f1, f2⟩ := sn_facts (hG.trans hh)
        rw [hc] at f1 f2
        rw [hts] at f2
        omega
      rw [hts, hG] at C1 C2
      rw [hc, hG] at C3 C4
      rw [hd, hG] at C5 C6
      obtain ⟨m, hm⟩ : ∃ m, ts.length = m := ⟨_, rfl⟩
      have HM := Lib.hid hm
      rw [hm] at HF
      clear hts hG hc hd hq hq1 hb B7 hm
      go_wp2_with fail
      refine (C1.out _ B8.out).mono ?_; rintro e w9 ⟨v9, rfl, ho9, hb⟩
      have B9 := Lib.hid (bel_step0 hb B8.out)
      have O9 := Lib.hid ho9
      clear hb ho9 B8 C1
      go_wp2_with fail
      refine (C2.out _).mono ?_; rintro e wa ⟨va, rfl, hoa, hb⟩
      have BA := Lib.hid (bel_step0 hb B9.out)
      have S9 := (O9.out.below hb).wi.si
      have SA := hoa.wi.si
      rw [HM.out] at S9 SA
      obtain ⟨A9, c9, e9, _⟩ := id S9
      subst e9
      have S9 := Lib.hid S9
      have SA := Lib.hid SA
      clear hb hoa B9 O9 C2
      have HE := Lib.hid (eqI_refl m (ai ts))
      go_wp2_with fail
      refine (C_vInts _ _ _ _ _ _ _ S9.out SA.out).mono ?_; rintro e wb ⟨rfl, hb⟩
      have BB := Lib.hid (bel_step0 hb BA.out)
      rw [HE.out]
      clear hb BA S9 SA HE
      go_wp2_with fail
      refine (C3.out _ BB.out).mono ?_; rintro e wc ⟨rfl, hb⟩
      have BC := Lib.hid (bel_step0 hb BB.out)
      clear hb BB C3
      go_wp2_with fail
      refine (C4.out _).mono ?_; rintro e wd ⟨rfl, hb⟩
      have BD := Lib.hid (bel_step0 hb BC.out)
      clear hb BC C4
      cases G
      · go_wp2_with fail
        refine (C5.out _ BD.out).mono ?_; rintro e we ⟨rfl, hb⟩
        have BE := Lib.hid (bel_step0 hb BD.out)
        clear hb BD C5
        go_wp2_with fail
        refine (C6.out _).mono ?_; rintro e wf ⟨rfl, hb⟩
        have BF := Lib.hid (bel_step0 hb BE.out)
        clear hb BE C6
        go_wp2_with fail
        go_ret
        exact ⟨rfl, BF.out⟩
      · obtain ⟨hf1, hf2⟩ := HF.out rfl
        go_wp2_with fail
        refine (C5.out _ BD.out).mono ?_; rintro e we ⟨rfl, hb⟩
        have BE := Lib.hid (bel_step0 hb BD.out)
        clear hb BD C5
        go_wp2_with fail
        refine (C6.out _).mono ?_; rintro e wf ⟨rfl, hb⟩
        have BF := Lib.hid (bel_step0 hb BE.out)
        clear hb BE C6
        go_wp2_with fail
        go_ret
        exact ⟨rfl, BF.out⟩
set_option maxRecDepth 100000 in
theorem contract (H : Type) (enc : TypeId × Value → H) (W : World) (base : Nat) (args : Array Value) (ds gs : List (DataW H)) (before : List MemPlace)
    (hval0 : ∀ (j : Nat) t v, Tryz.f4.params[j]? = some t → args[j]? = some v → Value.okWide Tryz.prog W .any base t v)
    (hW : DataW.Whole enc Tryz.prog Tryz.f4.params.toList Rows.fnMatchesSpec.vars false W args.toList ds gs before) (hL : laidMetH Tryz.prog Rows.fnMatchesRow.laid W) :
    Calls Tryz.prog 4 args W fun e W' => ∃ v, e = .returned v ∧ Rows.fnMatchesSpec.post enc Tryz.prog Tryz.f4 false true false false W args v W' := by
  have hval : ∀ (j : Nat) t v, Tryz.f4.params[j]? = some t → args[j]? = some v → Value.okWide Tryz.prog W .any base t v := hval0
  have hW' := hW
  obtain ⟨p, q, hA0, hV, rfl, hfz, hnd⟩ := hW
  have hA : DataW.TrodAll enc Tryz.prog W 0 (fun _ => true) true Tryz.f4.params.toList args.toList ds p := hA0
  rw [Tryz.params4] at hA hval
  obtain ⟨v0, vs0, d0, ds0, p0, q0, hargs, rfl, rfl, h0, r0⟩ := trodAll_cons hA
  obtain ⟨rfl, rfl, rfl⟩ := trodAll_nil r0
  obtain rfl : args = #[v0] := by cases args; simp_all
  obtain ⟨rfl, rfl⟩ := trodVars_none hV
  have k0 := h0
  have lt0 : ∀ x ∈ p0, x.block < W.heap.size := by obtain ⟨m, hm⟩ := k0; exact DataW.trod_lt m _ _ _ hm
  obtain ⟨n0, b0⟩ := view_Suint8 (hval 0 22 v0 rfl rfl) h0
  clear hA0 hval0
  refine (walk v0 n0 W b0 ⟨tab_of W hL, ers_of W hL⟩).mono fun e W' ⟨he, bel⟩ => ?_
  subst he
  exact ⟨_, rfl, _, _, _, [], _, [], hW', trodAll_mk1 (shut_bool Tryz.underlying4 _), (trodAll_cons_mk (Below.trod laidOut (by kernel_rfl) (of_decide_eq_true (by kernel_rfl)) k0 bel lt0) trodAll_mk0), rfl, bel.frame _, fun h => by cases h⟩
theorem reads (os : Os) {H : Type} (enc : TypeId × Value → H) : ∃ places, DataW.whole enc Tryz.prog ((doorW os).forCall (fun _ _ => 0) ⟨#[], #[.slice none 0 0], []⟩).memory Tryz.f4.params.toList Rows.fnMatchesSpec.vars false #[.slice none 0 0].toList 8 = some ([.nil], [], places) :=
  ⟨[], by kernel_rfl⟩
set_option maxRecDepth 100000 in
theorem door_metL (os : Os) (args : Array Value) : laidMet Tryz.prog Rows.fnMatchesRow.laid ((doorW os).forCall (fun _ _ => 0) ⟨#[], args, []⟩).memory :=
  laidMet_of_run3 8 (by kernel_rfl) (by kernel_rfl) (by kernel_rfl)
set_option maxRecDepth 100000 in
theorem lifted (os : Os) (started : os.Started) (H : Type) (enc : TypeId × Value → H) (F : Stop.Interp) :
    ReturnsInHanded {} Tryz.checked os 4 .any ((OpenSpec.ofChange Rows.fnMatchesSpec).preRow enc Tryz.prog Tryz.f4 Rows.fnMatchesRow.domain false Rows.fnMatchesRow.laid) (((OpenSpec.ofChange Rows.fnMatchesSpec).at F).post enc Tryz.prog Tryz.f4 false true false false) := by
  obtain ⟨places, hx⟩ := reads os enc
  refine returnsInHanded_of_row (C := Tryz.checked) (s := OpenSpec.ofChange Rows.fnMatchesSpec) own started (by kernel_rfl) Tryz.func4
    (witness_row_at (enc := enc) (C := Tryz.checked) false (doorW os) #[.slice none 0 0] rfl (door_shape os _) (door_rest os _) (by kernel_rfl)
      (OpenSpec.preRow_of_cond 8 hx (by kernel_rfl) (fun k hk => by cases hk) (by kernel_rfl) (door_metL os _))) ?_
  intro W base args ds gs before hval hW _ _ _ hL _ _
  exact contract H enc W base args ds gs before hval hW hL
theorem said : Rows.FnMatchesSaid :=
  OpenClaim.holds_of_cond 4 Tryz.f4 rfl rfl rfl rfl rfl rfl rfl ⟨rfl, rfl, rfl, rfl, rfl⟩ rfl rfl rfl rfl rfl (by kernel_rfl) Tryz.func4 (by kernel_rfl)
    (of_decide_eq_true (by kernel_rfl)) (by unfold Func.isWrapper; first | (rw [if_pos (by decide +kernel)]; kernel_rfl) | (rw [if_neg (by decide +kernel)]; exact ⟨rfl, rfl⟩))
    (fun os started H enc _ F => by rw [OpenClaim.pre_eq_preRow]; exact lifted os started H enc F)
theorem plain (f : FuncId) (fn : Func) (hf : Tryz.pinned.checked.prog.funcNamed Rows.fnMatchesRow.func = some f) (hfn : Tryz.pinned.checked.prog.funcs[f]? = some fn) :
    true = Tryz.pinned.checked.prog.looks [] ∧ ∀ (j : Nat) t, fn.params[j]? = some t → Tryz.pinned.checked.prog.wantsStandIn t = false := by
  obtain rfl : f = 4 := Option.some.inj ((show Tryz.prog.funcNamed Rows.fnMatchesRow.func = some 4 by kernel_rfl).symm.trans hf) |>.symm
  obtain rfl : fn = Tryz.f4 := (Option.some.inj (Tryz.func4.symm.trans hfn)).symm
  refine ⟨by kernel_rfl, fun j t ht => ?_⟩
  rw [Tryz.params4] at ht
  obtain rfl : t = 22 := by simpa using Array.mem_of_getElem? ht
  exact (show Tryz.prog.wantsStandIn 22 = false by kernel_rfl)
theorem proved : Rows.FnMatchesCardSaid :=
  Claim7.holds_tied_plain_at .later [] _ _ _ _ said (fun _ h => by cases h) (by kernel_rfl) (fun _ h => by cases h) fnMatches_row_tie rfl ⟨rfl, rfl⟩ (by kernel_rfl) rfl plain (by kernel_rfl)
#print axioms proved
end Go.Proofs.YtjmfkenhnfdbjaaGreatDoor.lawFnMatches
