/- The law FnExactSameReason returns true, whatever its arguments, and leaves them as they were. No condition beyond the row's own. -/
import Derived.Test.YtmhelhjjadoiaaaDoorSmI
import Derived.Test.YtmhelhjjadoiaaaDoorDoorW
import Derived.Test.YtmhelhjjadoiaaaDoorCards
import Derived.Test.YtmhelhjjadoiaaaDoorTie
import Derived.Test.YtmhelhjjadoiaaaDoorOpen
import Derived.Deep.DeepHandedRow
import Derived.LaidMore
import Derived.Deep.DeepLaidRun
import Derived.PinnedBridge
import Derived.OpenShut
import Derived.ChangeMaps5
namespace Go.Proofs.YtmhelhjjadoiaaaDoor.lawFnExactSameReason
open Go.ChangeShapes Go.WideShapes Go.ChangeAt Go.RowKit Go.Deep Go.Joins
open Go.ChangeMaps (open_string shut_string)
set_option linter.unusedVariables false
set_option linter.unusedSimpArgs false
theorem C_eqI_same (v v' : Value) (n : Nat) (f : Nat → Int) (w : World) (h : SI w v n f) (h' : SI w v' n f) :
    Calls Tryd.prog 39 #[v, v'] w fun e w' => e = .returned (.bool true) ∧ Below w.heap.size w w' :=
  (C_eqIntS v v' n n f f w h h').mono fun e w' hh => ⟨hh.1.trans (by rw [show eqI n n f f = true by unfold eqI; simp only [beq_self_eq_true, decide_true, Bool.true_and]; exact allB_iff.2 fun _ _ => rfl]), hh.2⟩
set_option maxHeartbeats 4000000 in
set_option maxRecDepth 100000 in
theorem walk (v : Value) (y : Nat × (Nat → Lk)) (w : World) (h : LKs w v y.1 y.2 ∧ ∀ j, j < y.1 → (y.2 j).why.size ≤ 9223372036854775807 ∧ I64 (y.2 j).tick) :
    Calls Tryd.prog 13 #[v] w fun e w' => e = .returned (.bool true) ∧ Below w.heap.size w w' := by
  obtain ⟨n, R⟩ := y
  obtain ⟨h, hs⟩ := h
  simp only at h hs
  have HS := Lib.hid (fun j hj => (hs j hj).1); clear hs
  by_cases hbig : szT 1048576 n (fun j => (R j).why) < 0
  · go_enter Tryd.func13, Tryd.ntmps13
    go_wp2_with fail
    refine (C_szLookS _ _ _ _ _ h HS.out (by omega) (by omega)).mono ?_; rintro e w1 ⟨rfl, hb1⟩
    go_wp2_with fail
    go_ret
    exact ⟨rfl, hb1⟩
  have hbig0 : 0 ≤ szT 1048576 n (fun j => (R j).why) := by omega
  have hn : n ≤ 1048576 := by have := (szT_small hbig0).1; omega
  obtain ⟨q, hq⟩ : ∃ q, szT 1048576 n (fun j => (R j).why) = q := ⟨_, rfl⟩
  rw [hq] at hbig0
  have HZ := Lib.hid hq
  clear hq hbig
  obtain ⟨ok, m, F, G, hm15, CI, CS⟩ := both_same n R HS.out
  have HC := Lib.hid (And.intro CI CS)
  have HH := Lib.hid h
  clear CS CI h
  have hm0 : (0 : Int) ≤ (m : Int) := by omega
  have hm1 : (m : Int) ≤ 15 := by omega
  go_enter Tryd.func13, Tryd.ntmps13
  go_wp2_with fail
  refine (C_szLookS _ _ _ _ _ HH.out HS.out (by omega) (by omega)).mono ?_; rintro e w1 ⟨rfl, B⟩
  rw [HZ.out]
  go_wp2_with fail
  refine (C_toLookS _ _ _ _ (HH.out.below B) hn).mono ?_; rintro e w3 ⟨v3, rfl, hv3, hb⟩
  replace B := bel_step0 hb B
  clear hb
  go_wp2_with fail
  refine (HC.out.2 _ _ hv3.lks).mono ?_; rintro e w5 ⟨v5a, v5b, rfl, O, hb⟩
  replace B := bel_step0 hb B
  have hzB5 := B.size
  clear hb hv3
  go_wp2_with fail
  refine (C_toLookS _ _ _ _ (HH.out.below B) hn).mono ?_; rintro e w6 ⟨v6, rfl, X, hb⟩
  replace B := bel_step0 hb B
  have Fw := hb
  have hz56 := hb.size
  clear hb
  go_wp2_with fail
  refine (HC.out.1 _ _ X.lks).mono ?_; rintro e w8 ⟨v8a, v8b, rfl, T8, hb⟩
  replace B := bel_step0 hb B
  replace Fw := bel_step0 hb Fw
  replace X := X.below hb
  have hz68 := hb.size
  clear hb
  go_wp2_with fail
  refine (C_eqStringS_same _ _ _ _ _ T8.ti (O.below Fw).ti).mono ?_; rintro e w9 ⟨rfl, hb⟩
  (have hzz := hb.size); (replace B := bel_step0 hb B); (replace Fw := bel_step0 hb Fw); (replace X := X.below hb); (replace T8 := T8.below hb); (try replace hv10 := hv10.below hb); clear hb
  go_wp2_with fail
  refine (C_eqI_same _ _ _ _ _ T8.si (O.below Fw).si).mono ?_; rintro e w9b ⟨rfl, hb⟩
  (have hzz := hb.size); (replace B := bel_step0 hb B); (replace Fw := bel_step0 hb Fw); (replace X := X.below hb); (replace T8 := T8.below hb); (try replace hv10 := hv10.below hb); clear hb
  go_wp2_with fail
  refine (C_toLookS _ _ _ _ (HH.out.below B) hn).mono ?_; rintro e w10 ⟨v10, rfl, hv10, hb⟩
  (have hzz := hb.size); (replace B := bel_step0 hb B); (replace Fw := bel_step0 hb Fw); (replace X := X.below hb); (replace T8 := T8.below hb); (try replace hv10 := hv10.below hb); clear hb
  go_wp2_with fail
  refine (C_eqLookS _ _ _ _ _ X.lks hv10.lks).mono ?_; rintro e w11 ⟨rfl, hb⟩
  (have hzz := hb.size); (replace B := bel_step0 hb B); (replace Fw := bel_step0 hb Fw); (replace X := X.below hb); (replace T8 := T8.below hb); (try replace hv10 := hv10.below hb); clear hb
  clear hv10
  go_wp2_with fail
  refine (C_markLookS _ _ _ _ _ _ X hn).mono ?_; rintro e w14 ⟨k14, rfl, ⟨hk1, hk2⟩, hc⟩
  obtain ⟨lo1, hi1, lo2, hi2, T, U, hl1, hl2, hdj⟩ := T8
  replace B := bel_chg hc (by omega) B
  replace Fw := bel_chg hc (by omega) Fw
  replace T := T.chg hc (.inr (by omega))
  replace U := U.chg hc (.inr (by omega))
  have hzc := hc.size
  clear hc X
  go_wp2_with fail
  refine (C_eqStringS_same _ _ _ _ _ T.ti (O.below Fw).ti).mono ?_; rintro e w16 ⟨rfl, hb⟩
  (replace B := bel_step0 hb B); (replace Fw := bel_step0 hb Fw); (replace T := T.below hb); (replace U := U.below hb); clear hb
  go_wp2_with fail
  refine (C_eqI_same _ _ _ _ _ U.si (O.below Fw).si).mono ?_; rintro e w17 ⟨rfl, hb⟩
  (replace B := bel_step0 hb B); (replace Fw := bel_step0 hb Fw); (replace T := T.below hb); (replace U := U.below hb); clear hb
  go_wp2_with fail
  refine (C_markS1 _ _ _ _ _ _ T (by omega)).mono ?_; rintro e w18 ⟨rfl, T18, hc⟩
  replace B := bel_chg hc (by omega) B
  replace Fw := bel_chg hc (by omega) Fw
  replace U := U.chg hc (by omega)
  clear hc T
  go_wp2_with fail
  refine (C_markIntS _ _ _ (1 + m) _ _ _ U (by omega) (by omega)).mono ?_; rintro e w19 ⟨rfl, U19, hc⟩
  replace B := bel_chg hc (by omega) B
  replace Fw := bel_chg hc (by omega) Fw
  have T := T18.chg hc (by omega)
  clear hc U T18
  have U := U19
  clear U19
  go_wp2_with fail
  refine (C_heldS1 _ _ _ T.ti (by omega)).mono ?_; rintro e w20 ⟨rfl, hb⟩
  (replace B := bel_step0 hb B); (replace Fw := bel_step0 hb Fw); (replace T := T.below hb); (replace U := U.below hb); clear hb
  go_wp2_with fail
  refine (C_heldIntS _ _ (1 + m) _ U.si (by omega) (by omega)).mono ?_; rintro e w21 ⟨rfl, rfl⟩
  go_wp2_with fail
  refine (C_toLookS _ _ _ _ (HH.out.below B) hn).mono ?_; rintro e w22 ⟨v22, rfl, hv22, hb⟩
  (replace B := bel_step0 hb B); (replace Fw := bel_step0 hb Fw); (replace T := T.below hb); (replace U := U.below hb); clear hb
  go_wp2_with fail
  refine (HC.out.1 _ _ hv22.lks).mono ?_; rintro e w23 ⟨v23a, v23b, rfl, O2, hb⟩
  (replace B := bel_step0 hb B); (replace Fw := bel_step0 hb Fw); (replace T := T.below hb); (replace U := U.below hb); clear hb
  clear hv22
  go_wp2_with fail
  refine (C_eqStringS_same _ _ _ _ _ O2.ti (O.below Fw).ti).mono ?_; rintro e w24 ⟨rfl, hb⟩
  replace O2 := O2.below hb
  (replace B := bel_step0 hb B); (replace Fw := bel_step0 hb Fw); (replace T := T.below hb); (replace U := U.below hb); clear hb
  go_wp2_with fail
  refine (C_eqI_same _ _ _ _ _ O2.si (O.below Fw).si).mono ?_; rintro e w25 ⟨rfl, hb⟩
  (replace B := bel_step0 hb B); (replace Fw := bel_step0 hb Fw); (replace T := T.below hb); (replace U := U.below hb); clear hb
  clear O2
  go_wp2_with fail
  refine (C_heldS1 _ _ _ T.ti (by omega)).mono ?_; rintro e w26 ⟨rfl, hb⟩
  (replace B := bel_step0 hb B); (replace Fw := bel_step0 hb Fw); (replace T := T.below hb); (replace U := U.below hb); clear hb
  go_wp2_with fail
  refine (C_heldIntS _ _ (1 + m) _ U.si (by omega) (by omega)).mono ?_; rintro e w27 ⟨rfl, rfl⟩
  go_wp2_with fail
  go_ret
  exact ⟨rfl, B⟩
set_option maxRecDepth 100000 in
theorem contract (H : Type) (enc : TypeId × Value → H) (W : World) (base : Nat) (args : Array Value) (ds gs : List (DataW H)) (before : List MemPlace)
    (hval0 : ∀ (j : Nat) t v, Tryd.f13.params[j]? = some t → args[j]? = some v → Value.okWide Tryd.prog W .any base t v)
    (hW : DataW.Whole enc Tryd.prog Tryd.f13.params.toList Rows.fnExactSameReasonSpec.vars false W args.toList ds gs before) (hL : laidMetH Tryd.prog Rows.fnExactSameReasonRow.laid W) :
    Calls Tryd.prog 13 args W fun e W' => ∃ v, e = .returned v ∧ Rows.fnExactSameReasonSpec.post enc Tryd.prog Tryd.f13 false true false false W args v W' := by
  have hval : ∀ (j : Nat) t v, Tryd.f13.params[j]? = some t → args[j]? = some v → Value.okWide Tryd.prog W .any base t v := hval0
  have hW' := hW
  obtain ⟨p, q, hA0, hV, rfl, hfz, hnd⟩ := hW
  have hA : DataW.TrodAll enc Tryd.prog W 0 (fun _ => true) true Tryd.f13.params.toList args.toList ds p := hA0
  rw [Tryd.params13] at hA hval
  obtain ⟨v0, vs0, d0, ds0, p0, q0, hargs, rfl, rfl, h0, r0⟩ := trodAll_cons hA
  obtain ⟨rfl, rfl, rfl⟩ := trodAll_nil r0
  obtain rfl : args = #[v0] := by cases args; simp_all
  obtain ⟨rfl, rfl⟩ := trodVars_none hV
  have k0 := h0
  have lt0 : ∀ x ∈ p0, x.block < W.heap.size := by obtain ⟨m, hm⟩ := k0; exact DataW.trod_lt m _ _ _ hm
  obtain ⟨n0, b0⟩ := view_SlawsLook (hval 0 29 v0 rfl rfl) h0
  clear hA0 hval0
  refine (walk v0 n0 W b0).mono fun e W' ⟨he, bel⟩ => ?_
  subst he
  exact ⟨_, rfl, _, _, _, [], _, [], hW', trodAll_mk1 (shut_bool Tryd.underlying4 _), (trodAll_cons_mk (Below.trod laidOut (by kernel_rfl) (of_decide_eq_true (by kernel_rfl)) k0 bel lt0) trodAll_mk0), rfl, bel.frame _, fun h => by cases h⟩
theorem reads (os : Os) {H : Type} (enc : TypeId × Value → H) : ∃ places, DataW.whole enc Tryd.prog ((doorW os).forCall (fun _ _ => 0) ⟨#[], #[.slice none 0 0], []⟩).memory Tryd.f13.params.toList Rows.fnExactSameReasonSpec.vars false #[.slice none 0 0].toList 8 = some ([.nil], [], places) :=
  ⟨[], by kernel_rfl⟩
set_option maxRecDepth 100000 in
theorem lifted (os : Os) (started : os.Started) (H : Type) (enc : TypeId × Value → H) (F : Stop.Interp) :
    ReturnsInHanded {} Tryd.checked os 13 .any ((OpenSpec.ofChange Rows.fnExactSameReasonSpec).preRow enc Tryd.prog Tryd.f13 Rows.fnExactSameReasonRow.domain false Rows.fnExactSameReasonRow.laid) (((OpenSpec.ofChange Rows.fnExactSameReasonSpec).at F).post enc Tryd.prog Tryd.f13 false true false false) := by
  obtain ⟨places, hx⟩ := reads os enc
  refine returnsInHanded_of_row (C := Tryd.checked) (s := OpenSpec.ofChange Rows.fnExactSameReasonSpec) own started (by kernel_rfl) Tryd.func13
    (witness_row_at (enc := enc) (C := Tryd.checked) false (doorW os) #[.slice none 0 0] rfl (door_shape os _) (door_rest os _) (by kernel_rfl)
      (OpenSpec.preRow_of_cond 8 hx (by kernel_rfl) (fun k hk => by cases hk) (by kernel_rfl) (door_met os _))) ?_
  intro W base args ds gs before hval hW _ _ _ hL _ _
  exact contract H enc W base args ds gs before hval hW hL
theorem said : Rows.FnExactSameReasonSaid :=
  OpenClaim.holds_of_cond 13 Tryd.f13 rfl rfl rfl rfl rfl rfl rfl ⟨rfl, rfl, rfl, rfl, rfl⟩ rfl rfl rfl rfl rfl (by kernel_rfl) Tryd.func13 (by kernel_rfl)
    (of_decide_eq_true (by kernel_rfl)) (by unfold Func.isWrapper; first | (rw [if_pos (by decide +kernel)]; kernel_rfl) | (rw [if_neg (by decide +kernel)]; exact ⟨rfl, rfl⟩))
    (fun os started H enc _ F => by rw [OpenClaim.pre_eq_preRow]; exact lifted os started H enc F)
theorem plain (f : FuncId) (fn : Func) (hf : Tryd.pinned.checked.prog.funcNamed Rows.fnExactSameReasonRow.func = some f) (hfn : Tryd.pinned.checked.prog.funcs[f]? = some fn) :
    false = Tryd.pinned.checked.prog.looks [] ∧ ∀ (j : Nat) t, fn.params[j]? = some t → Tryd.pinned.checked.prog.wantsStandIn t = false := by
  obtain rfl : f = 13 := Option.some.inj ((show Tryd.prog.funcNamed Rows.fnExactSameReasonRow.func = some 13 by kernel_rfl).symm.trans hf) |>.symm
  obtain rfl : fn = Tryd.f13 := (Option.some.inj (Tryd.func13.symm.trans hfn)).symm
  refine ⟨by kernel_rfl, fun j t ht => ?_⟩
  rw [Tryd.params13] at ht
  obtain rfl : t = 29 := by simpa using Array.mem_of_getElem? ht
  exact (show Tryd.prog.wantsStandIn 29 = false by kernel_rfl)
theorem proved : Rows.FnExactSameReasonCardSaid :=
  Claim7.holds_tied_plain_at .later [] _ _ _ _ said (fun _ h => by cases h) (by kernel_rfl) (fun _ h => by cases h) fnExactSameReason_row_tie rfl ⟨rfl, rfl⟩ (by kernel_rfl) rfl plain (by kernel_rfl)
#print axioms proved
end Go.Proofs.YtmhelhjjadoiaaaDoor.lawFnExactSameReason
