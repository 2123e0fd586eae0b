/- The law FnExactUnexplained returns true, whatever its arguments, and leaves them as they were. No condition beyond the row's own. -/
import Derived.Test.YtmhelhjjadoiaaaDoorLkH
import Derived.Test.YtmhelhjjadoiaaaDoorDoorW
import Derived.Test.YtmhelhjjadoiaaaDoorCards
import Derived.Test.YtmhelhjjadoiaaaDoorTie
import Derived.Test.YtmhelhjjadoiaaaDoorOpen
import Derived.Deep.DeepHandedRow
import Derived.LaidMore
import Derived.Deep.DeepLaidRun
import Derived.PinnedBridge
import Derived.OpenShut
import Derived.ChangeMaps5
namespace Go.Proofs.YtmhelhjjadoiaaaDoor.lawFnExactUnexplained
open Go.ChangeShapes Go.WideShapes Go.ChangeAt Go.RowKit Go.Deep Go.Joins
open Go.ChangeMaps (open_string shut_string)
set_option linter.unusedVariables false
set_option linter.unusedSimpArgs false
theorem C_eqI_same (v v' : Value) (n : Nat) (f : Nat → Int) (w : World) (h : SI w v n f) (h' : SI w v' n f) :
    Calls Tryd.prog 39 #[v, v'] w fun e w' => e = .returned (.bool true) ∧ Below w.heap.size w w' :=
  (C_eqIntS v v' n n f f w h h').mono fun e w' hh => ⟨hh.1.trans (by rw [show eqI n n f f = true by unfold eqI; simp only [beq_self_eq_true, decide_true, Bool.true_and]; exact allB_iff.2 fun _ _ => rfl]), hh.2⟩
set_option maxHeartbeats 4000000 in
set_option maxRecDepth 100000 in
theorem walk (v : Value) (y : Nat × (Nat → Lk)) (u : Value) (y2 : Nat × (Nat → ByteArray)) (w : World) (h : LKs w v y.1 y.2 ∧ ∀ j, j < y.1 → (y.2 j).why.size ≤ 9223372036854775807 ∧ I64 (y.2 j).tick) (hu : TI w u y2.1 y2.2 ∧ ∀ j, j < y2.1 → (y2.2 j).size ≤ 9223372036854775807) :
    Calls Tryd.prog 9 #[v, u] w fun e w' => e = .returned (.bool true) ∧ Below w.heap.size w w' := by
  obtain ⟨n, R⟩ := y
  obtain ⟨m, f⟩ := y2
  obtain ⟨h, hs⟩ := h
  obtain ⟨hu, hf⟩ := hu
  simp only at h hs hu hf
  have HS := Lib.hid (fun j hj => (hs j hj).1); clear hs
  have HF := Lib.hid hf; clear hf
  by_cases hbig : szT 1048576 n (fun j => (R j).why) < 0
  · go_enter Tryd.func9, Tryd.ntmps9
    go_wp2_with fail
    refine (C_szLookS _ _ _ _ _ h HS.out (by omega) (by omega)).mono ?_; rintro e w1 ⟨rfl, hb1⟩
    go_wp2_with fail
    go_ret
    exact ⟨rfl, hb1⟩
  have hbig0 : 0 ≤ szT 1048576 n (fun j => (R j).why) := by omega
  have hn : n ≤ 1048576 := by have := (szT_small hbig0).1; omega
  have hz1 := szT_le hbig0
  obtain ⟨z, hz⟩ : ∃ z, szT 1048576 n (fun j => (R j).why) = z := ⟨_, rfl⟩
  rw [hz] at hbig0 hz1
  have HZ := Lib.hid hz
  clear hz hbig
  by_cases hbc : szT z m f < 0
  · go_enter Tryd.func9, Tryd.ntmps9
    go_wp2_with fail
    refine (C_szLookS _ _ _ _ _ h HS.out (by omega) (by omega)).mono ?_; rintro e w1 ⟨rfl, hb1⟩
    rw [HZ.out]
    go_wp2_with fail
    refine (C_szStringS _ _ _ _ _ (hu.below hb1) HF.out (by omega) (by omega)).mono ?_; rintro e w2 ⟨rfl, rfl⟩
    go_wp2_with fail
    go_ret
    exact ⟨rfl, hb1⟩
  have hbc0 : 0 ≤ szT z m f := by omega
  have hm : m ≤ 1048576 := by have := (szT_small hbc0).1; omega
  obtain ⟨z2, hz2⟩ : ∃ z2, szT z m f = z2 := ⟨_, rfl⟩
  rw [hz2] at hbc
  have HZ2 := Lib.hid hz2
  obtain ⟨ok, hok⟩ : ∃ ok, ueOk n R m f = ok := ⟨_, rfl⟩
  obtain ⟨L, hL⟩ : ∃ L, ueL n R m f = L := ⟨_, rfl⟩
  have hLl : L.length ≤ 15 := by rw [← hL]; exact ueL_le _ _ _ _
  obtain ⟨l, hl⟩ : ∃ l, L.length = l := ⟨_, rfl⟩
  obtain ⟨F, hFe⟩ : ∃ F, ai L = F := ⟨_, rfl⟩
  have CS : ∀ W v u (hv : LKs W v n R) (hu : TI W u m f), Calls Tryd.prog 36 #[v, u] W fun e w' => ∃ v', e = .returned (.tuple #[v', .bool ok]) ∧ WI W.heap.size w'.heap.size w' v' l F ∧ Below W.heap.size W w' := fun W v u hv hu =>
    (C_UnexplainedS v u n R m f W hv HS.out hu HF.out).mono fun e w' ⟨v', e1, e2, e3⟩ => ⟨v', by rw [e1, hok], by rw [hL] at e2; have := e2.wi; rwa [hl, hFe] at this, e3⟩
  have CI : ∀ W v u (hv : LKs W v n R) (hu : TI W u m f), Calls Tryd.prog 38 #[v, u] W fun e w' => ∃ v', e = .returned (.tuple #[v', .bool ok]) ∧ WI W.heap.size w'.heap.size w' v' l F ∧ Below W.heap.size W w' := fun W v u hv hu =>
    (C_UnexplainedI v u n R m f W hv HS.out hu HF.out).mono fun e w' ⟨v', e1, e2, e3⟩ => ⟨v', by rw [e1, hok], by rw [hL] at e2; have := e2.wi; rwa [hl, hFe] at this, e3⟩
  rw [hl] at hLl
  have HC := Lib.hid (And.intro CI CS)
  have HH := Lib.hid h
  have HU := Lib.hid hu
  clear hok hL hl hFe CS CI hz2 h hu
  go_enter Tryd.func9, Tryd.ntmps9
  go_wp2_with fail
  refine (C_szLookS _ _ _ _ _ HH.out HS.out (by omega) (by omega)).mono ?_; rintro e w1 ⟨rfl, B⟩
  rw [HZ.out]
  go_wp2_with fail
  refine (C_szStringS _ _ _ _ _ (HU.out.below B) HF.out (by omega) (by omega)).mono ?_; rintro e w2 ⟨rfl, rfl⟩
  rw [HZ2.out]
  go_wp2_with fail
  refine (C_toLookS _ _ _ _ (HH.out.below B) hn).mono ?_; rintro e w3 ⟨v3, rfl, hv3, hb⟩
  replace B := bel_step0 hb B
  clear hb
  go_wp2_with fail
  refine (C_toStringS _ _ _ _ (HU.out.below B) hm).mono ?_; rintro e w4 ⟨u4, rfl, hu4, hb⟩
  replace B := bel_step0 hb B
  replace hv3 := hv3.below hb
  clear hb
  go_wp2_with fail
  refine (HC.out.2 _ _ _ hv3.lks hu4.ti).mono ?_; rintro e w5 ⟨v5, rfl, O, hb⟩
  replace B := bel_step0 hb B
  have hzB5 := B.size
  clear hb hv3 hu4
  go_wp2_with fail
  refine (C_toLookS _ _ _ _ (HH.out.below B) hn).mono ?_; rintro e w6 ⟨v6, rfl, X, hb⟩
  replace B := bel_step0 hb B
  have Fw := hb
  have hz56 := hb.size
  clear hb
  go_wp2_with fail
  refine (C_toStringS _ _ _ _ (HU.out.below B) hm).mono ?_; rintro e w7 ⟨u7, rfl, hu7, hb⟩
  have Y := hu7.wt
  replace B := bel_step0 hb B
  replace Fw := bel_step0 hb Fw
  replace X := X.below hb
  have hz67 := hb.size
  clear hb hu7
  go_wp2_with fail
  refine (HC.out.1 _ _ _ X.lks Y.ti).mono ?_; rintro e w8 ⟨v8, rfl, T, hb⟩
  replace B := bel_step0 hb B
  replace Fw := bel_step0 hb Fw
  replace X := X.below hb
  replace Y := Y.below hb
  have hz78 := hb.size
  clear hb
  go_wp2_with fail
  refine (C_eqI_same _ _ _ _ _ T.si (O.below Fw).si).mono ?_; rintro e w9 ⟨rfl, hb⟩
  (replace B := bel_step0 hb B); (replace Fw := bel_step0 hb Fw); (replace X := X.below hb); (replace Y := Y.below hb); (replace T := T.below hb); (try replace hv10 := hv10.below hb); (try replace hv12 := hv12.below hb); clear hb
  go_wp2_with fail
  refine (C_toLookS _ _ _ _ (HH.out.below B) hn).mono ?_; rintro e w10 ⟨v10, rfl, hv10, hb⟩
  (replace B := bel_step0 hb B); (replace Fw := bel_step0 hb Fw); (replace X := X.below hb); (replace Y := Y.below hb); (replace T := T.below hb); (try replace hv10 := hv10.below hb); (try replace hv12 := hv12.below hb); clear hb
  go_wp2_with fail
  refine (C_eqLookS _ _ _ _ _ X.lks hv10.lks).mono ?_; rintro e w11 ⟨rfl, hb⟩
  (replace B := bel_step0 hb B); (replace Fw := bel_step0 hb Fw); (replace X := X.below hb); (replace Y := Y.below hb); (replace T := T.below hb); (try replace hv10 := hv10.below hb); (try replace hv12 := hv12.below hb); clear hb
  clear hv10
  go_wp2_with fail
  refine (C_toStringS _ _ _ _ (HU.out.below B) hm).mono ?_; rintro e w12 ⟨v12, rfl, hv12, hb⟩
  (replace B := bel_step0 hb B); (replace Fw := bel_step0 hb Fw); (replace X := X.below hb); (replace Y := Y.below hb); (replace T := T.below hb); (try replace hv10 := hv10.below hb); (try replace hv12 := hv12.below hb); clear hb
  go_wp2_with fail
  refine (C_eqStringS_same _ _ _ _ _ Y.ti hv12.ti).mono ?_; rintro e w13 ⟨rfl, hb⟩
  (replace B := bel_step0 hb B); (replace Fw := bel_step0 hb Fw); (replace X := X.below hb); (replace Y := Y.below hb); (replace T := T.below hb); (try replace hv10 := hv10.below hb); (try replace hv12 := hv12.below hb); clear hb
  clear hv12
  go_wp2_with fail
  refine (C_markLookS _ _ _ _ _ _ X hn).mono ?_; rintro e w14 ⟨k14, rfl, ⟨hk1, hk2⟩, hc⟩
  replace B := bel_chg hc (by omega) B
  replace Fw := bel_chg hc (by omega) Fw
  replace Y := Y.chg hc (.inr (by omega))
  replace T := T.chg hc (.inr (by omega))
  clear hc X
  go_wp2_with fail
  refine (C_markStringZ _ _ _ _ _ _ _ Y hk1 hk2 hm).mono ?_; rintro e w15 ⟨k15, rfl, hk3, hc⟩
  replace B := bel_chg hc (by omega) B
  replace Fw := bel_chg hc (by omega) Fw
  replace T := T.chg hc (.inr (by omega))
  clear hc Y
  go_wp2_with fail
  refine (C_eqI_same _ _ _ _ _ T.si (O.below Fw).si).mono ?_; rintro e w16 ⟨rfl, hb⟩
  (replace B := bel_step0 hb B); (replace Fw := bel_step0 hb Fw); (replace T := T.below hb); clear hb
  go_wp2_with fail
  refine (C_markIntS _ _ _ 1 _ _ _ T (by omega) (by omega)).mono ?_; rintro e w17 ⟨rfl, T17, hc⟩
  replace B := bel_chg hc (by omega) B
  replace Fw := bel_chg hc (by omega) Fw
  clear hc T
  go_wp2_with fail
  refine (C_heldIntS _ _ 1 _ T17.si (by omega) (by omega)).mono ?_; rintro e w18 ⟨rfl, rfl⟩
  go_wp2_with fail
  refine (C_toLookS _ _ _ _ (HH.out.below B) hn).mono ?_; rintro e w19 ⟨v19, rfl, hv19, hb⟩
  (replace B := bel_step0 hb B); (replace Fw := bel_step0 hb Fw); (replace T17 := T17.below hb); have hb0 := hb; clear hb
  go_wp2_with fail
  refine (C_toStringS _ _ _ _ (HU.out.below B) hm).mono ?_; rintro e w20 ⟨u20, rfl, hu20, hb⟩
  (replace B := bel_step0 hb B); (replace Fw := bel_step0 hb Fw); (replace T17 := T17.below hb); have hb0 := hb; clear hb
  replace hv19 := hv19.below hb0
  clear hb0
  go_wp2_with fail
  refine (HC.out.1 _ _ _ hv19.lks hu20.ti).mono ?_; rintro e w21 ⟨v21, rfl, O21, hb⟩
  (replace B := bel_step0 hb B); (replace Fw := bel_step0 hb Fw); (replace T17 := T17.below hb); have hb0 := hb; clear hb
  clear hv19 hu20 hb0
  go_wp2_with fail
  refine (C_eqI_same _ _ _ _ _ O21.si (O.below Fw).si).mono ?_; rintro e w22 ⟨rfl, hb⟩
  (replace B := bel_step0 hb B); (replace Fw := bel_step0 hb Fw); (replace T17 := T17.below hb); have hb0 := hb; clear hb
  clear hb0 O21
  go_wp2_with fail
  refine (C_heldIntS _ _ 1 _ T17.si (by omega) (by omega)).mono ?_; rintro e w23 ⟨rfl, rfl⟩
  go_wp2_with fail
  go_ret
  exact ⟨rfl, B⟩
set_option maxRecDepth 100000 in
theorem contract (H : Type) (enc : TypeId × Value → H) (W : World) (base : Nat) (args : Array Value) (ds gs : List (DataW H)) (before : List MemPlace)
    (hval0 : ∀ (j : Nat) t v, Tryd.f9.params[j]? = some t → args[j]? = some v → Value.okWide Tryd.prog W .any base t v)
    (hW : DataW.Whole enc Tryd.prog Tryd.f9.params.toList Rows.fnExactUnexplainedSpec.vars false W args.toList ds gs before) (hL : laidMetH Tryd.prog Rows.fnExactUnexplainedRow.laid W) :
    Calls Tryd.prog 9 args W fun e W' => ∃ v, e = .returned v ∧ Rows.fnExactUnexplainedSpec.post enc Tryd.prog Tryd.f9 false true false false W args v W' := by
  have hval : ∀ (j : Nat) t v, Tryd.f9.params[j]? = some t → args[j]? = some v → Value.okWide Tryd.prog W .any base t v := hval0
  have hW' := hW
  obtain ⟨p, q, hA0, hV, rfl, hfz, hnd⟩ := hW
  have hA : DataW.TrodAll enc Tryd.prog W 0 (fun _ => true) true Tryd.f9.params.toList args.toList ds p := hA0
  rw [Tryd.params9] at hA hval
  obtain ⟨v0, vs0, d0, ds0, p0, q0, hargs, rfl, rfl, h0, r0⟩ := trodAll_cons hA
  obtain ⟨v1, vs1, d1, ds1, p1, q1, rfl, rfl, rfl, h1, r1⟩ := trodAll_cons r0
  obtain ⟨rfl, rfl, rfl⟩ := trodAll_nil r1
  obtain rfl : args = #[v0, v1] := by cases args; simp_all
  obtain ⟨rfl, rfl⟩ := trodVars_none hV
  have k0 := h0
  have lt0 : ∀ x ∈ p0, x.block < W.heap.size := by obtain ⟨m, hm⟩ := k0; exact DataW.trod_lt m _ _ _ hm
  have k1 := h1
  have lt1 : ∀ x ∈ p1, x.block < W.heap.size := by obtain ⟨m, hm⟩ := k1; exact DataW.trod_lt m _ _ _ hm
  obtain ⟨n0, b0⟩ := view_SlawsLook (hval 0 29 v0 rfl rfl) h0
  obtain ⟨n1, b1⟩ := view_Sstring (hval 1 49 v1 rfl rfl) h1
  clear hA0 hval0
  refine (walk v0 n0 v1 n1 W b0 b1).mono fun e W' ⟨he, bel⟩ => ?_
  subst he
  exact ⟨_, rfl, _, _, _, [], _, [], hW', trodAll_mk1 (shut_bool Tryd.underlying4 _), (trodAll_cons_mk (Below.trod laidOut (by kernel_rfl) (of_decide_eq_true (by kernel_rfl)) k0 bel lt0) (trodAll_cons_mk (Below.trod laidOut (by kernel_rfl) (of_decide_eq_true (by kernel_rfl)) k1 bel lt1) trodAll_mk0)), rfl, bel.frame _, fun h => by cases h⟩
theorem reads (os : Os) {H : Type} (enc : TypeId × Value → H) : ∃ places, DataW.whole enc Tryd.prog ((doorW os).forCall (fun _ _ => 0) ⟨#[], #[.slice none 0 0, .slice none 0 0], []⟩).memory Tryd.f9.params.toList Rows.fnExactUnexplainedSpec.vars false #[.slice none 0 0, .slice none 0 0].toList 8 = some ([.nil, .nil], [], places) :=
  ⟨[], by kernel_rfl⟩
set_option maxRecDepth 100000 in
theorem lifted (os : Os) (started : os.Started) (H : Type) (enc : TypeId × Value → H) (F : Stop.Interp) :
    ReturnsInHanded {} Tryd.checked os 9 .any ((OpenSpec.ofChange Rows.fnExactUnexplainedSpec).preRow enc Tryd.prog Tryd.f9 Rows.fnExactUnexplainedRow.domain false Rows.fnExactUnexplainedRow.laid) (((OpenSpec.ofChange Rows.fnExactUnexplainedSpec).at F).post enc Tryd.prog Tryd.f9 false true false false) := by
  obtain ⟨places, hx⟩ := reads os enc
  refine returnsInHanded_of_row (C := Tryd.checked) (s := OpenSpec.ofChange Rows.fnExactUnexplainedSpec) own started (by kernel_rfl) Tryd.func9
    (witness_row_at (enc := enc) (C := Tryd.checked) false (doorW os) #[.slice none 0 0, .slice none 0 0] rfl (door_shape os _) (door_rest os _) (by kernel_rfl)
      (OpenSpec.preRow_of_cond 8 hx (by kernel_rfl) (fun k hk => by cases hk) (by kernel_rfl) (door_met os _))) ?_
  intro W base args ds gs before hval hW _ _ _ hL _ _
  exact contract H enc W base args ds gs before hval hW hL
theorem said : Rows.FnExactUnexplainedSaid :=
  OpenClaim.holds_of_cond 9 Tryd.f9 rfl rfl rfl rfl rfl rfl rfl ⟨rfl, rfl, rfl, rfl, rfl⟩ rfl rfl rfl rfl rfl (by kernel_rfl) Tryd.func9 (by kernel_rfl)
    (of_decide_eq_true (by kernel_rfl)) (by unfold Func.isWrapper; first | (rw [if_pos (by decide +kernel)]; kernel_rfl) | (rw [if_neg (by decide +kernel)]; exact ⟨rfl, rfl⟩))
    (fun os started H enc _ F => by rw [OpenClaim.pre_eq_preRow]; exact lifted os started H enc F)
theorem plain (f : FuncId) (fn : Func) (hf : Tryd.pinned.checked.prog.funcNamed Rows.fnExactUnexplainedRow.func = some f) (hfn : Tryd.pinned.checked.prog.funcs[f]? = some fn) :
    false = Tryd.pinned.checked.prog.looks [] ∧ ∀ (j : Nat) t, fn.params[j]? = some t → Tryd.pinned.checked.prog.wantsStandIn t = false := by
  obtain rfl : f = 9 := Option.some.inj ((show Tryd.prog.funcNamed Rows.fnExactUnexplainedRow.func = some 9 by kernel_rfl).symm.trans hf) |>.symm
  obtain rfl : fn = Tryd.f9 := (Option.some.inj (Tryd.func9.symm.trans hfn)).symm
  refine ⟨by kernel_rfl, fun j t ht => ?_⟩
  rw [Tryd.params9] at ht
  have hm : t = 29 ∨ t = 49 := by have := Array.mem_of_getElem? ht; simp at this; omega
  rcases hm with rfl | rfl
  · exact (show Tryd.prog.wantsStandIn 29 = false by kernel_rfl)
  · exact (show Tryd.prog.wantsStandIn 49 = false by kernel_rfl)
theorem proved : Rows.FnExactUnexplainedCardSaid :=
  Claim7.holds_tied_plain_at .later [] _ _ _ _ said (fun _ h => by cases h) (by kernel_rfl) (fun _ h => by cases h) fnExactUnexplained_row_tie rfl ⟨rfl, rfl⟩ (by kernel_rfl) rfl plain (by kernel_rfl)
#print axioms proved
end Go.Proofs.YtmhelhjjadoiaaaDoor.lawFnExactUnexplained
