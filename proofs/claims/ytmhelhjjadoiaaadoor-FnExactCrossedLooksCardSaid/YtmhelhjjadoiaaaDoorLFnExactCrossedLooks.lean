/- The law FnExactCrossedLooks returns true, whatever its arguments, and leaves them as they were. No condition beyond the row's own. -/
import Derived.Test.YtmhelhjjadoiaaaDoorLkJ
import Derived.Test.YtmhelhjjadoiaaaDoorDoorW
import Derived.Test.YtmhelhjjadoiaaaDoorCards
import Derived.Test.YtmhelhjjadoiaaaDoorTie
import Derived.Test.YtmhelhjjadoiaaaDoorOpen
import Derived.Deep.DeepHandedRow
import Derived.LaidMore
import Derived.Deep.DeepLaidRun
import Derived.PinnedBridge
import Derived.OpenShut
import Derived.ChangeMaps5
namespace Go.Proofs.YtmhelhjjadoiaaaDoor.lawFnExactCrossedLooks
open Go.ChangeShapes Go.WideShapes Go.ChangeAt Go.RowKit Go.Deep Go.Joins
open Go.ChangeMaps (open_string shut_string)
set_option linter.unusedVariables false
set_option linter.unusedSimpArgs false
theorem C_eqRes (v v' : Value) (b b' n : Nat) (R : Nat → List Int) (w : World) (h : OSS b w v n R) (h' : OSS b' w v' n R) :
    Calls Tryd.prog 31 #[v, v'] w fun e w' => e = .returned (.bool true) ∧ Below w.heap.size w w' := C_eqIntSS _ _ _ _ _ h.ssi h'.ssi
set_option maxHeartbeats 4000000 in
set_option maxRecDepth 100000 in
theorem walk (v : Value) (y : Nat × (Nat → Lk)) (z : Int) (w : World) (h : LKs w v y.1 y.2 ∧ ∀ j, j < y.1 → (y.2 j).why.size ≤ 9223372036854775807 ∧ I64 (y.2 j).tick) (_ : I64 z) :
    Calls Tryd.prog 8 #[v, .int .i64 z] w fun e w' => e = .returned (.bool true) ∧ Below w.heap.size w w' := by
  obtain ⟨n, R⟩ := y
  obtain ⟨h, hs⟩ := h
  simp only at h hs
  have HS := Lib.hid (fun j hj => (hs j hj).1); clear hs
  by_cases hbig : szT 1048576 n (fun j => (R j).why) < 0
  · go_enter Tryd.func8, Tryd.ntmps8
    go_wp2_with fail
    refine (C_szLookS _ _ _ _ _ h HS.out (by omega) (by omega)).mono ?_; rintro e w1 ⟨rfl, hb1⟩
    go_wp2_with fail
    go_ret
    exact ⟨rfl, hb1⟩
  have hbig0 : 0 ≤ szT 1048576 n (fun j => (R j).why) := by omega
  have hn : n ≤ 1048576 := by have := (szT_small hbig0).1; omega
  obtain ⟨q, hq⟩ : ∃ q, szT 1048576 n (fun j => (R j).why) = q := ⟨_, rfl⟩
  rw [hq] at hbig0
  have HZ := Lib.hid hq
  clear hq hbig
  obtain ⟨ok, hok⟩ : ∃ ok, clOk n R z = ok := ⟨_, rfl⟩
  have hml0 := clL_two n R z
  obtain ⟨l, hl⟩ : ∃ l, (clL n R z).length = l := ⟨_, rfl⟩
  obtain ⟨T, hT⟩ : ∃ T, at_ (clL n R z) = T := ⟨_, rfl⟩
  have hln : l ≤ 1048576 := by rw [← hl]; have := clL_le n R z; omega
  have hml : ∀ j, j < l → (T j).length ≤ 1048576 := fun j _ => by rw [← hT]; have := hml0 j; omega
  have CS : ∀ W v (hv : LKs W v n R), Calls Tryd.prog 29 #[v, .int .i64 z] W fun e w' => ∃ v', e = .returned (.tuple #[v', .bool ok]) ∧ OSS W.heap.size w' v' l T ∧ Below W.heap.size W w' := fun W v hv =>
    (C_CrossedLooksS v n R z W hv HS.out).mono fun e w' ⟨v', e1, e2, e3⟩ => ⟨v', by rw [e1, hok], by rwa [hl, hT] at e2, e3⟩
  have CI : ∀ W v (hv : LKs W v n R), Calls Tryd.prog 30 #[v, .int .i64 z] W fun e w' => ∃ v', e = .returned (.tuple #[v', .bool ok]) ∧ OSS W.heap.size w' v' l T ∧ Below W.heap.size W w' := fun W v hv =>
    (C_CrossedLooksI v n R z W hv HS.out).mono fun e w' ⟨v', e1, e2, e3⟩ => ⟨v', by rw [e1, hok], by rwa [hl, hT] at e2, e3⟩
  have HC := Lib.hid (And.intro CI CS)
  have HH := Lib.hid h
  have HML := Lib.hid hml
  obtain ⟨hmk0, hmk1⟩ := ms_le hml l (Nat.le_refl _)
  clear hok hl hT CS CI h hml hml0
  go_enter Tryd.func8, Tryd.ntmps8
  go_wp2_with fail
  refine (C_szLookS _ _ _ _ _ HH.out HS.out (by omega) (by omega)).mono ?_; rintro e w1 ⟨rfl, B⟩
  rw [HZ.out]
  go_wp2_with fail
  refine (C_toLookS _ _ _ _ (HH.out.below B) hn).mono ?_; rintro e w3 ⟨v3, rfl, hv3, hb⟩
  replace B := bel_step0 hb B
  clear hb
  go_wp2_with fail
  refine (HC.out.2 _ _ hv3.lks).mono ?_; rintro e w5 ⟨v5, rfl, O, hb⟩
  replace B := bel_step0 hb B
  have hzB5 := B.size
  clear hb hv3
  go_wp2_with fail
  refine (C_toLookS _ _ _ _ (HH.out.below B) hn).mono ?_; rintro e w6 ⟨v6, rfl, X, hb⟩
  replace B := bel_step0 hb B
  have Fw := hb
  have hz56 := hb.size
  clear hb
  go_wp2_with fail
  refine (HC.out.1 _ _ X.lks).mono ?_; rintro e w8 ⟨v8, rfl, T8, hb⟩
  replace B := bel_step0 hb B
  replace Fw := bel_step0 hb Fw
  replace X := X.below hb
  have hz68 := hb.size
  clear hb
  go_wp2_with fail
  refine (C_eqRes _ _ _ _ _ _ _ T8 (O.below Fw)).mono ?_; rintro e w9 ⟨rfl, hb⟩
  (have hzz := hb.size); (replace B := bel_step0 hb B); (replace Fw := bel_step0 hb Fw); (replace X := X.below hb); (replace T8 := T8.below hb); (try replace hv10 := hv10.below hb); clear hb
  go_wp2_with fail
  refine (C_toLookS _ _ _ _ (HH.out.below B) hn).mono ?_; rintro e w10 ⟨v10, rfl, hv10, hb⟩
  (have hzz := hb.size); (replace B := bel_step0 hb B); (replace Fw := bel_step0 hb Fw); (replace X := X.below hb); (replace T8 := T8.below hb); (try replace hv10 := hv10.below hb); clear hb
  go_wp2_with fail
  refine (C_eqLookS _ _ _ _ _ X.lks hv10.lks).mono ?_; rintro e w11 ⟨rfl, hb⟩
  (have hzz := hb.size); (replace B := bel_step0 hb B); (replace Fw := bel_step0 hb Fw); (replace X := X.below hb); (replace T8 := T8.below hb); (try replace hv10 := hv10.below hb); clear hb
  clear hv10
  go_wp2_with fail
  refine (C_markLookS _ _ _ _ _ _ X hn).mono ?_; rintro e w14 ⟨k14, rfl, ⟨hk1, hk2⟩, hc⟩
  replace B := bel_chg hc (by omega) B
  replace Fw := bel_chg hc (by omega) Fw
  replace T8 := T8.chg hc (by omega)
  have hzc := hc.size
  clear hc X
  go_wp2_with fail
  refine (C_eqRes _ _ _ _ _ _ _ T8 (O.below Fw)).mono ?_; rintro e w16 ⟨rfl, hb⟩
  replace B := bel_step0 hb B
  replace Fw := bel_step0 hb Fw
  replace T8 := T8.below hb
  have hzF := Fw.size
  have hzq := hb.size
  clear hb
  go_wp2_with fail
  refine (C_markIntSS _ _ _ _ _ T8 hln HML.out (by omega)).mono ?_; rintro e w17 ⟨rfl, T17, hb⟩
  replace B := B.trans (hb.mono (by omega))
  replace Fw := Fw.trans (hb.mono (by omega))
  clear hb T8
  go_wp2_with fail
  refine (C_heldIntSS _ _ _ _ T17 hln HML.out).mono ?_; rintro e w18 ⟨rfl, rfl⟩
  go_wp2_with fail
  refine (C_toLookS _ _ _ _ (HH.out.below B) hn).mono ?_; rintro e w19 ⟨v19, rfl, hv19, hb⟩
  (replace B := bel_step0 hb B); (replace Fw := bel_step0 hb Fw); (replace T17 := T17.below hb); have hb0 := hb; clear hb
  clear hb0
  go_wp2_with fail
  refine (HC.out.1 _ _ hv19.lks).mono ?_; rintro e w21 ⟨v21, rfl, O21, hb⟩
  (replace B := bel_step0 hb B); (replace Fw := bel_step0 hb Fw); (replace T17 := T17.below hb); have hb0 := hb; clear hb
  clear hv19 hb0
  go_wp2_with fail
  refine (C_eqRes _ _ _ _ _ _ _ O21 (O.below Fw)).mono ?_; rintro e w22 ⟨rfl, hb⟩
  (replace B := bel_step0 hb B); (replace Fw := bel_step0 hb Fw); (replace T17 := T17.below hb); have hb0 := hb; clear hb
  clear hb0 O21
  go_wp2_with fail
  refine (C_heldIntSS _ _ _ _ T17 hln HML.out).mono ?_; rintro e w23 ⟨rfl, rfl⟩
  go_wp2_with fail
  go_ret
  exact ⟨rfl, B⟩
set_option maxRecDepth 100000 in
theorem contract (H : Type) (enc : TypeId × Value → H) (W : World) (base : Nat) (args : Array Value) (ds gs : List (DataW H)) (before : List MemPlace)
    (hval0 : ∀ (j : Nat) t v, Tryd.f8.params[j]? = some t → args[j]? = some v → Value.okWide Tryd.prog W .any base t v)
    (hW : DataW.Whole enc Tryd.prog Tryd.f8.params.toList Rows.fnExactCrossedLooksSpec.vars false W args.toList ds gs before) (hL : laidMetH Tryd.prog Rows.fnExactCrossedLooksRow.laid W) :
    Calls Tryd.prog 8 args W fun e W' => ∃ v, e = .returned v ∧ Rows.fnExactCrossedLooksSpec.post enc Tryd.prog Tryd.f8 false true false false W args v W' := by
  have hval : ∀ (j : Nat) t v, Tryd.f8.params[j]? = some t → args[j]? = some v → Value.okWide Tryd.prog W .any base t v := hval0
  have hW' := hW
  obtain ⟨p, q, hA0, hV, rfl, hfz, hnd⟩ := hW
  have hA : DataW.TrodAll enc Tryd.prog W 0 (fun _ => true) true Tryd.f8.params.toList args.toList ds p := hA0
  rw [Tryd.params8] at hA hval
  obtain ⟨v0, vs0, d0, ds0, p0, q0, hargs, rfl, rfl, h0, r0⟩ := trodAll_cons hA
  obtain ⟨v1, vs1, d1, ds1, p1, q1, rfl, rfl, rfl, h1, r1⟩ := trodAll_cons r0
  obtain ⟨rfl, rfl, rfl⟩ := trodAll_nil r1
  obtain rfl : args = #[v0, v1] := by cases args; simp_all
  obtain ⟨rfl, rfl⟩ := trodVars_none hV
  have k0 := h0
  have lt0 : ∀ x ∈ p0, x.block < W.heap.size := by obtain ⟨m, hm⟩ := k0; exact DataW.trod_lt m _ _ _ hm
  have k1 := h1
  have lt1 : ∀ x ∈ p1, x.block < W.heap.size := by obtain ⟨m, hm⟩ := k1; exact DataW.trod_lt m _ _ _ hm
  obtain ⟨n0, b0⟩ := view_SlawsLook (hval 0 29 v0 rfl rfl) h0
  obtain ⟨n1, rfl, _, _, b1⟩ := open_int Tryd.underlying3 (hval 1 3 v1 rfl rfl) h1
  clear hA0 hval0
  refine (walk v0 n0 n1 W b0 (i64_of_wf b1)).mono fun e W' ⟨he, bel⟩ => ?_
  subst he
  exact ⟨_, rfl, _, _, _, [], _, [], hW', trodAll_mk1 (shut_bool Tryd.underlying4 _), (trodAll_cons_mk (Below.trod laidOut (by kernel_rfl) (of_decide_eq_true (by kernel_rfl)) k0 bel lt0) (trodAll_cons_mk (Below.trod laidOut (by kernel_rfl) (of_decide_eq_true (by kernel_rfl)) k1 bel lt1) trodAll_mk0)), rfl, bel.frame _, fun h => by cases h⟩
theorem reads (os : Os) {H : Type} (enc : TypeId × Value → H) : ∃ places, DataW.whole enc Tryd.prog ((doorW os).forCall (fun _ _ => 0) ⟨#[], #[.slice none 0 0, .int .i64 0], []⟩).memory Tryd.f8.params.toList Rows.fnExactCrossedLooksSpec.vars false #[.slice none 0 0, .int .i64 0].toList 8 = some ([.nil, .lit (.int .i64 0)], [], places) :=
  ⟨[], by kernel_rfl⟩
set_option maxRecDepth 100000 in
theorem lifted (os : Os) (started : os.Started) (H : Type) (enc : TypeId × Value → H) (F : Stop.Interp) :
    ReturnsInHanded {} Tryd.checked os 8 .any ((OpenSpec.ofChange Rows.fnExactCrossedLooksSpec).preRow enc Tryd.prog Tryd.f8 Rows.fnExactCrossedLooksRow.domain false Rows.fnExactCrossedLooksRow.laid) (((OpenSpec.ofChange Rows.fnExactCrossedLooksSpec).at F).post enc Tryd.prog Tryd.f8 false true false false) := by
  obtain ⟨places, hx⟩ := reads os enc
  refine returnsInHanded_of_row (C := Tryd.checked) (s := OpenSpec.ofChange Rows.fnExactCrossedLooksSpec) own started (by kernel_rfl) Tryd.func8
    (witness_row_at (enc := enc) (C := Tryd.checked) false (doorW os) #[.slice none 0 0, .int .i64 0] rfl (door_shape os _) (door_rest os _) (by kernel_rfl)
      (OpenSpec.preRow_of_cond 8 hx (by kernel_rfl) (fun k hk => by cases hk) (by kernel_rfl) (door_met os _))) ?_
  intro W base args ds gs before hval hW _ _ _ hL _ _
  exact contract H enc W base args ds gs before hval hW hL
theorem said : Rows.FnExactCrossedLooksSaid :=
  OpenClaim.holds_of_cond 8 Tryd.f8 rfl rfl rfl rfl rfl rfl rfl ⟨rfl, rfl, rfl, rfl, rfl⟩ rfl rfl rfl rfl rfl (by kernel_rfl) Tryd.func8 (by kernel_rfl)
    (of_decide_eq_true (by kernel_rfl)) (by unfold Func.isWrapper; first | (rw [if_pos (by decide +kernel)]; kernel_rfl) | (rw [if_neg (by decide +kernel)]; exact ⟨rfl, rfl⟩))
    (fun os started H enc _ F => by rw [OpenClaim.pre_eq_preRow]; exact lifted os started H enc F)
theorem plain (f : FuncId) (fn : Func) (hf : Tryd.pinned.checked.prog.funcNamed Rows.fnExactCrossedLooksRow.func = some f) (hfn : Tryd.pinned.checked.prog.funcs[f]? = some fn) :
    false = Tryd.pinned.checked.prog.looks [] ∧ ∀ (j : Nat) t, fn.params[j]? = some t → Tryd.pinned.checked.prog.wantsStandIn t = false := by
  obtain rfl : f = 8 := Option.some.inj ((show Tryd.prog.funcNamed Rows.fnExactCrossedLooksRow.func = some 8 by kernel_rfl).symm.trans hf) |>.symm
  obtain rfl : fn = Tryd.f8 := (Option.some.inj (Tryd.func8.symm.trans hfn)).symm
  refine ⟨by kernel_rfl, fun j t ht => ?_⟩
  rw [Tryd.params8] at ht
  have hm : t = 29 ∨ t = 3 := by have := Array.mem_of_getElem? ht; simp at this; omega
  rcases hm with rfl | rfl
  · exact (show Tryd.prog.wantsStandIn 29 = false by kernel_rfl)
  · exact (show Tryd.prog.wantsStandIn 3 = false by kernel_rfl)
theorem proved : Rows.FnExactCrossedLooksCardSaid :=
  Claim7.holds_tied_plain_at .later [] _ _ _ _ said (fun _ h => by cases h) (by kernel_rfl) (fun _ h => by cases h) fnExactCrossedLooks_row_tie rfl ⟨rfl, rfl⟩ (by kernel_rfl) rfl plain (by kernel_rfl)
#print axioms proved
end Go.Proofs.YtmhelhjjadoiaaaDoor.lawFnExactCrossedLooks
