/- The law FnExactMergeAccounts returns true, whatever its arguments, and leaves them as they were. No condition beyond the row's own. -/
import Derived.Test.YtmhelhjjadoiaaaDoorMgJ
import Derived.Test.YtmhelhjjadoiaaaDoorDoorW
import Derived.Test.YtmhelhjjadoiaaaDoorCards
import Derived.Test.YtmhelhjjadoiaaaDoorTie
import Derived.Test.YtmhelhjjadoiaaaDoorOpen
import Derived.Deep.DeepHandedRow
import Derived.LaidMore
import Derived.Deep.DeepLaidRun
import Derived.PinnedBridge
import Derived.OpenShut
import Derived.ChangeMaps5
namespace Go.Proofs.YtmhelhjjadoiaaaDoor.lawFnExactMergeAccounts
open Go.ChangeShapes Go.WideShapes Go.ChangeAt Go.RowKit Go.Deep Go.Joins
open Go.ChangeMaps (open_string shut_string)
set_option linter.unusedVariables false
set_option linter.unusedSimpArgs false
theorem ol_lksM {base k0 n : Nat} {w : World} {v : Value} (h : OL base w v (seg (mkL k0) 0 n)) : LKs w v n (mkL k0) := by
  have := h.lks
  rw [seg_len] at this
  obtain ⟨A, cap, e, hr, h2⟩ := this
  exact ⟨A, cap, e, hr.congr fun j hj => atK_seg hj, h2⟩
set_option maxHeartbeats 4000000 in
set_option maxRecDepth 100000 in
theorem walk (v : Value) (y : Nat × (Nat → Lk)) (u : Value) (y2 : Nat × (Nat → Lk)) (w : World) (h : LKs w v y.1 y.2 ∧ ∀ j, j < y.1 → (y.2 j).why.size ≤ 9223372036854775807 ∧ I64 (y.2 j).tick) (hu : LKs w u y2.1 y2.2 ∧ ∀ j, j < y2.1 → (y2.2 j).why.size ≤ 9223372036854775807 ∧ I64 (y2.2 j).tick) :
    Calls Tryd.prog 11 #[v, u] w fun e w' => e = .returned (.bool true) ∧ Below w.heap.size w w' := by
  obtain ⟨n, R⟩ := y
  obtain ⟨m, S⟩ := y2
  obtain ⟨h, hs⟩ := h
  obtain ⟨hu, hf⟩ := hu
  simp only at h hs hu hf
  have HS := Lib.hid (fun j hj => (hs j hj).1); clear hs
  have HF := Lib.hid (fun j hj => (hf j hj).1); clear hf
  by_cases hbig : szT 1048576 n (fun j => (R j).why) < 0
  · go_enter Tryd.func11, Tryd.ntmps11
    go_wp2_with fail
    refine (C_szLookS _ _ _ _ _ h HS.out (by omega) (by omega)).mono ?_; rintro e w1 ⟨rfl, hb1⟩
    go_wp2_with fail
    go_ret
    exact ⟨rfl, hb1⟩
  have hbig0 : 0 ≤ szT 1048576 n (fun j => (R j).why) := by omega
  have hn : n ≤ 1048576 := by have := (szT_small hbig0).1; omega
  have hz1 := szT_le hbig0
  obtain ⟨z, hz⟩ : ∃ z, szT 1048576 n (fun j => (R j).why) = z := ⟨_, rfl⟩
  rw [hz] at hbig0 hz1
  have HZ := Lib.hid hz
  clear hz hbig
  by_cases hbc : szT z m (fun j => (S j).why) < 0
  · go_enter Tryd.func11, Tryd.ntmps11
    go_wp2_with fail
    refine (C_szLookS _ _ _ _ _ h HS.out (by omega) (by omega)).mono ?_; rintro e w1 ⟨rfl, hb1⟩
    rw [HZ.out]
    go_wp2_with fail
    refine (C_szLookS _ _ _ _ _ (hu.below hb1) HF.out (by omega) (by omega)).mono ?_; rintro e w2 ⟨rfl, hb2⟩
    go_wp2_with fail
    go_ret
    exact ⟨rfl, bel_step0 hb2 hb1⟩
  have hbc0 : 0 ≤ szT z m (fun j => (S j).why) := by omega
  have hm : m ≤ 1048576 := by have := (szT_small hbc0).1; omega
  obtain ⟨z2, hz2⟩ : ∃ z2, szT z m (fun j => (S j).why) = z2 := ⟨_, rfl⟩
  rw [hz2] at hbc
  have HZ2 := Lib.hid hz2
  obtain ⟨ok, hok⟩ : ∃ ok, mgOk n R m S = ok := ⟨_, rfl⟩
  obtain ⟨L, hL⟩ : ∃ L, mgL n R m S = L := ⟨_, rfl⟩
  obtain ⟨l, hl⟩ : ∃ l, L.length = l := ⟨_, rfl⟩
  have hl15 : l ≤ 15 := by
    rw [← hl, ← hL]
    unfold mgL
    split
    · rename_i h
      unfold mgOk at h
      simp only [Bool.and_eq_true] at h
      exact (accB_at h.2.2).1
    · simp
  have CS : ∀ W v u (hv : LKs W v n R) (hu : LKs W u m S), Calls Tryd.prog 46 #[v, u] W fun e w' => ∃ v', e = .returned (.tuple #[v', .bool ok]) ∧ OL W.heap.size w' v' L ∧ Below W.heap.size W w' := fun W v u hv hu =>
    (C_MergeS v u n m R S W hv hu HS.out HF.out).mono fun e w' ⟨v', e1, e2, e3⟩ => ⟨v', by rw [e1, hok], by rwa [hL] at e2, e3⟩
  have CI : ∀ W v u (hv : LKs W v n R) (hu : LKs W u m S), Calls Tryd.prog 47 #[v, u] W fun e w' => ∃ v', e = .returned (.tuple #[v', .bool ok]) ∧ OL W.heap.size w' v' L ∧ Below W.heap.size W w' := fun W v u hv hu =>
    (C_MergeI v u n m R S W hv hu HS.out HF.out).mono fun e w' ⟨v', e1, e2, e3⟩ => ⟨v', by rw [e1, hok], by rwa [hL] at e2, e3⟩
  have HC := Lib.hid (And.intro CI CS)
  have HH := Lib.hid h
  have HU := Lib.hid hu
  have HLL := Lib.hid hl
  clear hok hL hl CS CI hz2 h hu
  go_enter Tryd.func11, Tryd.ntmps11
  go_wp2_with fail
  refine (C_szLookS _ _ _ _ _ HH.out HS.out (by omega) (by omega)).mono ?_; rintro e w1 ⟨rfl, B⟩
  rw [HZ.out]
  go_wp2_with fail
  refine (C_szLookS _ _ _ _ _ (HU.out.below B) HF.out (by omega) (by omega)).mono ?_; rintro e w2 ⟨rfl, hb⟩
  rw [HZ2.out]
  replace B := bel_step0 hb B
  clear hb
  go_wp2_with fail
  refine (C_toLookS _ _ _ _ (HH.out.below B) hn).mono ?_; rintro e w3 ⟨v3, rfl, hv3, hb⟩
  replace B := bel_step0 hb B
  clear hb
  go_wp2_with fail
  refine (C_toLookS _ _ _ _ (HU.out.below B) hm).mono ?_; rintro e w4 ⟨u4, rfl, hu4, hb⟩
  replace B := bel_step0 hb B
  replace hv3 := hv3.below hb
  clear hb
  go_wp2_with fail
  refine (HC.out.2 _ _ _ hv3.lks hu4.lks).mono ?_; rintro e w5 ⟨v5, rfl, O, hb⟩
  replace B := bel_step0 hb B
  have hzB5 := B.size
  clear hb hv3 hu4
  go_wp2_with fail
  refine (C_toLookS _ _ _ _ (HH.out.below B) hn).mono ?_; rintro e w6 ⟨v6, rfl, X, hb⟩
  replace B := bel_step0 hb B
  have Fw := hb
  have hz56 := hb.size
  clear hb
  go_wp2_with fail
  refine (C_toLookS _ _ _ _ (HU.out.below B) hm).mono ?_; rintro e w7 ⟨u7, rfl, Y, hb⟩
  replace B := bel_step0 hb B
  replace Fw := bel_step0 hb Fw
  replace X := X.below hb
  have hz67 := hb.size
  clear hb
  go_wp2_with fail
  refine (HC.out.1 _ _ _ X.lks Y.lks).mono ?_; rintro e w8 ⟨v8, rfl, T, hb⟩
  replace B := bel_step0 hb B
  replace Fw := bel_step0 hb Fw
  replace X := X.below hb
  replace Y := Y.below hb
  have hz78 := hb.size
  clear hb
  go_wp2_with fail
  refine (C_eqLookS _ _ _ _ _ T.lks (O.below Fw).lks).mono ?_; rintro e w9 ⟨rfl, hb⟩
  (have hzz := hb.size); (replace B := bel_step0 hb B); (replace Fw := bel_step0 hb Fw); (replace X := X.below hb); (replace Y := Y.below hb); (replace T := T.below hb); (try replace hv10 := hv10.below hb); clear hb
  go_wp2_with fail
  refine (C_toLookS _ _ _ _ (HH.out.below B) hn).mono ?_; rintro e w10 ⟨v10, rfl, hv10, hb⟩
  (have hzz := hb.size); (replace B := bel_step0 hb B); (replace Fw := bel_step0 hb Fw); (replace X := X.below hb); (replace Y := Y.below hb); (replace T := T.below hb); (try replace hv10 := hv10.below hb); clear hb
  go_wp2_with fail
  refine (C_eqLookS _ _ _ _ _ X.lks hv10.lks).mono ?_; rintro e w11 ⟨rfl, hb⟩
  (have hzz := hb.size); (replace B := bel_step0 hb B); (replace Fw := bel_step0 hb Fw); (replace X := X.below hb); (replace Y := Y.below hb); (replace T := T.below hb); (try replace hv10 := hv10.below hb); clear hb
  clear hv10
  go_wp2_with fail
  refine (C_toLookS _ _ _ _ (HU.out.below B) hm).mono ?_; rintro e w12 ⟨v12, rfl, hv10, hb⟩
  (have hzz := hb.size); (replace B := bel_step0 hb B); (replace Fw := bel_step0 hb Fw); (replace X := X.below hb); (replace Y := Y.below hb); (replace T := T.below hb); (try replace hv10 := hv10.below hb); clear hb
  go_wp2_with fail
  refine (C_eqLookS _ _ _ _ _ Y.lks hv10.lks).mono ?_; rintro e w13 ⟨rfl, hb⟩
  (have hzz := hb.size); (replace B := bel_step0 hb B); (replace Fw := bel_step0 hb Fw); (replace X := X.below hb); (replace Y := Y.below hb); (replace T := T.below hb); (try replace hv10 := hv10.below hb); clear hb
  clear hv10
  go_wp2_with fail
  refine (C_markLookS _ _ _ _ _ _ X hn).mono ?_; rintro e w14 ⟨k14, rfl, ⟨hk1, hk2⟩, hc⟩
  replace B := bel_chg hc (by omega) B
  replace Fw := bel_chg hc (by omega) Fw
  replace Y := Y.chg hc (.inr (by omega))
  replace T := T.chg hc (by omega)
  clear hc X
  obtain ⟨q14, rfl⟩ : ∃ q : Nat, k14 = (q : Int) := ⟨k14.toNat, by omega⟩
  go_wp2_with fail
  refine (C_markLookZ _ _ q14 _ _ _ _ Y hm (by omega) (by omega)).mono ?_; rintro e w15 ⟨k15, rfl, ⟨hk3, hk4⟩, hc⟩
  replace B := bel_chg hc (by omega) B
  replace Fw := bel_chg hc (by omega) Fw
  replace T := T.chg hc (by omega)
  clear hc Y
  go_wp2_with fail
  refine (C_eqLookS _ _ _ _ _ T.lks (O.below Fw).lks).mono ?_; rintro e w16 ⟨rfl, hb⟩
  (have hzz := hb.size); (replace B := bel_step0 hb B); (replace Fw := bel_step0 hb Fw); (replace T := T.below hb); (try replace hv10 := hv10.below hb); (try replace hv11 := hv11.below hb); clear hb
  have hzB := B.size
  have hzF := Fw.size
  have hmk := C_markOL _ 1 l v8 L w16 HLL.out T (by omega) (by omega) (by omega)
  go_wp2_with fail
  refine hmk.mono ?_; rintro e w17 ⟨rfl, T17, hg⟩
  have hTl := fun k hk => (OL.lt T k hk).1
  replace B := B.trans ((Below.refl _ w16).grown hg hzB (fun k hk => Nat.le_trans (by omega) (hTl k hk)))
  replace Fw := Fw.trans ((Below.refl _ w16).grown hg hzF (fun k hk => Nat.le_trans (by omega) (hTl k hk)))
  replace T := T17
  clear hg hTl T17 hmk
  have hhd := C_heldLookS v8 l 1 w17 (ol_lksM T) (by omega) (by omega) (by omega)
  go_wp2_with fail
  refine hhd.mono ?_; rintro e w18 ⟨rfl, hb⟩
  (have hzz := hb.size); (replace B := bel_step0 hb B); (replace Fw := bel_step0 hb Fw); (replace T := T.below hb); (try replace hv10 := hv10.below hb); (try replace hv11 := hv11.below hb); clear hb
  clear hhd
  go_wp2_with fail
  refine (C_toLookS _ _ _ _ (HH.out.below B) hn).mono ?_; rintro e w19 ⟨v19, rfl, hv10, hb⟩
  (have hzz := hb.size); (replace B := bel_step0 hb B); (replace Fw := bel_step0 hb Fw); (replace T := T.below hb); clear hb
  go_wp2_with fail
  refine (C_toLookS _ _ _ _ (HU.out.below B) hm).mono ?_; rintro e w20 ⟨v20, rfl, hv11, hb⟩
  (replace B := bel_step0 hb B); (replace Fw := bel_step0 hb Fw); (replace T := T.below hb); (replace hv10 := hv10.below hb); clear hb
  go_wp2_with fail
  refine (HC.out.1 _ _ _ hv10.lks hv11.lks).mono ?_; rintro e w21 ⟨v21, rfl, O21, hb⟩
  (replace B := bel_step0 hb B); (replace Fw := bel_step0 hb Fw); (replace T := T.below hb); clear hb hv10 hv11
  go_wp2_with fail
  refine (C_eqLookS _ _ _ _ _ O21.lks (O.below Fw).lks).mono ?_; rintro e w22 ⟨rfl, hb⟩
  (replace B := bel_step0 hb B); (replace Fw := bel_step0 hb Fw); (replace T := T.below hb); clear hb O21
  have hhd := C_heldLookS v8 l 1 w22 (ol_lksM T) (by omega) (by omega) (by omega)
  go_wp2_with fail
  refine hhd.mono ?_; rintro e w23 ⟨rfl, hb⟩
  replace B := bel_step0 hb B
  clear hhd
  go_wp2_with fail
  go_ret
  exact ⟨rfl, B⟩
set_option maxRecDepth 100000 in
theorem contract (H : Type) (enc : TypeId × Value → H) (W : World) (base : Nat) (args : Array Value) (ds gs : List (DataW H)) (before : List MemPlace)
    (hval0 : ∀ (j : Nat) t v, Tryd.f11.params[j]? = some t → args[j]? = some v → Value.okWide Tryd.prog W .any base t v)
    (hW : DataW.Whole enc Tryd.prog Tryd.f11.params.toList Rows.fnExactMergeAccountsSpec.vars false W args.toList ds gs before) (hL : laidMetH Tryd.prog Rows.fnExactMergeAccountsRow.laid W) :
    Calls Tryd.prog 11 args W fun e W' => ∃ v, e = .returned v ∧ Rows.fnExactMergeAccountsSpec.post enc Tryd.prog Tryd.f11 false true false false W args v W' := by
  have hval : ∀ (j : Nat) t v, Tryd.f11.params[j]? = some t → args[j]? = some v → Value.okWide Tryd.prog W .any base t v := hval0
  have hW' := hW
  obtain ⟨p, q, hA0, hV, rfl, hfz, hnd⟩ := hW
  have hA : DataW.TrodAll enc Tryd.prog W 0 (fun _ => true) true Tryd.f11.params.toList args.toList ds p := hA0
  rw [Tryd.params11] at hA hval
  obtain ⟨v0, vs0, d0, ds0, p0, q0, hargs, rfl, rfl, h0, r0⟩ := trodAll_cons hA
  obtain ⟨v1, vs1, d1, ds1, p1, q1, rfl, rfl, rfl, h1, r1⟩ := trodAll_cons r0
  obtain ⟨rfl, rfl, rfl⟩ := trodAll_nil r1
  obtain rfl : args = #[v0, v1] := by cases args; simp_all
  obtain ⟨rfl, rfl⟩ := trodVars_none hV
  have k0 := h0
  have lt0 : ∀ x ∈ p0, x.block < W.heap.size := by obtain ⟨m, hm⟩ := k0; exact DataW.trod_lt m _ _ _ hm
  have k1 := h1
  have lt1 : ∀ x ∈ p1, x.block < W.heap.size := by obtain ⟨m, hm⟩ := k1; exact DataW.trod_lt m _ _ _ hm
  obtain ⟨n0, b0⟩ := view_SlawsLook (hval 0 29 v0 rfl rfl) h0
  obtain ⟨n1, b1⟩ := view_SlawsLook (hval 1 29 v1 rfl rfl) h1
  clear hA0 hval0
  refine (walk v0 n0 v1 n1 W b0 b1).mono fun e W' ⟨he, bel⟩ => ?_
  subst he
  exact ⟨_, rfl, _, _, _, [], _, [], hW', trodAll_mk1 (shut_bool Tryd.underlying4 _), (trodAll_cons_mk (Below.trod laidOut (by kernel_rfl) (of_decide_eq_true (by kernel_rfl)) k0 bel lt0) (trodAll_cons_mk (Below.trod laidOut (by kernel_rfl) (of_decide_eq_true (by kernel_rfl)) k1 bel lt1) trodAll_mk0)), rfl, bel.frame _, fun h => by cases h⟩
theorem reads (os : Os) {H : Type} (enc : TypeId × Value → H) : ∃ places, DataW.whole enc Tryd.prog ((doorW os).forCall (fun _ _ => 0) ⟨#[], #[.slice none 0 0, .slice none 0 0], []⟩).memory Tryd.f11.params.toList Rows.fnExactMergeAccountsSpec.vars false #[.slice none 0 0, .slice none 0 0].toList 8 = some ([.nil, .nil], [], places) :=
  ⟨[], by kernel_rfl⟩
set_option maxRecDepth 100000 in
theorem lifted (os : Os) (started : os.Started) (H : Type) (enc : TypeId × Value → H) (F : Stop.Interp) :
    ReturnsInHanded {} Tryd.checked os 11 .any ((OpenSpec.ofChange Rows.fnExactMergeAccountsSpec).preRow enc Tryd.prog Tryd.f11 Rows.fnExactMergeAccountsRow.domain false Rows.fnExactMergeAccountsRow.laid) (((OpenSpec.ofChange Rows.fnExactMergeAccountsSpec).at F).post enc Tryd.prog Tryd.f11 false true false false) := by
  obtain ⟨places, hx⟩ := reads os enc
  refine returnsInHanded_of_row (C := Tryd.checked) (s := OpenSpec.ofChange Rows.fnExactMergeAccountsSpec) own started (by kernel_rfl) Tryd.func11
    (witness_row_at (enc := enc) (C := Tryd.checked) false (doorW os) #[.slice none 0 0, .slice none 0 0] rfl (door_shape os _) (door_rest os _) (by kernel_rfl)
      (OpenSpec.preRow_of_cond 8 hx (by kernel_rfl) (fun k hk => by cases hk) (by kernel_rfl) (door_met os _))) ?_
  intro W base args ds gs before hval hW _ _ _ hL _ _
  exact contract H enc W base args ds gs before hval hW hL
theorem said : Rows.FnExactMergeAccountsSaid :=
  OpenClaim.holds_of_cond 11 Tryd.f11 rfl rfl rfl rfl rfl rfl rfl ⟨rfl, rfl, rfl, rfl, rfl⟩ rfl rfl rfl rfl rfl (by kernel_rfl) Tryd.func11 (by kernel_rfl)
    (of_decide_eq_true (by kernel_rfl)) (by unfold Func.isWrapper; first | (rw [if_pos (by decide +kernel)]; kernel_rfl) | (rw [if_neg (by decide +kernel)]; exact ⟨rfl, rfl⟩))
    (fun os started H enc _ F => by rw [OpenClaim.pre_eq_preRow]; exact lifted os started H enc F)
theorem plain (f : FuncId) (fn : Func) (hf : Tryd.pinned.checked.prog.funcNamed Rows.fnExactMergeAccountsRow.func = some f) (hfn : Tryd.pinned.checked.prog.funcs[f]? = some fn) :
    false = Tryd.pinned.checked.prog.looks [] ∧ ∀ (j : Nat) t, fn.params[j]? = some t → Tryd.pinned.checked.prog.wantsStandIn t = false := by
  obtain rfl : f = 11 := Option.some.inj ((show Tryd.prog.funcNamed Rows.fnExactMergeAccountsRow.func = some 11 by kernel_rfl).symm.trans hf) |>.symm
  obtain rfl : fn = Tryd.f11 := (Option.some.inj (Tryd.func11.symm.trans hfn)).symm
  refine ⟨by kernel_rfl, fun j t ht => ?_⟩
  rw [Tryd.params11] at ht
  have hm : t = 29 := by have := Array.mem_of_getElem? ht; simp at this; omega
  obtain rfl := hm
  exact (show Tryd.prog.wantsStandIn 29 = false by kernel_rfl)
theorem proved : Rows.FnExactMergeAccountsCardSaid :=
  Claim7.holds_tied_plain_at .later [] _ _ _ _ said (fun _ h => by cases h) (by kernel_rfl) (fun _ h => by cases h) fnExactMergeAccounts_row_tie rfl ⟨rfl, rfl⟩ (by kernel_rfl) rfl plain (by kernel_rfl)
#print axioms proved
end Go.Proofs.YtmhelhjjadoiaaaDoor.lawFnExactMergeAccounts
