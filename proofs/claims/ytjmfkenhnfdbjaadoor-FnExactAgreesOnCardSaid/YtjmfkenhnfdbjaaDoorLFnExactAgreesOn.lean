/- The law FnExactAgreesOn returns true, whatever its arguments, and leaves them as they were. No condition beyond the row's own. -/
import Derived.Test.YtjmfkenhnfdbjaaDoorQzE
import Derived.Test.YtjmfkenhnfdbjaaDoorQzB
import Derived.Test.YtjmfkenhnfdbjaaDoorQzA
import Derived.Test.YtjmfkenhnfdbjaaDoorDoorW
import Derived.Test.YtjmfkenhnfdbjaaDoorCards
import Derived.Test.YtjmfkenhnfdbjaaDoorTie
import Derived.Test.YtjmfkenhnfdbjaaDoorOpen
import Derived.Deep.DeepHandedRow
import Derived.LaidMore
import Derived.Deep.DeepLaidRun
import Derived.PinnedBridge
import Derived.OpenShut
import Derived.ChangeMaps5
namespace Go.Proofs.YtjmfkenhnfdbjaaDoor.lawFnExactAgreesOn
open Go.ChangeShapes Go.WideShapes Go.ChangeAt Go.RowKit Go.Deep Go.Joins
open Go.ChangeMaps (open_string shut_string)
set_option linter.unusedVariables false
set_option maxHeartbeats 4000000 in
theorem walk (a b : ByteArray) (v : Value) (x : Nat × (Nat → Rc)) (w : World) (ha0 : a.size ≤ maxLen) (hb0 : b.size ≤ maxLen) (h : RcS w v x.1 x.2) (hk : Pk w) :
    Calls Tryd.prog 5 #[.string a, .string b, v] w fun e w' => e = .returned (.bool true) ∧ Below w.heap.size w w' := by
  obtain ⟨n, R⟩ := x
  simp only at h
  unfold maxLen at ha0 hb0
  by_cases ha : a.size ≤ 1048576
  · by_cases hb : b.size ≤ 1048576
    · have HZ := Lib.hid (C_szRecordS v n R 1048576 w h (by omega) (by omega))
      by_cases hbig : szRs 1048576 n R < 0
      · go_enter Tryd.func5, Tryd.ntmps5
        go_wp2_with fail
        refine HZ.out.mono ?_; rintro e w1 ⟨rfl, hb1⟩
        go_wp2_with fail
        go_ret
        exact ⟨rfl, hb1⟩
      · obtain ⟨hn, hsm⟩ := szRs_small (show 0 ≤ szRs 1048576 n R by omega)
        obtain ⟨z, hz⟩ : ∃ z, szRs 1048576 n R = z := ⟨_, rfl⟩
        rw [hz] at HZ hbig
        obtain ⟨V, hV⟩ : ∃ V, aoV a b n R = V := ⟨_, rfl⟩
        obtain ⟨K, hK⟩ : ∃ K, aoOk a b n R = K := ⟨_, rfl⟩
        have HT := Lib.hid (fun w' (hb : Below w.heap.size w w') => C_toRecordS v n R w' (h.below hb) hn hsm)
        have HS := Lib.hid (fun v w' h => C_AgreesOnS a b v n R ha hb w' h)
        have HI := Lib.hid (fun v w' (hbw : Below w.heap.size w w') h => C_AgreesOnI a b v n R ha hb w' (hk.below hbw) h)
        rw [hV, hK] at HS HI
        clear hz hV hK h hk hsm
        go_enter Tryd.func5, Tryd.ntmps5
        go_wp2_with fail
        refine HZ.out.mono ?_; rintro e w1 ⟨rfl, hb1⟩
        have HB1 := Lib.hid hb1
        clear hb1
        go_wp2_with fail
        refine (HT.out _ HB1.out).mono ?_; rintro e w2 ⟨v2, rfl, hv2, hb2⟩
        have HB2 := Lib.hid (bel_step0 hb2 HB1.out)
        have HV2 := Lib.hid hv2.rcs
        clear hb2 hv2
        go_wp2_with fail
        refine (HS.out _ _ HV2.out).mono ?_; rintro e w3 ⟨rfl, hb3⟩
        have HB3 := Lib.hid (bel_step0 hb3 HB2.out)
        clear hb3
        go_wp2_with fail
        refine (HT.out _ HB3.out).mono ?_; rintro e w4 ⟨v4, rfl, hv4, hb4⟩
        have HB4 := Lib.hid (bel_step0 hb4 HB3.out)
        have HV4 := Lib.hid hv4.rcs
        clear hb4 hv4
        go_wp2_with fail
        refine (HI.out _ _ HB4.out HV4.out).mono ?_; rintro e w5 ⟨rfl, hb5⟩
        have HB5 := Lib.hid (bel_step0 hb5 HB4.out)
        have HV5 := Lib.hid (HV4.out.below hb5)
        clear hb5
        go_wp2_with fail
        refine (HT.out _ HB5.out).mono ?_; rintro e w6 ⟨v6, rfl, hv6, hb6⟩
        have HB6 := Lib.hid (bel_step0 hb6 HB5.out)
        have HV6 := Lib.hid (HV5.out.below hb6)
        have HX6 := Lib.hid hv6.rcs
        clear hb6 hv6
        go_wp2_with fail
        refine (C_eqRecordS _ _ n R _ HV6.out HX6.out).mono ?_; rintro e w7 ⟨rfl, hb7⟩
        have HB7 := Lib.hid (bel_step0 hb7 HB6.out)
        clear hb7
        go_wp2_with fail
        go_ret
        exact ⟨rfl, HB7.out⟩
    · go_enter Tryd.func5, Tryd.ntmps5
      go_wp2_with fail
      go_ret
      exact ⟨rfl, Below.refl _ _⟩
  · go_enter Tryd.func5, Tryd.ntmps5
    go_wp2_with fail
    go_ret
    exact ⟨rfl, Below.refl _ _⟩
set_option maxRecDepth 100000 in
theorem contract (H : Type) (enc : TypeId × Value → H) (W : World) (base : Nat) (args : Array Value) (ds gs : List (DataW H)) (before : List MemPlace)
    (hval0 : ∀ (j : Nat) t v, Tryd.f5.params[j]? = some t → args[j]? = some v → Value.okWide Tryd.prog W .any base t v)
    (hW : DataW.Whole enc Tryd.prog Tryd.f5.params.toList Rows.fnExactAgreesOnSpec.vars false W args.toList ds gs before) (hL : laidMetH Tryd.prog Rows.fnExactAgreesOnRow.laid W) :
    Calls Tryd.prog 5 args W fun e W' => ∃ v, e = .returned v ∧ Rows.fnExactAgreesOnSpec.post enc Tryd.prog Tryd.f5 false true false false W args v W' := by
  have hval : ∀ (j : Nat) t v, Tryd.f5.params[j]? = some t → args[j]? = some v → Value.okWide Tryd.prog W .any base t v := hval0
  have hW' := hW
  obtain ⟨p, q, hA0, hV, rfl, hfz, hnd⟩ := hW
  have hA : DataW.TrodAll enc Tryd.prog W 0 (fun _ => true) true Tryd.f5.params.toList args.toList ds p := hA0
  rw [Tryd.params5] at hA hval
  obtain ⟨v0, vs0, d0, ds0, p0, q0, hargs, rfl, rfl, h0, r0⟩ := trodAll_cons hA
  obtain ⟨v1, vs1, d1, ds1, p1, q1, rfl, rfl, rfl, h1, r1⟩ := trodAll_cons r0
  obtain ⟨v2, vs2, d2, ds2, p2, q2, rfl, rfl, rfl, h2, r2⟩ := trodAll_cons r1
  obtain ⟨rfl, rfl, rfl⟩ := trodAll_nil r2
  obtain rfl : args = #[v0, v1, v2] := by cases args; simp_all
  obtain ⟨rfl, rfl⟩ := trodVars_none hV
  have k0 := h0
  have lt0 : ∀ x ∈ p0, x.block < W.heap.size := by obtain ⟨m, hm⟩ := k0; exact DataW.trod_lt m _ _ _ hm
  have k1 := h1
  have lt1 : ∀ x ∈ p1, x.block < W.heap.size := by obtain ⟨m, hm⟩ := k1; exact DataW.trod_lt m _ _ _ hm
  have k2 := h2
  have lt2 : ∀ x ∈ p2, x.block < W.heap.size := by obtain ⟨m, hm⟩ := k2; exact DataW.trod_lt m _ _ _ hm
  obtain ⟨n0, rfl, _, _, b0⟩ := open_string Tryd.underlying9 (hval 0 9 v0 rfl rfl) h0
  obtain ⟨n1, rfl, _, _, b1⟩ := open_string Tryd.underlying9 (hval 1 9 v1 rfl rfl) h1
  obtain ⟨n2, b2⟩ := view_SlawsRecord (hval 2 37 v2 rfl rfl) h2
  clear hA0 hval0
  refine (walk n0 n1 v2 n2 W b0 b1 b2 ⟨tab_of W hL, ers_of W hL⟩).mono fun e W' ⟨he, bel⟩ => ?_
  subst he
  exact ⟨_, rfl, _, _, _, [], _, [], hW', trodAll_mk1 (shut_bool Tryd.underlying4 _), (trodAll_cons_mk (Below.trod laidOut (by kernel_rfl) (of_decide_eq_true (by kernel_rfl)) k0 bel lt0) (trodAll_cons_mk (Below.trod laidOut (by kernel_rfl) (of_decide_eq_true (by kernel_rfl)) k1 bel lt1) (trodAll_cons_mk (Below.trod laidOut (by kernel_rfl) (of_decide_eq_true (by kernel_rfl)) k2 bel lt2) trodAll_mk0))), rfl, bel.frame _, fun h => by cases h⟩
theorem reads (os : Os) {H : Type} (enc : TypeId × Value → H) : ∃ places, DataW.whole enc Tryd.prog ((doorW os).forCall (fun _ _ => 0) ⟨#[], #[.string ⟨#[]⟩, .string ⟨#[]⟩, .slice none 0 0], []⟩).memory Tryd.f5.params.toList Rows.fnExactAgreesOnSpec.vars false #[.string ⟨#[]⟩, .string ⟨#[]⟩, .slice none 0 0].toList 8 = some ([.lit (.string []), .lit (.string []), .nil], [], places) :=
  ⟨[], by kernel_rfl⟩
set_option maxRecDepth 100000 in
theorem door_metL (os : Os) (args : Array Value) : laidMet Tryd.prog Rows.fnExactAgreesOnRow.laid ((doorW os).forCall (fun _ _ => 0) ⟨#[], args, []⟩).memory :=
  laidMet_of_run3 8 (by kernel_rfl) (by kernel_rfl) (by kernel_rfl)
set_option maxRecDepth 100000 in
theorem lifted (os : Os) (started : os.Started) (H : Type) (enc : TypeId × Value → H) (F : Stop.Interp) :
    ReturnsInHanded {} Tryd.checked os 5 .any ((OpenSpec.ofChange Rows.fnExactAgreesOnSpec).preRow enc Tryd.prog Tryd.f5 Rows.fnExactAgreesOnRow.domain false Rows.fnExactAgreesOnRow.laid) (((OpenSpec.ofChange Rows.fnExactAgreesOnSpec).at F).post enc Tryd.prog Tryd.f5 false true false false) := by
  obtain ⟨places, hx⟩ := reads os enc
  refine returnsInHanded_of_row (C := Tryd.checked) (s := OpenSpec.ofChange Rows.fnExactAgreesOnSpec) own started (by kernel_rfl) Tryd.func5
    (witness_row_at (enc := enc) (C := Tryd.checked) false (doorW os) #[.string ⟨#[]⟩, .string ⟨#[]⟩, .slice none 0 0] rfl (door_shape os _) (door_rest os _) (by kernel_rfl)
      (OpenSpec.preRow_of_cond 8 hx (by kernel_rfl) (fun k hk => by cases hk) (by kernel_rfl) (door_metL os _))) ?_
  intro W base args ds gs before hval hW _ _ _ hL _ _
  exact contract H enc W base args ds gs before hval hW hL
theorem said : Rows.FnExactAgreesOnSaid :=
  OpenClaim.holds_of_cond 5 Tryd.f5 rfl rfl rfl rfl rfl rfl rfl ⟨rfl, rfl, rfl, rfl, rfl⟩ rfl rfl rfl rfl rfl (by kernel_rfl) Tryd.func5 (by kernel_rfl)
    (of_decide_eq_true (by kernel_rfl)) (by unfold Func.isWrapper; first | (rw [if_pos (by decide +kernel)]; kernel_rfl) | (rw [if_neg (by decide +kernel)]; exact ⟨rfl, rfl⟩))
    (fun os started H enc _ F => by rw [OpenClaim.pre_eq_preRow]; exact lifted os started H enc F)
theorem plain (f : FuncId) (fn : Func) (hf : Tryd.pinned.checked.prog.funcNamed Rows.fnExactAgreesOnRow.func = some f) (hfn : Tryd.pinned.checked.prog.funcs[f]? = some fn) :
    true = Tryd.pinned.checked.prog.looks [] ∧ ∀ (j : Nat) t, fn.params[j]? = some t → Tryd.pinned.checked.prog.wantsStandIn t = false := by
  obtain rfl : f = 5 := Option.some.inj ((show Tryd.prog.funcNamed Rows.fnExactAgreesOnRow.func = some 5 by kernel_rfl).symm.trans hf) |>.symm
  obtain rfl : fn = Tryd.f5 := (Option.some.inj (Tryd.func5.symm.trans hfn)).symm
  refine ⟨by kernel_rfl, fun j t ht => ?_⟩
  rw [Tryd.params5] at ht
  have hm : t = 9 ∨ t = 37 := by have := Array.mem_of_getElem? ht; simp at this; omega
  rcases hm with rfl | rfl
  · exact (show Tryd.prog.wantsStandIn 9 = false by kernel_rfl)
  · exact (show Tryd.prog.wantsStandIn 37 = false by kernel_rfl)
theorem proved : Rows.FnExactAgreesOnCardSaid :=
  Claim7.holds_tied_plain_at .later [] _ _ _ _ said (fun _ h => by cases h) (by kernel_rfl) (fun _ h => by cases h) fnExactAgreesOn_row_tie rfl ⟨rfl, rfl⟩ (by kernel_rfl) rfl plain (by kernel_rfl)
#print axioms proved
end Go.Proofs.YtjmfkenhnfdbjaaDoor.lawFnExactAgreesOn
