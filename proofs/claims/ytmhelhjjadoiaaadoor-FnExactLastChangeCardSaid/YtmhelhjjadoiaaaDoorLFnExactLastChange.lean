/- The law FnExactLastChange returns true, whatever its arguments, and leaves them as they were. No condition beyond the row's own. -/
import Derived.Test.YtmhelhjjadoiaaaDoorLkD
import Derived.Test.YtmhelhjjadoiaaaDoorDoorW
import Derived.Test.YtmhelhjjadoiaaaDoorCards
import Derived.Test.YtmhelhjjadoiaaaDoorTie
import Derived.Test.YtmhelhjjadoiaaaDoorOpen
import Derived.Deep.DeepHandedRow
import Derived.LaidMore
import Derived.Deep.DeepLaidRun
import Derived.PinnedBridge
import Derived.OpenShut
import Derived.ChangeMaps5
namespace Go.Proofs.YtmhelhjjadoiaaaDoor.lawFnExactLastChange
open Go.ChangeShapes Go.WideShapes Go.ChangeAt Go.RowKit Go.Deep Go.Joins
open Go.ChangeMaps (open_string shut_string)
set_option linter.unusedVariables false
theorem walk (v : Value) (y : Nat × (Nat → Lk)) (k : Int)(w : World) (h : LKs w v y.1 y.2 ∧ ∀ j, j < y.1 → (y.2 j).why.size ≤ 9223372036854775807 ∧ I64 (y.2 j).tick) (_ : I64 k):
    Calls Tryd.prog 5 #[v, .int .i64 k] w fun e w' => e = .returned (.bool true) ∧ Below w.heap.size w w' := by
  obtain ⟨n, R⟩ := y
  obtain ⟨h, hs⟩ := h
  simp only at h hs
  have HS := Lib.hid (fun j hj => (hs j hj).1); clear hs
  by_cases hbig : szT 1048576 n (fun j => (R j).why) < 0
  · go_enter Tryd.func5, Tryd.ntmps5
    go_wp2_with fail
    refine (C_szLookS _ _ _ _ _ h HS.out (by omega) (by omega)).mono ?_; rintro e w1 ⟨rfl, hb1⟩
    go_wp2_with fail
    go_ret
    exact ⟨rfl, hb1⟩
  have hbig0 : 0 ≤ szT 1048576 n (fun j => (R j).why) := by omega
  have hn : n ≤ 1048576 := by have := (szT_small hbig0).1; omega
  obtain ⟨z, hz⟩ : ∃ z, szT 1048576 n (fun j => (R j).why) = z := ⟨_, rfl⟩
  rw [hz] at hbig0
  obtain ⟨ok, hok⟩ : ∃ ok, lcOk n R k = ok := ⟨_, rfl⟩; obtain ⟨r1, hr1⟩ : ∃ r, lcT n R k = r := ⟨_, rfl⟩; obtain ⟨r2, hr2⟩ : ∃ r, lcW n R k = r := ⟨_, rfl⟩
  have CI := fun W v (hv : LKs W v n R) => C_LastChangeI v n R k W hv HS.out
  have CS := fun W v (hv : LKs W v n R) => C_LastChangeS v n R k W hv HS.out
  rw [hok, hr1, hr2] at CI CS
  have HC := Lib.hid (And.intro CI CS)
  have HZ := Lib.hid hz
  have HH := Lib.hid h
  clear hz hbig CI CS h hok hr1 hr2
  go_enter Tryd.func5, Tryd.ntmps5
  go_wp2_with fail
  refine (C_szLookS _ _ _ _ _ HH.out HS.out (by omega) (by omega)).mono ?_; rintro e w1 ⟨rfl, B1⟩
  rw [HZ.out]
  go_wp2_with fail
  refine (C_toLookS _ _ _ _ (HH.out.below B1) hn).mono ?_; rintro e w2 ⟨v2, rfl, hv2, hb2⟩
  have B2 := bel_step0 hb2 B1
  go_wp2_with fail
  refine (HC.out.2 _ _ hv2.lks).mono ?_; rintro e w3 ⟨rfl, hb3⟩
  have B3 := bel_step0 hb3 B2
  go_wp2_with fail
  refine (C_toLookS _ _ _ _ (HH.out.below B3) hn).mono ?_; rintro e w4 ⟨v4, rfl, hv4, hb4⟩
  have B4 := bel_step0 hb4 B3
  go_wp2_with fail
  refine (HC.out.1 _ _ hv4.lks).mono ?_; rintro e w5 ⟨rfl, hb5⟩
  have B5 := bel_step0 hb5 B4
  have x5 := hv4.below hb5
  go_wp2_with fail
  refine (C_toLookS _ _ _ _ (HH.out.below B5) hn).mono ?_; rintro e w6 ⟨v6, rfl, hv6, hb6⟩
  have B6 := bel_step0 hb6 B5
  have x6 := x5.below hb6
  go_wp2_with fail
  refine (C_eqLookS _ _ _ _ _ x6.lks hv6.lks).mono ?_; rintro e w7 ⟨rfl, hb7⟩
  have B7 := bel_step0 hb7 B6
  go_wp2_with fail
  go_ret
  exact ⟨rfl, B7⟩
set_option maxRecDepth 100000 in
theorem contract (H : Type) (enc : TypeId × Value → H) (W : World) (base : Nat) (args : Array Value) (ds gs : List (DataW H)) (before : List MemPlace)
    (hval0 : ∀ (j : Nat) t v, Tryd.f5.params[j]? = some t → args[j]? = some v → Value.okWide Tryd.prog W .any base t v)
    (hW : DataW.Whole enc Tryd.prog Tryd.f5.params.toList Rows.fnExactLastChangeSpec.vars false W args.toList ds gs before) (hL : laidMetH Tryd.prog Rows.fnExactLastChangeRow.laid W) :
    Calls Tryd.prog 5 args W fun e W' => ∃ v, e = .returned v ∧ Rows.fnExactLastChangeSpec.post enc Tryd.prog Tryd.f5 false true false false W args v W' := by
  have hval : ∀ (j : Nat) t v, Tryd.f5.params[j]? = some t → args[j]? = some v → Value.okWide Tryd.prog W .any base t v := hval0
  have hW' := hW
  obtain ⟨p, q, hA0, hV, rfl, hfz, hnd⟩ := hW
  have hA : DataW.TrodAll enc Tryd.prog W 0 (fun _ => true) true Tryd.f5.params.toList args.toList ds p := hA0
  rw [Tryd.params5] at hA hval
  obtain ⟨v0, vs0, d0, ds0, p0, q0, hargs, rfl, rfl, h0, r0⟩ := trodAll_cons hA
  obtain ⟨v1, vs1, d1, ds1, p1, q1, rfl, rfl, rfl, h1, r1⟩ := trodAll_cons r0
  obtain ⟨rfl, rfl, rfl⟩ := trodAll_nil r1
  obtain rfl : args = #[v0, v1] := by cases args; simp_all
  obtain ⟨rfl, rfl⟩ := trodVars_none hV
  have k0 := h0
  have lt0 : ∀ x ∈ p0, x.block < W.heap.size := by obtain ⟨m, hm⟩ := k0; exact DataW.trod_lt m _ _ _ hm
  have k1 := h1
  have lt1 : ∀ x ∈ p1, x.block < W.heap.size := by obtain ⟨m, hm⟩ := k1; exact DataW.trod_lt m _ _ _ hm
  obtain ⟨n0, b0⟩ := view_SlawsLook (hval 0 29 v0 rfl rfl) h0
  obtain ⟨n1, rfl, _, _, b1⟩ := open_int Tryd.underlying3 (hval 1 3 v1 rfl rfl) h1
  clear hA0 hval0
  refine (walk v0 n0 n1 W b0 (i64_of_wf b1)).mono fun e W' ⟨he, bel⟩ => ?_
  subst he
  exact ⟨_, rfl, _, _, _, [], _, [], hW', trodAll_mk1 (shut_bool Tryd.underlying4 _), (trodAll_cons_mk (Below.trod laidOut (by kernel_rfl) (of_decide_eq_true (by kernel_rfl)) k0 bel lt0) (trodAll_cons_mk (Below.trod laidOut (by kernel_rfl) (of_decide_eq_true (by kernel_rfl)) k1 bel lt1) trodAll_mk0)), rfl, bel.frame _, fun h => by cases h⟩
theorem reads (os : Os) {H : Type} (enc : TypeId × Value → H) : ∃ places, DataW.whole enc Tryd.prog ((doorW os).forCall (fun _ _ => 0) ⟨#[], #[.slice none 0 0, .int .i64 0], []⟩).memory Tryd.f5.params.toList Rows.fnExactLastChangeSpec.vars false #[.slice none 0 0, .int .i64 0].toList 8 = some ([.nil, .lit (.int .i64 0)], [], places) :=
  ⟨[], by kernel_rfl⟩
set_option maxRecDepth 100000 in
theorem lifted (os : Os) (started : os.Started) (H : Type) (enc : TypeId × Value → H) (F : Stop.Interp) :
    ReturnsInHanded {} Tryd.checked os 5 .any ((OpenSpec.ofChange Rows.fnExactLastChangeSpec).preRow enc Tryd.prog Tryd.f5 Rows.fnExactLastChangeRow.domain false Rows.fnExactLastChangeRow.laid) (((OpenSpec.ofChange Rows.fnExactLastChangeSpec).at F).post enc Tryd.prog Tryd.f5 false true false false) := by
  obtain ⟨places, hx⟩ := reads os enc
  refine returnsInHanded_of_row (C := Tryd.checked) (s := OpenSpec.ofChange Rows.fnExactLastChangeSpec) own started (by kernel_rfl) Tryd.func5
    (witness_row_at (enc := enc) (C := Tryd.checked) false (doorW os) #[.slice none 0 0, .int .i64 0] rfl (door_shape os _) (door_rest os _) (by kernel_rfl)
      (OpenSpec.preRow_of_cond 8 hx (by kernel_rfl) (fun k hk => by cases hk) (by kernel_rfl) (door_met os _))) ?_
  intro W base args ds gs before hval hW _ _ _ hL _ _
  exact contract H enc W base args ds gs before hval hW hL
theorem said : Rows.FnExactLastChangeSaid :=
  OpenClaim.holds_of_cond 5 Tryd.f5 rfl rfl rfl rfl rfl rfl rfl ⟨rfl, rfl, rfl, rfl, rfl⟩ rfl rfl rfl rfl rfl (by kernel_rfl) Tryd.func5 (by kernel_rfl)
    (of_decide_eq_true (by kernel_rfl)) (by unfold Func.isWrapper; first | (rw [if_pos (by decide +kernel)]; kernel_rfl) | (rw [if_neg (by decide +kernel)]; exact ⟨rfl, rfl⟩))
    (fun os started H enc _ F => by rw [OpenClaim.pre_eq_preRow]; exact lifted os started H enc F)
theorem plain (f : FuncId) (fn : Func) (hf : Tryd.pinned.checked.prog.funcNamed Rows.fnExactLastChangeRow.func = some f) (hfn : Tryd.pinned.checked.prog.funcs[f]? = some fn) :
    false = Tryd.pinned.checked.prog.looks [] ∧ ∀ (j : Nat) t, fn.params[j]? = some t → Tryd.pinned.checked.prog.wantsStandIn t = false := by
  obtain rfl : f = 5 := Option.some.inj ((show Tryd.prog.funcNamed Rows.fnExactLastChangeRow.func = some 5 by kernel_rfl).symm.trans hf) |>.symm
  obtain rfl : fn = Tryd.f5 := (Option.some.inj (Tryd.func5.symm.trans hfn)).symm
  refine ⟨by kernel_rfl, fun j t ht => ?_⟩
  rw [Tryd.params5] at ht
  have hm : t = 29 ∨ t = 3 := by have := Array.mem_of_getElem? ht; simp at this; omega
  rcases hm with rfl | rfl
  · exact (show Tryd.prog.wantsStandIn 29 = false by kernel_rfl)
  · exact (show Tryd.prog.wantsStandIn 3 = false by kernel_rfl)
theorem proved : Rows.FnExactLastChangeCardSaid :=
  Claim7.holds_tied_plain_at .later [] _ _ _ _ said (fun _ h => by cases h) (by kernel_rfl) (fun _ h => by cases h) fnExactLastChange_row_tie rfl ⟨rfl, rfl⟩ (by kernel_rfl) rfl plain (by kernel_rfl)
#print axioms proved
end Go.Proofs.YtmhelhjjadoiaaaDoor.lawFnExactLastChange
