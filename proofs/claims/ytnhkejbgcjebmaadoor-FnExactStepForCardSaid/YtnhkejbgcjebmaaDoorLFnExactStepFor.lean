/- The law FnExactStepFor returns true, whatever its arguments, and leaves them as they were. No condition beyond the row's own. -/
import Derived.Test.YtnhkejbgcjebmaaDoorClueO
import Derived.Test.YtnhkejbgcjebmaaDoorDoorW
import Derived.Test.YtnhkejbgcjebmaaDoorCards
import Derived.Test.YtnhkejbgcjebmaaDoorTie
import Derived.Test.YtnhkejbgcjebmaaDoorOpen
import Derived.Deep.DeepHandedRow
import Derived.LaidMore
import Derived.Deep.DeepLaidRun
import Derived.PinnedBridge
import Derived.OpenShut
import Derived.ChangeMaps5
namespace Go.Proofs.YtnhkejbgcjebmaaDoor.lawFnExactStepFor
open Go.ChangeShapes Go.WideShapes Go.ChangeAt Go.RowKit Go.Deep Go.Joins
open Go.ChangeMaps (open_string shut_string)
set_option linter.unusedVariables false
theorem walk (v : Value) (y : Nat × (Nat → ByteArray)) (k : Int) (w : World) (h : TI w v y.1 y.2 ∧ ∀ j, j < y.1 → (y.2 j).size ≤ 9223372036854775807) (_ : I64 k) :
    Calls Tryd.prog 8 #[v, .int .i64 k] w fun e w' => e = .returned (.bool true) ∧ Below w.heap.size w w' := by
  obtain ⟨n, f⟩ := y
  obtain ⟨h, hs⟩ := h
  simp only at h hs
  have HS := Lib.hid hs; clear hs
  by_cases hbig : szT 1048576 n f < 0
  · go_enter Tryd.func8, Tryd.ntmps8
    go_wp2_with (go_at_call 24; refine (C_szStringS _ _ _ _ _ h HS.out (by omega) (by omega)).mono ?_; rintro e w' ⟨rfl, rfl⟩)
    go_ret
    exact ⟨rfl, Below.refl _ _⟩
  have hbig0 : 0 ≤ szT 1048576 n f := by omega
  have hn : n ≤ 1048576 := by have := (szT_small hbig0).1; omega
  obtain ⟨z, hz⟩ : ∃ z, szT 1048576 n f = z := ⟨_, rfl⟩
  rw [hz] at hbig0
  obtain ⟨r1, hr1⟩ : ∃ r : Int, (if stepG n f k then stepI n f k else 0) = r := ⟨_, rfl⟩
  obtain ⟨r2, hr2⟩ : ∃ r : Bool, (stepG n f k && stepB n f k) = r := ⟨_, rfl⟩
  have CI := fun W v (hv : TI W v n f) => C_StepForI v n f k W hv HS.out
  have CS := fun W v (hv : TI W v n f) => C_StepForS v n f k W hv HS.out
  rw [hr1, hr2] at CI CS
  have HC := Lib.hid (And.intro CI CS)
  have HZ := Lib.hid hz
  clear hz hr1 hr2 hbig CI CS
  go_enter Tryd.func8, Tryd.ntmps8
  go_wp2_with fail
  refine (C_szStringS _ _ _ _ _ h HS.out (by omega) (by omega)).mono ?_; rintro e w1 ⟨rfl, rfl⟩
  rw [HZ.out]
  go_wp2_with fail
  refine (C_toStringS _ _ _ _ h hn).mono ?_; rintro e w2 ⟨v2, rfl, hv2, B2⟩
  go_wp2_with fail
  refine (HC.out.2 _ _ hv2.ti).mono ?_; rintro e w3 ⟨rfl, hb3⟩
  have B3 := bel_step0 hb3 B2
  go_wp2_with fail
  refine (C_toStringS _ _ _ _ (h.below B3) hn).mono ?_; rintro e w4 ⟨v4, rfl, hv4, hb4⟩
  have B4 := bel_step0 hb4 B3
  go_wp2_with fail
  refine (HC.out.1 _ _ hv4.ti).mono ?_; rintro e w5 ⟨rfl, hb5⟩
  have B5 := bel_step0 hb5 B4
  have x5 := hv4.below hb5
  go_wp2_with fail
  refine (C_toStringS _ _ _ _ (h.below B5) hn).mono ?_; rintro e w6 ⟨v6, rfl, hv6, hb6⟩
  have B6 := bel_step0 hb6 B5
  have x6 := x5.below hb6
  go_wp2_with fail
  refine (C_eqStringS_same _ _ _ _ _ x6.ti hv6.ti).mono ?_; rintro e w7 ⟨rfl, hb7⟩
  have B7 := bel_step0 hb7 B6
  go_wp2_with fail
  go_ret
  exact ⟨rfl, B7⟩
set_option maxRecDepth 100000 in
theorem contract (H : Type) (enc : TypeId × Value → H) (W : World) (base : Nat) (args : Array Value) (ds gs : List (DataW H)) (before : List MemPlace)
    (hval0 : ∀ (j : Nat) t v, Tryd.f8.params[j]? = some t → args[j]? = some v → Value.okWide Tryd.prog W .any base t v)
    (hW : DataW.Whole enc Tryd.prog Tryd.f8.params.toList Rows.fnExactStepForSpec.vars false W args.toList ds gs before) (hL : laidMetH Tryd.prog Rows.fnExactStepForRow.laid W) :
    Calls Tryd.prog 8 args W fun e W' => ∃ v, e = .returned v ∧ Rows.fnExactStepForSpec.post enc Tryd.prog Tryd.f8 false true false false W args v W' := by
  have hval : ∀ (j : Nat) t v, Tryd.f8.params[j]? = some t → args[j]? = some v → Value.okWide Tryd.prog W .any base t v := hval0
  have hW' := hW
  obtain ⟨p, q, hA0, hV, rfl, hfz, hnd⟩ := hW
  have hA : DataW.TrodAll enc Tryd.prog W 0 (fun _ => true) true Tryd.f8.params.toList args.toList ds p := hA0
  rw [Tryd.params8] at hA hval
  obtain ⟨v0, vs0, d0, ds0, p0, q0, hargs, rfl, rfl, h0, r0⟩ := trodAll_cons hA
  obtain ⟨v1, vs1, d1, ds1, p1, q1, rfl, rfl, rfl, h1, r1⟩ := trodAll_cons r0
  obtain ⟨rfl, rfl, rfl⟩ := trodAll_nil r1
  obtain rfl : args = #[v0, v1] := by cases args; simp_all
  obtain ⟨rfl, rfl⟩ := trodVars_none hV
  have k0 := h0
  have lt0 : ∀ x ∈ p0, x.block < W.heap.size := by obtain ⟨m, hm⟩ := k0; exact DataW.trod_lt m _ _ _ hm
  have k1 := h1
  have lt1 : ∀ x ∈ p1, x.block < W.heap.size := by obtain ⟨m, hm⟩ := k1; exact DataW.trod_lt m _ _ _ hm
  obtain ⟨n0, b0⟩ := view_Sstring (hval 0 36 v0 rfl rfl) h0
  obtain ⟨n1, rfl, _, _, b1⟩ := open_int Tryd.underlying3 (hval 1 3 v1 rfl rfl) h1
  clear hA0 hval0
  refine (walk v0 n0 n1 W b0 (i64_of_wf b1)).mono fun e W' ⟨he, bel⟩ => ?_
  subst he
  exact ⟨_, rfl, _, _, _, [], _, [], hW', trodAll_mk1 (shut_bool Tryd.underlying4 _), (trodAll_cons_mk (Below.trod laidOut (by kernel_rfl) (of_decide_eq_true (by kernel_rfl)) k0 bel lt0) (trodAll_cons_mk (Below.trod laidOut (by kernel_rfl) (of_decide_eq_true (by kernel_rfl)) k1 bel lt1) trodAll_mk0)), rfl, bel.frame _, fun h => by cases h⟩
theorem reads (os : Os) {H : Type} (enc : TypeId × Value → H) : ∃ places, DataW.whole enc Tryd.prog ((doorW os).forCall (fun _ _ => 0) ⟨#[], #[.slice none 0 0, .int .i64 0], []⟩).memory Tryd.f8.params.toList Rows.fnExactStepForSpec.vars false #[.slice none 0 0, .int .i64 0].toList 8 = some ([.nil, .lit (.int .i64 0)], [], places) :=
  ⟨[], by kernel_rfl⟩
set_option maxRecDepth 100000 in
theorem lifted (os : Os) (started : os.Started) (H : Type) (enc : TypeId × Value → H) (F : Stop.Interp) :
    ReturnsInHanded {} Tryd.checked os 8 .any ((OpenSpec.ofChange Rows.fnExactStepForSpec).preRow enc Tryd.prog Tryd.f8 Rows.fnExactStepForRow.domain false Rows.fnExactStepForRow.laid) (((OpenSpec.ofChange Rows.fnExactStepForSpec).at F).post enc Tryd.prog Tryd.f8 false true false false) := by
  obtain ⟨places, hx⟩ := reads os enc
  refine returnsInHanded_of_row (C := Tryd.checked) (s := OpenSpec.ofChange Rows.fnExactStepForSpec) own started (by kernel_rfl) Tryd.func8
    (witness_row_at (enc := enc) (C := Tryd.checked) false (doorW os) #[.slice none 0 0, .int .i64 0] rfl (door_shape os _) (door_rest os _) (by kernel_rfl)
      (OpenSpec.preRow_of_cond 8 hx (by kernel_rfl) (fun k hk => by cases hk) (by kernel_rfl) (door_met os _))) ?_
  intro W base args ds gs before hval hW _ _ _ hL _ _
  exact contract H enc W base args ds gs before hval hW hL
theorem said : Rows.FnExactStepForSaid :=
  OpenClaim.holds_of_cond 8 Tryd.f8 rfl rfl rfl rfl rfl rfl rfl ⟨rfl, rfl, rfl, rfl, rfl⟩ rfl rfl rfl rfl rfl (by kernel_rfl) Tryd.func8 (by kernel_rfl)
    (of_decide_eq_true (by kernel_rfl)) (by unfold Func.isWrapper; first | (rw [if_pos (by decide +kernel)]; kernel_rfl) | (rw [if_neg (by decide +kernel)]; exact ⟨rfl, rfl⟩))
    (fun os started H enc _ F => by rw [OpenClaim.pre_eq_preRow]; exact lifted os started H enc F)
theorem plain (f : FuncId) (fn : Func) (hf : Tryd.pinned.checked.prog.funcNamed Rows.fnExactStepForRow.func = some f) (hfn : Tryd.pinned.checked.prog.funcs[f]? = some fn) :
    false = Tryd.pinned.checked.prog.looks [] ∧ ∀ (j : Nat) t, fn.params[j]? = some t → Tryd.pinned.checked.prog.wantsStandIn t = false := by
  obtain rfl : f = 8 := Option.some.inj ((show Tryd.prog.funcNamed Rows.fnExactStepForRow.func = some 8 by kernel_rfl).symm.trans hf) |>.symm
  obtain rfl : fn = Tryd.f8 := (Option.some.inj (Tryd.func8.symm.trans hfn)).symm
  refine ⟨by kernel_rfl, fun j t ht => ?_⟩
  rw [Tryd.params8] at ht
  have hm : t = 36 ∨ t = 3 := by have := Array.mem_of_getElem? ht; simp at this; omega
  rcases hm with rfl | rfl
  · exact (show Tryd.prog.wantsStandIn 36 = false by kernel_rfl)
  · exact (show Tryd.prog.wantsStandIn 3 = false by kernel_rfl)
theorem proved : Rows.FnExactStepForCardSaid :=
  Claim7.holds_tied_plain_at .later [] _ _ _ _ said (fun _ h => by cases h) (by kernel_rfl) (fun _ h => by cases h) fnExactStepFor_row_tie rfl ⟨rfl, rfl⟩ (by kernel_rfl) rfl plain (by kernel_rfl)
#print axioms proved
end Go.Proofs.YtnhkejbgcjebmaaDoor.lawFnExactStepFor
