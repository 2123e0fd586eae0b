/- The law FnExactSeriesNamed returns true, whatever its arguments, and leaves them as they were. No condition beyond the row's own. -/
import Derived.Test.YtjmfkenhnfdbjaaDoorQzG
import Derived.Test.YtjmfkenhnfdbjaaDoorDoorW
import Derived.Test.YtjmfkenhnfdbjaaDoorCards
import Derived.Test.YtjmfkenhnfdbjaaDoorTie
import Derived.Test.YtjmfkenhnfdbjaaDoorOpen
import Derived.Deep.DeepHandedRow
import Derived.LaidMore
import Derived.Deep.DeepLaidRun
import Derived.PinnedBridge
import Derived.OpenShut
import Derived.ChangeMaps5
namespace Go.Proofs.YtjmfkenhnfdbjaaDoor.lawFnExactSeriesNamed
open Go.ChangeShapes Go.WideShapes Go.ChangeAt Go.RowKit Go.Deep Go.Joins
open Go.ChangeMaps (open_string shut_string)
set_option linter.unusedVariables false
theorem C_eqIntS_same (v v' : Value) (n : Nat) (f : Nat → Int) (w : World) (h : SI w v n f) (h' : SI w v' n f) :
    Calls Tryd.prog 22 #[v, v'] w fun e w' => e = .returned (.bool true) ∧ Below w.heap.size w w' :=
  (C_eqIntS v v' n n f f w h h').mono fun e w' hh => ⟨hh.1.trans (by rw [show eqI n n f f = true by unfold eqI; simp only [beq_self_eq_true, decide_true, Bool.true_and]; exact allB_iff.2 fun _ _ => rfl]), hh.2⟩
set_option maxHeartbeats 4000000 in
theorem walk (s : ByteArray) (w : World) (hs0 : s.size ≤ maxLen) (hk : Pk w) :
    Calls Tryd.prog 7 #[.string s] w fun e w' => e = .returned (.bool true) ∧ Below w.heap.size w w' := by
  unfold maxLen at hs0
  by_cases hs : s.size ≤ 1048576
  · have hlen := snL_len s hs
    obtain ⟨xs, hxs⟩ : ∃ xs, snL s = xs := ⟨_, rfl⟩
    obtain ⟨K, hK⟩ : ∃ K, goodQ s = K := ⟨_, rfl⟩
    have HS := Lib.hid (fun w' => C_SeriesS s hs w')
    have HI := Lib.hid (fun w' (hbw : Below w.heap.size w w') => C_SeriesI s hs w' (hk.below hbw))
    rw [hxs, hK] at HS HI
    rw [hxs] at hlen
    obtain ⟨m, hm⟩ : ∃ m, xs.length = m := ⟨_, rfl⟩
    have HM := Lib.hid hm
    rw [hm] at hlen
    clear hxs hK hk hm
    go_enter Tryd.func7, Tryd.ntmps7
    go_wp2_with fail
    refine (HS.out _).mono ?_; rintro e w3 ⟨v3, rfl, ho3, hb3⟩
    have B3 := Lib.hid hb3
    have S3 : Hid (SI w3 v3 m (ai xs)) := Lib.hid (by have := ho3.wi.si; rwa [HM.out] at this)
    clear hb3 ho3
    go_wp2_with fail
    refine (HI.out _ B3.out).mono ?_; rintro e w5 ⟨v5, rfl, ho5, hb5⟩
    have B5 := Lib.hid (bel_step0 hb5 B3.out)
    have F5 := Lib.hid hb5
    have T5 : Hid (WI w3.heap.size w5.heap.size w5 v5 m (ai xs)) := Lib.hid (by have := ho5.wi; rwa [HM.out] at this)
    clear hb5 ho5
    go_wp2_with fail
    refine (C_eqIntS_same _ _ _ _ _ T5.out.si (S3.out.below F5.out)).mono ?_; rintro e w6 ⟨rfl, hb6⟩
    have B6 := Lib.hid (bel_step0 hb6 B5.out)
    have F6 := Lib.hid (bel_step0 hb6 F5.out)
    have T6 := Lib.hid (T5.out.below hb6)
    clear hb6
    go_wp2_with fail
    refine (C_markIntS _ _ _ _ _ _ _ T6.out (by omega) (by omega)).mono ?_; rintro e w11 ⟨rfl, t11, hc11⟩
    have B11 := Lib.hid (bel_chg hc11 B3.out.size B6.out)
    have F11 := Lib.hid (bel_chg hc11 (Nat.le_refl _) F6.out)
    have T11 := Lib.hid t11
    clear hc11 t11
    go_wp2_with fail
    refine (C_heldIntS _ _ _ _ T11.out.si (by omega) (by omega)).mono ?_; rintro e w11' ⟨rfl, rfl⟩
    go_wp2_with fail
    refine (HI.out _ B11.out).mono ?_; rintro e w13 ⟨v13, rfl, ho13, hb13⟩
    have B13 := Lib.hid (bel_step0 hb13 B11.out)
    have F13 := Lib.hid (bel_step0 hb13 F11.out)
    have T13 := Lib.hid (T11.out.below hb13)
    have S13 : Hid (SI w13 v13 m (ai xs)) := Lib.hid (by have := ho13.wi.si; rwa [HM.out] at this)
    clear hb13 ho13
    go_wp2_with fail
    refine (C_eqIntS_same _ _ _ _ _ S13.out (S3.out.below F13.out)).mono ?_; rintro e w14 ⟨rfl, hb14⟩
    have B14 := Lib.hid (bel_step0 hb14 B13.out)
    have T14 := Lib.hid (T13.out.below hb14)
    clear hb14
    go_wp2_with fail
    refine (C_heldIntS _ _ _ _ T14.out.si (by omega) (by omega)).mono ?_; rintro e w14' ⟨rfl, rfl⟩
    go_wp2_with fail
    go_ret
    exact ⟨rfl, B14.out⟩
  · go_enter Tryd.func7, Tryd.ntmps7
    go_wp2_with fail
    go_ret
    exact ⟨rfl, Below.refl _ _⟩
set_option maxRecDepth 100000 in
theorem contract (H : Type) (enc : TypeId × Value → H) (W : World) (base : Nat) (args : Array Value) (ds gs : List (DataW H)) (before : List MemPlace)
    (hval0 : ∀ (j : Nat) t v, Tryd.f7.params[j]? = some t → args[j]? = some v → Value.okWide Tryd.prog W .any base t v)
    (hW : DataW.Whole enc Tryd.prog Tryd.f7.params.toList Rows.fnExactSeriesNamedSpec.vars false W args.toList ds gs before) (hL : laidMetH Tryd.prog Rows.fnExactSeriesNamedRow.laid W) :
    Calls Tryd.prog 7 args W fun e W' => ∃ v, e = .returned v ∧ Rows.fnExactSeriesNamedSpec.post enc Tryd.prog Tryd.f7 false true false false W args v W' := by
  have hval : ∀ (j : Nat) t v, Tryd.f7.params[j]? = some t → args[j]? = some v → Value.okWide Tryd.prog W .any base t v := hval0
  have hW' := hW
  obtain ⟨p, q, hA0, hV, rfl, hfz, hnd⟩ := hW
  have hA : DataW.TrodAll enc Tryd.prog W 0 (fun _ => true) true Tryd.f7.params.toList args.toList ds p := hA0
  rw [Tryd.params7] at hA hval
  obtain ⟨v0, vs0, d0, ds0, p0, q0, hargs, rfl, rfl, h0, r0⟩ := trodAll_cons hA
  obtain ⟨rfl, rfl, rfl⟩ := trodAll_nil r0
  obtain rfl : args = #[v0] := by cases args; simp_all
  obtain ⟨rfl, rfl⟩ := trodVars_none hV
  have k0 := h0
  have lt0 : ∀ x ∈ p0, x.block < W.heap.size := by obtain ⟨m, hm⟩ := k0; exact DataW.trod_lt m _ _ _ hm
  obtain ⟨n0, rfl, _, _, b0⟩ := open_string Tryd.underlying9 (hval 0 9 v0 rfl rfl) h0
  clear hA0 hval0
  refine (walk n0 W b0 ⟨tab_of W hL, ers_of W hL⟩).mono fun e W' ⟨he, bel⟩ => ?_
  subst he
  exact ⟨_, rfl, _, _, _, [], _, [], hW', trodAll_mk1 (shut_bool Tryd.underlying4 _), (trodAll_cons_mk (Below.trod laidOut (by kernel_rfl) (of_decide_eq_true (by kernel_rfl)) k0 bel lt0) trodAll_mk0), rfl, bel.frame _, fun h => by cases h⟩
theorem reads (os : Os) {H : Type} (enc : TypeId × Value → H) : ∃ places, DataW.whole enc Tryd.prog ((doorW os).forCall (fun _ _ => 0) ⟨#[], #[.string ⟨#[]⟩], []⟩).memory Tryd.f7.params.toList Rows.fnExactSeriesNamedSpec.vars false #[.string ⟨#[]⟩].toList 8 = some ([.lit (.string [])], [], places) :=
  ⟨[], by kernel_rfl⟩
set_option maxRecDepth 100000 in
theorem door_metL (os : Os) (args : Array Value) : laidMet Tryd.prog Rows.fnExactSeriesNamedRow.laid ((doorW os).forCall (fun _ _ => 0) ⟨#[], args, []⟩).memory :=
  laidMet_of_run3 8 (by kernel_rfl) (by kernel_rfl) (by kernel_rfl)
set_option maxRecDepth 100000 in
theorem lifted (os : Os) (started : os.Started) (H : Type) (enc : TypeId × Value → H) (F : Stop.Interp) :
    ReturnsInHanded {} Tryd.checked os 7 .any ((OpenSpec.ofChange Rows.fnExactSeriesNamedSpec).preRow enc Tryd.prog Tryd.f7 Rows.fnExactSeriesNamedRow.domain false Rows.fnExactSeriesNamedRow.laid) (((OpenSpec.ofChange Rows.fnExactSeriesNamedSpec).at F).post enc Tryd.prog Tryd.f7 false true false false) := by
  obtain ⟨places, hx⟩ := reads os enc
  refine returnsInHanded_of_row (C := Tryd.checked) (s := OpenSpec.ofChange Rows.fnExactSeriesNamedSpec) own started (by kernel_rfl) Tryd.func7
    (witness_row_at (enc := enc) (C := Tryd.checked) false (doorW os) #[.string ⟨#[]⟩] rfl (door_shape os _) (door_rest os _) (by kernel_rfl)
      (OpenSpec.preRow_of_cond 8 hx (by kernel_rfl) (fun k hk => by cases hk) (by kernel_rfl) (door_metL os _))) ?_
  intro W base args ds gs before hval hW _ _ _ hL _ _
  exact contract H enc W base args ds gs before hval hW hL
theorem said : Rows.FnExactSeriesNamedSaid :=
  OpenClaim.holds_of_cond 7 Tryd.f7 rfl rfl rfl rfl rfl rfl rfl ⟨rfl, rfl, rfl, rfl, rfl⟩ rfl rfl rfl rfl rfl (by kernel_rfl) Tryd.func7 (by kernel_rfl)
    (of_decide_eq_true (by kernel_rfl)) (by unfold Func.isWrapper; first | (rw [if_pos (by decide +kernel)]; kernel_rfl) | (rw [if_neg (by decide +kernel)]; exact ⟨rfl, rfl⟩))
    (fun os started H enc _ F => by rw [OpenClaim.pre_eq_preRow]; exact lifted os started H enc F)
theorem plain (f : FuncId) (fn : Func) (hf : Tryd.pinned.checked.prog.funcNamed Rows.fnExactSeriesNamedRow.func = some f) (hfn : Tryd.pinned.checked.prog.funcs[f]? = some fn) :
    true = Tryd.pinned.checked.prog.looks [] ∧ ∀ (j : Nat) t, fn.params[j]? = some t → Tryd.pinned.checked.prog.wantsStandIn t = false := by
  obtain rfl : f = 7 := Option.some.inj ((show Tryd.prog.funcNamed Rows.fnExactSeriesNamedRow.func = some 7 by kernel_rfl).symm.trans hf) |>.symm
  obtain rfl : fn = Tryd.f7 := (Option.some.inj (Tryd.func7.symm.trans hfn)).symm
  refine ⟨by kernel_rfl, fun j t ht => ?_⟩
  rw [Tryd.params7] at ht
  obtain rfl : t = 9 := by simpa using Array.mem_of_getElem? ht
  exact (show Tryd.prog.wantsStandIn 9 = false by kernel_rfl)
theorem proved : Rows.FnExactSeriesNamedCardSaid :=
  Claim7.holds_tied_plain_at .later [] _ _ _ _ said (fun _ h => by cases h) (by kernel_rfl) (fun _ h => by cases h) fnExactSeriesNamed_row_tie rfl ⟨rfl, rfl⟩ (by kernel_rfl) rfl plain (by kernel_rfl)
#print axioms proved
end Go.Proofs.YtjmfkenhnfdbjaaDoor.lawFnExactSeriesNamed
