/- The law FnExactLookText returns true, whatever its arguments, and leaves them as they were. No condition beyond the row's own. -/
import Derived.Test.YtmhelhjjadoiaaaDoorLkU
import Derived.Test.YtmhelhjjadoiaaaDoorTab
import Derived.Test.YtmhelhjjadoiaaaDoorDoorW
import Derived.Test.YtmhelhjjadoiaaaDoorCards
import Derived.Test.YtmhelhjjadoiaaaDoorTie
import Derived.Test.YtmhelhjjadoiaaaDoorOpen
import Derived.Deep.DeepHandedRow
import Derived.LaidMore
import Derived.Deep.DeepLaidRun
import Derived.PinnedBridge
import Derived.OpenShut
import Derived.ChangeMaps5
namespace Go.Proofs.YtmhelhjjadoiaaaDoor.lawFnExactLookText
open Go.ChangeShapes Go.WideShapes Go.ChangeAt Go.RowKit Go.Deep Go.Joins
open Go.ChangeMaps (open_string shut_string)
set_option linter.unusedVariables false
theorem walk (a b c d : Int) (s : ByteArray) (w : World) (_ : I64 a) (_ : I64 b) (_ : I64 c) (_ : I64 d) (hs : s.size ≤ maxLen) (ht : Tab w) :
    Calls Tryd.prog 10 #[.agg #[.int .i64 a, .int .i64 b, .int .i64 c, .int .i64 d, .string s]] w fun e w' => e = .returned (.bool true) ∧ Below w.heap.size w w' := by
  unfold maxLen at hs
  obtain ⟨w0, hw0⟩ : ∃ w0, w0 = w.alloc (.cells #[.int .i64 a, .int .i64 b, .int .i64 c, .int .i64 d, .string s] 23) := ⟨_, rfl⟩
  have B0 : Below w.heap.size w w0 := by rw [hw0]; (repeat (first | with_reducible exact Below.refl _ _ | with_reducible exact below_regrown _ _ _ | with_reducible refine bel_step0 (by assumption) ?_ | with_reducible refine bel_alloc0 ?_ _ | with_reducible refine bel_regrown0 ?_ _ _ | with_reducible refine bel_regrown ?_ (by first | omega | (simp; done) | (simp; omega)) _ _ | with_reducible refine below_drewN ?_ _ | with_reducible refine Below.drew ?_ | with_reducible refine Below.alloc ?_ (by first | omega | (simp; done) | (simp; omega)) _ | with_reducible refine Below.setCell ?_ (by first | omega | (simp; done) | (simp; omega)) _ | with_reducible refine bel_step (by assumption) (by first | omega | (simp; done) | (simp; omega)) ?_ | with_reducible refine bel_grown (by assumption) (by first | omega | (simp; done) | (simp; omega)) (by first | omega | (simp; done) | (simp; omega)) ?_))
  have hl0 : LkAt w0 w.heap.size 0 ⟨a, b, c, d, s⟩ := by rw [hw0]; exact ⟨by simp, by simp, by simp, by simp, by simp⟩
  have hz0 : w.heap.size < w0.heap.size := by rw [hw0]; simp
  have HT := Lib.hid (ht.below B0)
  have HW0 := Lib.hid hw0
  have HL0 := Lib.hid hl0
  clear hw0 hl0 ht
  by_cases hbig : szK 1048576 s < 0
  · obtain ⟨c0, c1, c2, c3, c4⟩ := HL0.out
    simp only [Nat.zero_add] at c1 c2 c3 c4
    go_enter Tryd.func10, Tryd.ntmps10
    go_wp2_with fail
    rw [← HW0.out]
    refine (C_szLook _ _ _ _ _ _ _ hs (by omega) (by omega)).mono ?_; rintro e w1 ⟨rfl, hb1⟩
    go_wp2_with fail
    go_ret
    exact ⟨rfl, bel_step0 hb1 B0⟩
  · obtain ⟨z, hz⟩ : ∃ z, szK 1048576 s = z := ⟨_, rfl⟩
    have hz1 : 0 ≤ z := by omega
    have HC0 := Lib.hid (fun W => C_szLook a b c d s 1048576 W hs (by omega) (by omega))
    rw [hz] at HC0
    obtain ⟨ok, hok⟩ : ∃ ok, okK ⟨a, b, c, d, s⟩ = ok := ⟨_, rfl⟩
    obtain ⟨T, hT⟩ : ∃ T, lookText ⟨a, b, c, d, s⟩ = T := ⟨_, rfl⟩
    have HC := Lib.hid (And.intro (fun W hW => C_LookTextI a b c d s W hs hW) (fun W hW => C_LookTextS a b c d s W hs hW))
    rw [hok, hT] at HC
    clear hok hz hbig hT
    go_enter Tryd.func10, Tryd.ntmps10
    go_wp2_with fail
    rw [← HW0.out]
    refine (HC0.out _).mono ?_; rintro e w1 ⟨rfl, hb1⟩
    have B1 := Lib.hid hb1
    obtain ⟨c0, c1, c2, c3, c4⟩ := lk_keep HL0.out hz0 B1.out
    simp only [Nat.zero_add] at c1 c2 c3 c4
    clear hb1
    go_wp2_with fail
    clear c0 c1 c2 c3 c4
    refine (C_toLook _ _ _ _ _ _).mono ?_; rintro e w2 ⟨rfl, hb2⟩
    have B2 := Lib.hid (bel_step0 hb2 B1.out)
    clear hb2
    go_wp2_with fail
    refine (HC.out.2 _ (HT.out.below B2.out)).mono ?_; rintro e w3 ⟨rfl, hb3⟩
    have B3 := Lib.hid (bel_step0 hb3 B2.out)
    obtain ⟨c0, c1, c2, c3, c4⟩ := lk_keep HL0.out hz0 B3.out
    simp only [Nat.zero_add] at c1 c2 c3 c4
    clear hb3
    go_wp2_with fail
    clear c0 c1 c2 c3 c4
    refine (C_toLook _ _ _ _ _ _).mono ?_; rintro e w4 ⟨rfl, hb4⟩
    have B4 := Lib.hid (bel_step0 hb4 B3.out)
    clear hb4
    go_wp2_with fail
    refine (HC.out.1 _ (HT.out.below B4.out)).mono ?_; rintro e w5 ⟨rfl, hb5⟩
    have B5 := bel_step0 hb5 B4.out
    go_wp2_with fail
    go_ret
    exact ⟨rfl, bel_step0 B5 B0⟩
set_option maxRecDepth 100000 in
theorem contract (H : Type) (enc : TypeId × Value → H) (W : World) (base : Nat) (args : Array Value) (ds gs : List (DataW H)) (before : List MemPlace)
    (hval0 : ∀ (j : Nat) t v, Tryd.f10.params[j]? = some t → args[j]? = some v → Value.okWide Tryd.prog W .any base t v)
    (hW : DataW.Whole enc Tryd.prog Tryd.f10.params.toList Rows.fnExactLookTextSpec.vars false W args.toList ds gs before) (hL : laidMetH Tryd.prog Rows.fnExactLookTextRow.laid W) :
    Calls Tryd.prog 10 args W fun e W' => ∃ v, e = .returned v ∧ Rows.fnExactLookTextSpec.post enc Tryd.prog Tryd.f10 false true false false W args v W' := by
  have hval : ∀ (j : Nat) t v, Tryd.f10.params[j]? = some t → args[j]? = some v → Value.okWide Tryd.prog W .any base t v := hval0
  have hW' := hW
  obtain ⟨p, q, hA0, hV, rfl, hfz, hnd⟩ := hW
  have hA : DataW.TrodAll enc Tryd.prog W 0 (fun _ => true) true Tryd.f10.params.toList args.toList ds p := hA0
  rw [Tryd.params10] at hA hval
  obtain ⟨v0, vs0, d0, ds0, p0, q0, hargs, rfl, rfl, h0, r0⟩ := trodAll_cons hA
  obtain ⟨rfl, rfl, rfl⟩ := trodAll_nil r0
  obtain rfl : args = #[v0] := by cases args; simp_all
  obtain ⟨rfl, rfl⟩ := trodVars_none hV
  have k0 := h0
  have lt0 : ∀ x ∈ p0, x.block < W.heap.size := by obtain ⟨m, hm⟩ := k0; exact DataW.trod_lt m _ _ _ hm
  obtain ⟨x0_0, x0_1, x0_2, x0_3, x0_4, y0_0, y0_1, y0_2, y0_3, y0_4, _, rfl, _, _, t0_0, t0_1, t0_2, t0_3, t0_4⟩ := open_agg5 Tryd.underlying23 (by kernel_rfl) (by kernel_rfl) (hval 0 23 v0 rfl rfl) h0
  obtain ⟨n0_0, e, _, b0_0⟩ := DataW.trod_int Tryd.underlying3 t0_0; simp only [List.cons.injEq, and_true] at e; subst e
  obtain ⟨n0_1, e, _, b0_1⟩ := DataW.trod_int Tryd.underlying3 t0_1; simp only [List.cons.injEq, and_true] at e; subst e
  obtain ⟨n0_2, e, _, b0_2⟩ := DataW.trod_int Tryd.underlying3 t0_2; simp only [List.cons.injEq, and_true] at e; subst e
  obtain ⟨n0_3, e, _, b0_3⟩ := DataW.trod_int Tryd.underlying3 t0_3; simp only [List.cons.injEq, and_true] at e; subst e
  obtain ⟨n0_4, e, _, b0_4⟩ := DataW.trod_string Tryd.underlying9 t0_4; simp only [List.cons.injEq, and_true] at e; subst e
  clear hA0 hval0
  refine (walk n0_0 n0_1 n0_2 n0_3 n0_4 W (i64_of_wf b0_0) (i64_of_wf b0_1) (i64_of_wf b0_2) (i64_of_wf b0_3) b0_4 (tab_of W hL)).mono fun e W' ⟨he, bel⟩ => ?_
  subst he
  exact ⟨_, rfl, _, _, _, [], _, [], hW', trodAll_mk1 (shut_bool Tryd.underlying4 _), (trodAll_cons_mk (Below.trod laidOut (by kernel_rfl) (of_decide_eq_true (by kernel_rfl)) k0 bel lt0) trodAll_mk0), rfl, bel.frame _, fun h => by cases h⟩
theorem reads (os : Os) {H : Type} (enc : TypeId × Value → H) : ∃ places, DataW.whole enc Tryd.prog ((doorW os).forCall (fun _ _ => 0) ⟨#[], #[.agg #[.int .i64 0, .int .i64 0, .int .i64 0, .int .i64 0, .string ⟨#[]⟩]], []⟩).memory Tryd.f10.params.toList Rows.fnExactLookTextSpec.vars false #[.agg #[.int .i64 0, .int .i64 0, .int .i64 0, .int .i64 0, .string ⟨#[]⟩]].toList 8 = some ([.agg [.lit (.int .i64 0), .lit (.int .i64 0), .lit (.int .i64 0), .lit (.int .i64 0), .lit (.string [])]], [], places) :=
  ⟨[], by kernel_rfl⟩
set_option maxRecDepth 100000 in
theorem door_metL (os : Os) (args : Array Value) : laidMet Tryd.prog Rows.fnExactLookTextRow.laid ((doorW os).forCall (fun _ _ => 0) ⟨#[], args, []⟩).memory :=
  laidMet_of_run3 8 (by kernel_rfl) (by kernel_rfl) (by kernel_rfl)
set_option maxRecDepth 100000 in
theorem lifted (os : Os) (started : os.Started) (H : Type) (enc : TypeId × Value → H) (F : Stop.Interp) :
    ReturnsInHanded {} Tryd.checked os 10 .any ((OpenSpec.ofChange Rows.fnExactLookTextSpec).preRow enc Tryd.prog Tryd.f10 Rows.fnExactLookTextRow.domain false Rows.fnExactLookTextRow.laid) (((OpenSpec.ofChange Rows.fnExactLookTextSpec).at F).post enc Tryd.prog Tryd.f10 false true false false) := by
  obtain ⟨places, hx⟩ := reads os enc
  refine returnsInHanded_of_row (C := Tryd.checked) (s := OpenSpec.ofChange Rows.fnExactLookTextSpec) own started (by kernel_rfl) Tryd.func10
    (witness_row_at (enc := enc) (C := Tryd.checked) false (doorW os) #[.agg #[.int .i64 0, .int .i64 0, .int .i64 0, .int .i64 0, .string ⟨#[]⟩]] rfl (door_shape os _) (door_rest os _) (by kernel_rfl)
      (OpenSpec.preRow_of_cond 8 hx (by kernel_rfl) (fun k hk => by cases hk) (by kernel_rfl) (door_metL os _))) ?_
  intro W base args ds gs before hval hW _ _ _ hL _ _
  exact contract H enc W base args ds gs before hval hW hL
theorem said : Rows.FnExactLookTextSaid :=
  OpenClaim.holds_of_cond 10 Tryd.f10 rfl rfl rfl rfl rfl rfl rfl ⟨rfl, rfl, rfl, rfl, rfl⟩ rfl rfl rfl rfl rfl (by kernel_rfl) Tryd.func10 (by kernel_rfl)
    (of_decide_eq_true (by kernel_rfl)) (by unfold Func.isWrapper; first | (rw [if_pos (by decide +kernel)]; kernel_rfl) | (rw [if_neg (by decide +kernel)]; exact ⟨rfl, rfl⟩))
    (fun os started H enc _ F => by rw [OpenClaim.pre_eq_preRow]; exact lifted os started H enc F)
theorem plain (f : FuncId) (fn : Func) (hf : Tryd.pinned.checked.prog.funcNamed Rows.fnExactLookTextRow.func = some f) (hfn : Tryd.pinned.checked.prog.funcs[f]? = some fn) :
    false = Tryd.pinned.checked.prog.looks [] ∧ ∀ (j : Nat) t, fn.params[j]? = some t → Tryd.pinned.checked.prog.wantsStandIn t = false := by
  obtain rfl : f = 10 := Option.some.inj ((show Tryd.prog.funcNamed Rows.fnExactLookTextRow.func = some 10 by kernel_rfl).symm.trans hf) |>.symm
  obtain rfl : fn = Tryd.f10 := (Option.some.inj (Tryd.func10.symm.trans hfn)).symm
  refine ⟨by kernel_rfl, fun j t ht => ?_⟩
  rw [Tryd.params10] at ht
  obtain rfl : t = 23 := by simpa using Array.mem_of_getElem? ht
  exact (show Tryd.prog.wantsStandIn 23 = false by kernel_rfl)
theorem proved : Rows.FnExactLookTextCardSaid :=
  Claim7.holds_tied_plain_at .later [] _ _ _ _ said (fun _ h => by cases h) (by kernel_rfl) (fun _ h => by cases h) fnExactLookText_row_tie rfl ⟨rfl, rfl⟩ (by kernel_rfl) rfl plain (by kernel_rfl)
#print axioms proved
end Go.Proofs.YtmhelhjjadoiaaaDoor.lawFnExactLookText
