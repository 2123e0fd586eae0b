/- The law FnExactDoesMatch returns true, whatever its arguments, and leaves them as they were. No condition beyond the row's own. -/
import Derived.Test.YtjmfkenhnfdbjaaDoorQyX
import Derived.Test.YtjmfkenhnfdbjaaDoorQzA
import Derived.Test.YtjmfkenhnfdbjaaDoorDoorW
import Derived.Test.YtjmfkenhnfdbjaaDoorCards
import Derived.Test.YtjmfkenhnfdbjaaDoorTie
import Derived.Test.YtjmfkenhnfdbjaaDoorOpen
import Derived.Deep.DeepHandedRow
import Derived.LaidMore
import Derived.Deep.DeepLaidRun
import Derived.PinnedBridge
import Derived.OpenShut
import Derived.ChangeMaps5
namespace Go.Proofs.YtjmfkenhnfdbjaaDoor.lawFnExactDoesMatch
open Go.ChangeShapes Go.WideShapes Go.ChangeAt Go.RowKit Go.Deep Go.Joins
open Go.ChangeMaps (open_string shut_string)
set_option linter.unusedVariables false
set_option maxHeartbeats 4000000 in
theorem walk (s : ByteArray) (v : Value) (R : Rc) (w : World) (hs0 : s.size ≤ maxLen) (h : RcV w v R) (hk : Pk w) :
    Calls Tryd.prog 4 #[.string s, v] w fun e w' => e = .returned (.bool true) ∧ Below w.heap.size w w' := by
  unfold maxLen at hs0
  obtain ⟨sv, rfl, h⟩ := h
  obtain ⟨w0, hw0⟩ : ∃ w0, w0 = w.alloc (.cells #[.int .i64 R.id, .int .i64 R.ser, .int .i64 R.made, sv] 27) := ⟨_, rfl⟩
  have HW0 := Lib.hid hw0.symm
  have bx : Box w0 w.heap.size R sv := by rw [hw0]; exact ⟨by simp, by simp, by simp, by simp⟩
  have B0 : Below w.heap.size w w0 := by rw [hw0]; exact (Below.refl _ _).alloc (Nat.le_refl _) _
  have hz0 : w.heap.size < w0.heap.size := by rw [hw0]; simp
  have HBX := Lib.hid bx
  have HB0 := Lib.hid B0
  have HH := Lib.hid (h.below B0)
  have HK := Lib.hid (hk.below B0)
  obtain ⟨a0, a1, a2, a3⟩ := bx
  clear h hw0 B0 hk
  by_cases hs : s.size ≤ 1048576
  · by_cases hz : szE 1048576 R.n < 0
    · go_enter Tryd.func4, Tryd.ntmps4
      go_upto_region 1 with fail
      rw [HW0.out]
      go_wp2_with fail
      refine (C_szRecord R sv 1048576 _ HH.out (by omega) (by omega)).mono ?_; rintro e w1 ⟨rfl, hb1⟩
      go_wp2_with fail
      go_ret
      exact ⟨rfl, bel_step0 hb1 HB0.out⟩
    · obtain ⟨hn, hz2⟩ := szE_small (show 0 ≤ szE 1048576 R.n by omega)
      have hn2 : R.n ≤ 1048576 := by omega
      obtain ⟨z, hzz⟩ : ∃ z, szE 1048576 R.n = z := ⟨_, rfl⟩
      rw [hzz] at hz
      have HZ := Lib.hid (C_szRecord R sv 1048576 w0 HH.out (by omega) (by omega))
      rw [hzz] at HZ
      have HT := Lib.hid (fun w' (hb : Below w0.heap.size w0 w') => C_toRecord R sv w' (HH.out.below hb) hn2)
      obtain ⟨V, hV⟩ : ∃ V, dmV s R = V := ⟨_, rfl⟩
      obtain ⟨K, hKK⟩ : ∃ K, dmOk s R = K := ⟨_, rfl⟩
      have HS := Lib.hid (fun sv w' h => C_DoesMatchS R sv s hs w' h)
      have HI := Lib.hid (fun sv w' (hb : Below w0.heap.size w0 w') h => C_DoesMatchI R sv s hs w' (HK.out.below hb) h)
      rw [hV, hKK] at HS HI
      clear hzz hn hz2 hV hKK
      go_enter Tryd.func4, Tryd.ntmps4
      go_upto_region 1 with fail
      rw [HW0.out]
      go_wp2_with fail
      refine HZ.out.mono ?_; rintro e w1 ⟨rfl, hb1⟩
      have HB1 := Lib.hid hb1
      have HA1 := Lib.hid (HBX.out.below hz0 hb1)
      clear hb1 a0 a1 a2 a3
      obtain ⟨a0, a1, a2, a3⟩ := HA1.out
      go_wp2_with fail
      refine (HT.out _ HB1.out).mono ?_; rintro e w2 ⟨v2, rfl, hv2, hb2⟩
      have HB2 := Lib.hid (bel_step0 hb2 HB1.out)
      have HV2 := Lib.hid hv2.evs
      clear hb2 hv2 a0 a1 a2 a3
      go_wp2_with fail
      refine (HS.out _ _ HV2.out).mono ?_; rintro e w3 ⟨rfl, hb3⟩
      have HB3 := Lib.hid (bel_step0 hb3 HB2.out)
      clear hb3
      obtain ⟨a0, a1, a2, a3⟩ := HBX.out.below hz0 HB3.out
      go_wp2_with fail
      refine (HT.out _ HB3.out).mono ?_; rintro e w4 ⟨v4, rfl, hv4, hb4⟩
      obtain ⟨A4, c4, e4, _⟩ := id hv4.evs
      subst e4
      have hb04 := bel_step0 hb4 HB3.out
      obtain ⟨W4, hW4⟩ : ∃ W, W = w4.alloc (.cells #[.int .i64 R.id, .int .i64 R.ser, .int .i64 R.made, .slice A4 R.n c4] 33) := ⟨_, rfl⟩
      have bW : Below w4.heap.size w4 W4 := by rw [hW4]; exact (Below.refl _ _).alloc (Nat.le_refl _) _
      have bx : Box W4 w4.heap.size R (.slice A4 R.n c4) := by rw [hW4]; exact ⟨by simp, by simp, by simp, by simp⟩
      have hzW : w4.heap.size < W4.heap.size := by rw [hW4]; simp
      have HBX4 := Lib.hid bx
      have HW4 := Lib.hid hW4.symm
      have HB4 := Lib.hid (bel_step0 bW hb04)
      have HV4 := Lib.hid (hv4.evs.below bW)
      obtain ⟨r0, r1, r2, r3⟩ := bx
      clear bW hW4 hv4 hb4 hb04 a0 a1 a2 a3
      go_upto_region 9 with fail
      rw [HW4.out]
      go_wp2_with fail
      refine (HI.out _ _ HB4.out HV4.out).mono ?_; rintro e w5 ⟨rfl, hb5⟩
      have HB5 := Lib.hid (bel_step0 hb5 HB4.out)
      have HV5 := Lib.hid (HV4.out.below hb5)
      have hz5 : w4.heap.size < w5.heap.size := Nat.lt_of_lt_of_le hzW hb5.size
      have hzz5 : w.heap.size < w5.heap.size := Nat.lt_of_lt_of_le hz0 HB5.out.size
      have HBX5 := Lib.hid (HBX4.out.below hzW hb5)
      have HA5 := Lib.hid (HBX.out.below hz0 HB5.out)
      clear hb5 r0 r1 r2 r3 HS HI HZ
      have r0 : ∀ W, Below w5.heap.size w5 W → W.cell? ⟨w4.heap.size, 0, none⟩ = some (.int .i64 R.id) := fun W hW => (HBX5.out.below hz5 hW).1
      have r1 : ∀ W, Below w5.heap.size w5 W → W.cell? ⟨w4.heap.size, 1, none⟩ = some (.int .i64 R.ser) := fun W hW => (HBX5.out.below hz5 hW).2.1
      have r2 : ∀ W, Below w5.heap.size w5 W → W.cell? ⟨w4.heap.size, 2, none⟩ = some (.int .i64 R.made) := fun W hW => (HBX5.out.below hz5 hW).2.2.1
      have r3 : ∀ W, Below w5.heap.size w5 W → W.cell? ⟨w4.heap.size, 3, none⟩ = some (.slice A4 R.n c4) := fun W hW => (HBX5.out.below hz5 hW).2.2.2
      have a0 : ∀ W, Below w5.heap.size w5 W → W.cell? ⟨w.heap.size, 0, none⟩ = some (.int .i64 R.id) := fun W hW => (HA5.out.below hzz5 hW).1
      have a1 : ∀ W, Below w5.heap.size w5 W → W.cell? ⟨w.heap.size, 1, none⟩ = some (.int .i64 R.ser) := fun W hW => (HA5.out.below hzz5 hW).2.1
      have a2 : ∀ W, Below w5.heap.size w5 W → W.cell? ⟨w.heap.size, 2, none⟩ = some (.int .i64 R.made) := fun W hW => (HA5.out.below hzz5 hW).2.2.1
      have a3 : ∀ W, Below w5.heap.size w5 W → W.cell? ⟨w.heap.size, 3, none⟩ = some sv := fun W hW => (HA5.out.below hzz5 hW).2.2.2
      go_upto_region 12 with fail
      go_region_held3 (fun W => Below w5.heap.size w5 W) (((repeat (first | with_reducible exact Below.refl _ _ | with_reducible exact below_regrown _ _ _ | with_reducible refine bel_step0 (by assumption) ?_ | with_reducible refine bel_alloc0 ?_ _ | with_reducible refine bel_regrown0 ?_ _ _ | with_reducible refine bel_regrown ?_ (by first | omega | (simp; done) | (simp; omega)) _ _ | with_reducible refine below_drewN ?_ _ | with_reducible refine Below.drew ?_ | with_reducible refine Below.alloc ?_ (by first | omega | (simp; done) | (simp; omega)) _ | with_reducible refine Below.setCell ?_ (by first | omega | (simp; done) | (simp; omega)) _ | with_reducible refine bel_step (by assumption) (by first | omega | (simp; done) | (simp; omega)) ?_ | with_reducible refine bel_grown (by assumption) (by first | omega | (simp; done) | (simp; omega)) (by first | omega | (simp; done) | (simp; omega)) ?_)))) (first | (go_at_call 12; refine (HT.out _ (bel_step0 (by (repeat (first | with_reducible exact Below.refl _ _ | with_reducible exact below_regrown _ _ _ | with_reducible refine bel_step0 (by assumption) ?_ | with_reducible refine bel_alloc0 ?_ _ | with_reducible refine bel_regrown0 ?_ _ _ | with_reducible refine bel_regrown ?_ (by first | omega | (simp; done) | (simp; omega)) _ _ | with_reducible refine below_drewN ?_ _ | with_reducible refine Below.drew ?_ | with_reducible refine Below.alloc ?_ (by first | omega | (simp; done) | (simp; omega)) _ | with_reducible refine Below.setCell ?_ (by first | omega | (simp; done) | (simp; omega)) _ | with_reducible refine bel_step (by assumption) (by first | omega | (simp; done) | (simp; omega)) ?_ | with_reducible refine bel_grown (by assumption) (by first | omega | (simp; done) | (simp; omega)) (by first | omega | (simp; done) | (simp; omega)) ?_))) HB5.out)).mono ?_; rintro e wa ⟨va, rfl, hva, hba⟩; have HVA := Lib.hid hva.evs; clear hva) | (go_at_call 14; refine (C_eqRecord R (.slice A4 R.n c4) va _ (HV5.out.below (by (repeat (first | with_reducible exact Below.refl _ _ | with_reducible exact below_regrown _ _ _ | with_reducible refine bel_step0 (by assumption) ?_ | with_reducible refine bel_alloc0 ?_ _ | with_reducible refine bel_regrown0 ?_ _ _ | with_reducible refine bel_regrown ?_ (by first | omega | (simp; done) | (simp; omega)) _ _ | with_reducible refine below_drewN ?_ _ | with_reducible refine Below.drew ?_ | with_reducible refine Below.alloc ?_ (by first | omega | (simp; done) | (simp; omega)) _ | with_reducible refine Below.setCell ?_ (by first | omega | (simp; done) | (simp; omega)) _ | with_reducible refine bel_step (by assumption) (by first | omega | (simp; done) | (simp; omega)) ?_ | with_reducible refine bel_grown (by assumption) (by first | omega | (simp; done) | (simp; omega)) (by first | omega | (simp; done) | (simp; omega)) ?_)))) (HVA.out.below (by (repeat (first | with_reducible exact Below.refl _ _ | with_reducible exact below_regrown _ _ _ | with_reducible refine bel_step0 (by assumption) ?_ | with_reducible refine bel_alloc0 ?_ _ | with_reducible refine bel_regrown0 ?_ _ _ | with_reducible refine bel_regrown ?_ (by first | omega | (simp; done) | (simp; omega)) _ _ | with_reducible refine below_drewN ?_ _ | with_reducible refine Below.drew ?_ | with_reducible refine Below.alloc ?_ (by first | omega | (simp; done) | (simp; omega)) _ | with_reducible refine Below.setCell ?_ (by first | omega | (simp; done) | (simp; omega)) _ | with_reducible refine bel_step (by assumption) (by first | omega | (simp; done) | (simp; omega)) ?_ | with_reducible refine bel_grown (by assumption) (by first | omega | (simp; done) | (simp; omega)) (by first | omega | (simp; done) | (simp; omega)) ?_))))).mono ?_; rintro e wb ⟨rfl, hbb⟩))
      all_goals go_wp2_with fail
      all_goals go_ret
      all_goals exact ⟨rfl, bel_step0 (show Below w5.heap.size w5 _ by (repeat (first | with_reducible exact Below.refl _ _ | with_reducible exact below_regrown _ _ _ | with_reducible refine bel_step0 (by assumption) ?_ | with_reducible refine bel_alloc0 ?_ _ | with_reducible refine bel_regrown0 ?_ _ _ | with_reducible refine bel_regrown ?_ (by first | omega | (simp; done) | (simp; omega)) _ _ | with_reducible refine below_drewN ?_ _ | with_reducible refine Below.drew ?_ | with_reducible refine Below.alloc ?_ (by first | omega | (simp; done) | (simp; omega)) _ | with_reducible refine Below.setCell ?_ (by first | omega | (simp; done) | (simp; omega)) _ | with_reducible refine bel_step (by assumption) (by first | omega | (simp; done) | (simp; omega)) ?_ | with_reducible refine bel_grown (by assumption) (by first | omega | (simp; done) | (simp; omega)) (by first | omega | (simp; done) | (simp; omega)) ?_))) (bel_step0 HB5.out HB0.out)⟩
  · go_enter Tryd.func4, Tryd.ntmps4
    go_upto_region 1 with fail
    rw [HW0.out]
    go_wp2_with fail
    go_ret
    exact ⟨rfl, HB0.out⟩
set_option maxRecDepth 100000 in
theorem contract (H : Type) (enc : TypeId × Value → H) (W : World) (base : Nat) (args : Array Value) (ds gs : List (DataW H)) (before : List MemPlace)
    (hval0 : ∀ (j : Nat) t v, Tryd.f4.params[j]? = some t → args[j]? = some v → Value.okWide Tryd.prog W .any base t v)
    (hW : DataW.Whole enc Tryd.prog Tryd.f4.params.toList Rows.fnExactDoesMatchSpec.vars false W args.toList ds gs before) (hL : laidMetH Tryd.prog Rows.fnExactDoesMatchRow.laid W) :
    Calls Tryd.prog 4 args W fun e W' => ∃ v, e = .returned v ∧ Rows.fnExactDoesMatchSpec.post enc Tryd.prog Tryd.f4 false true false false W args v W' := by
  have hval : ∀ (j : Nat) t v, Tryd.f4.params[j]? = some t → args[j]? = some v → Value.okWide Tryd.prog W .any base t v := hval0
  have hW' := hW
  obtain ⟨p, q, hA0, hV, rfl, hfz, hnd⟩ := hW
  have hA : DataW.TrodAll enc Tryd.prog W 0 (fun _ => true) true Tryd.f4.params.toList args.toList ds p := hA0
  rw [Tryd.params4] at hA hval
  obtain ⟨v0, vs0, d0, ds0, p0, q0, hargs, rfl, rfl, h0, r0⟩ := trodAll_cons hA
  obtain ⟨v1, vs1, d1, ds1, p1, q1, rfl, rfl, rfl, h1, r1⟩ := trodAll_cons r0
  obtain ⟨rfl, rfl, rfl⟩ := trodAll_nil r1
  obtain rfl : args = #[v0, v1] := by cases args; simp_all
  obtain ⟨rfl, rfl⟩ := trodVars_none hV
  have k0 := h0
  have lt0 : ∀ x ∈ p0, x.block < W.heap.size := by obtain ⟨m, hm⟩ := k0; exact DataW.trod_lt m _ _ _ hm
  have k1 := h1
  have lt1 : ∀ x ∈ p1, x.block < W.heap.size := by obtain ⟨m, hm⟩ := k1; exact DataW.trod_lt m _ _ _ hm
  obtain ⟨n0, rfl, _, _, b0⟩ := open_string Tryd.underlying9 (hval 0 9 v0 rfl rfl) h0
  obtain ⟨n1, b1⟩ := view_lawsRecord (hval 1 27 v1 rfl rfl) h1
  clear hA0 hval0
  refine (walk n0 v1 n1 W b0 b1 ⟨tab_of W hL, ers_of W hL⟩).mono fun e W' ⟨he, bel⟩ => ?_
  subst he
  exact ⟨_, rfl, _, _, _, [], _, [], hW', trodAll_mk1 (shut_bool Tryd.underlying4 _), (trodAll_cons_mk (Below.trod laidOut (by kernel_rfl) (of_decide_eq_true (by kernel_rfl)) k0 bel lt0) (trodAll_cons_mk (Below.trod laidOut (by kernel_rfl) (of_decide_eq_true (by kernel_rfl)) k1 bel lt1) trodAll_mk0)), rfl, bel.frame _, fun h => by cases h⟩
theorem reads (os : Os) {H : Type} (enc : TypeId × Value → H) : ∃ places, DataW.whole enc Tryd.prog ((doorW os).forCall (fun _ _ => 0) ⟨#[], #[.string ⟨#[]⟩, .agg #[.int .i64 0, .int .i64 0, .int .i64 0, .slice none 0 0]], []⟩).memory Tryd.f4.params.toList Rows.fnExactDoesMatchSpec.vars false #[.string ⟨#[]⟩, .agg #[.int .i64 0, .int .i64 0, .int .i64 0, .slice none 0 0]].toList 8 = some ([.lit (.string []), .agg [.lit (.int .i64 0), .lit (.int .i64 0), .lit (.int .i64 0), .nil]], [], places) :=
  ⟨[], by kernel_rfl⟩
set_option maxRecDepth 100000 in
theorem door_metL (os : Os) (args : Array Value) : laidMet Tryd.prog Rows.fnExactDoesMatchRow.laid ((doorW os).forCall (fun _ _ => 0) ⟨#[], args, []⟩).memory :=
  laidMet_of_run3 8 (by kernel_rfl) (by kernel_rfl) (by kernel_rfl)
set_option maxRecDepth 100000 in
theorem lifted (os : Os) (started : os.Started) (H : Type) (enc : TypeId × Value → H) (F : Stop.Interp) :
    ReturnsInHanded {} Tryd.checked os 4 .any ((OpenSpec.ofChange Rows.fnExactDoesMatchSpec).preRow enc Tryd.prog Tryd.f4 Rows.fnExactDoesMatchRow.domain false Rows.fnExactDoesMatchRow.laid) (((OpenSpec.ofChange Rows.fnExactDoesMatchSpec).at F).post enc Tryd.prog Tryd.f4 false true false false) := by
  obtain ⟨places, hx⟩ := reads os enc
  refine returnsInHanded_of_row (C := Tryd.checked) (s := OpenSpec.ofChange Rows.fnExactDoesMatchSpec) own started (by kernel_rfl) Tryd.func4
    (witness_row_at (enc := enc) (C := Tryd.checked) false (doorW os) #[.string ⟨#[]⟩, .agg #[.int .i64 0, .int .i64 0, .int .i64 0, .slice none 0 0]] rfl (door_shape os _) (door_rest os _) (by kernel_rfl)
      (OpenSpec.preRow_of_cond 8 hx (by kernel_rfl) (fun k hk => by cases hk) (by kernel_rfl) (door_metL os _))) ?_
  intro W base args ds gs before hval hW _ _ _ hL _ _
  exact contract H enc W base args ds gs before hval hW hL
theorem said : Rows.FnExactDoesMatchSaid :=
  OpenClaim.holds_of_cond 4 Tryd.f4 rfl rfl rfl rfl rfl rfl rfl ⟨rfl, rfl, rfl, rfl, rfl⟩ rfl rfl rfl rfl rfl (by kernel_rfl) Tryd.func4 (by kernel_rfl)
    (of_decide_eq_true (by kernel_rfl)) (by unfold Func.isWrapper; first | (rw [if_pos (by decide +kernel)]; kernel_rfl) | (rw [if_neg (by decide +kernel)]; exact ⟨rfl, rfl⟩))
    (fun os started H enc _ F => by rw [OpenClaim.pre_eq_preRow]; exact lifted os started H enc F)
theorem plain (f : FuncId) (fn : Func) (hf : Tryd.pinned.checked.prog.funcNamed Rows.fnExactDoesMatchRow.func = some f) (hfn : Tryd.pinned.checked.prog.funcs[f]? = some fn) :
    true = Tryd.pinned.checked.prog.looks [] ∧ ∀ (j : Nat) t, fn.params[j]? = some t → Tryd.pinned.checked.prog.wantsStandIn t = false := by
  obtain rfl : f = 4 := Option.some.inj ((show Tryd.prog.funcNamed Rows.fnExactDoesMatchRow.func = some 4 by kernel_rfl).symm.trans hf) |>.symm
  obtain rfl : fn = Tryd.f4 := (Option.some.inj (Tryd.func4.symm.trans hfn)).symm
  refine ⟨by kernel_rfl, fun j t ht => ?_⟩
  rw [Tryd.params4] at ht
  have hm : t = 9 ∨ t = 27 := by have := Array.mem_of_getElem? ht; simp at this; omega
  rcases hm with rfl | rfl
  · exact (show Tryd.prog.wantsStandIn 9 = false by kernel_rfl)
  · exact (show Tryd.prog.wantsStandIn 27 = false by kernel_rfl)
theorem proved : Rows.FnExactDoesMatchCardSaid :=
  Claim7.holds_tied_plain_at .later [] _ _ _ _ said (fun _ h => by cases h) (by kernel_rfl) (fun _ h => by cases h) fnExactDoesMatch_row_tie rfl ⟨rfl, rfl⟩ (by kernel_rfl) rfl plain (by kernel_rfl)
#print axioms proved
end Go.Proofs.YtjmfkenhnfdbjaaDoor.lawFnExactDoesMatch
