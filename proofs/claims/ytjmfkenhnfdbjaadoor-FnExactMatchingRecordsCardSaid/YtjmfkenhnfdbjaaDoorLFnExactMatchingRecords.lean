/- The law FnExactMatchingRecords returns true, whatever its arguments, and leaves them as they were. No condition beyond the row's own. -/
import Derived.Test.YtjmfkenhnfdbjaaDoorQzD
import Derived.Test.YtjmfkenhnfdbjaaDoorQzB
import Derived.Test.YtjmfkenhnfdbjaaDoorQzA
import Derived.Test.YtjmfkenhnfdbjaaDoorDoorW
import Derived.Test.YtjmfkenhnfdbjaaDoorCards
import Derived.Test.YtjmfkenhnfdbjaaDoorTie
import Derived.Test.YtjmfkenhnfdbjaaDoorOpen
import Derived.Deep.DeepHandedRow
import Derived.LaidMore
import Derived.Deep.DeepLaidRun
import Derived.PinnedBridge
import Derived.OpenShut
import Derived.ChangeMaps5
namespace Go.Proofs.YtjmfkenhnfdbjaaDoor.lawFnExactMatchingRecords
open Go.ChangeShapes Go.WideShapes Go.ChangeAt Go.RowKit Go.Deep Go.Joins
open Go.ChangeMaps (open_string shut_string)
set_option linter.unusedVariables false
theorem C_eqIntS_same (v v' : Value) (n : Nat) (f : Nat → Int) (w : World) (h : SI w v n f) (h' : SI w v' n f) :
    Calls Tryd.prog 22 #[v, v'] w fun e w' => e = .returned (.bool true) ∧ Below w.heap.size w w' :=
  (C_eqIntS v v' n n f f w h h').mono fun e w' hh => ⟨hh.1.trans (by rw [show eqI n n f f = true by unfold eqI; simp only [beq_self_eq_true, decide_true, Bool.true_and]; exact allB_iff.2 fun _ _ => rfl]), hh.2⟩
set_option maxHeartbeats 4000000 in
theorem walk (s : ByteArray) (v : Value) (x : Nat × (Nat → Rc)) (w : World) (hs0 : s.size ≤ maxLen) (h : RcS w v x.1 x.2) (hk : Pk w) :
    Calls Tryd.prog 6 #[.string s, v] w fun e w' => e = .returned (.bool true) ∧ Below w.heap.size w w' := by
  obtain ⟨n, R⟩ := x
  simp only at h
  unfold maxLen at hs0
  by_cases hs : s.size ≤ 1048576
  · have HZ := Lib.hid (C_szRecordS v n R 1048576 w h (by omega) (by omega))
    by_cases hbig : szRs 1048576 n R < 0
    · go_enter Tryd.func6, Tryd.ntmps6
      go_wp2_with fail
      refine HZ.out.mono ?_; rintro e w1 ⟨rfl, hb1⟩
      go_wp2_with fail
      go_ret
      exact ⟨rfl, hb1⟩
    · obtain ⟨hn, hsm⟩ := szRs_small (show 0 ≤ szRs 1048576 n R by omega)
      obtain ⟨z, hz⟩ : ∃ z, szRs 1048576 n R = z := ⟨_, rfl⟩
      rw [hz] at HZ hbig
      obtain ⟨xs, hxs⟩ : ∃ xs, moL s n R = xs := ⟨_, rfl⟩
      obtain ⟨K, hK⟩ : ∃ K, moOk s n R = K := ⟨_, rfl⟩
      have hlen : xs.length ≤ 1048576 := by rw [← hxs]; exact Nat.le_trans (moL_le _ _ _) hn
      have HT := Lib.hid (fun w' (hb : Below w.heap.size w w') => C_toRecordS v n R w' (h.below hb) hn hsm)
      have HS := Lib.hid (fun v w' h => C_MatchingS s v n R hs w' h)
      have HI := Lib.hid (fun v w' (hbw : Below w.heap.size w w') h => C_MatchingI s v n R hs w' (hk.below hbw) h)
      rw [hxs, hK] at HS HI
      obtain ⟨m, hm⟩ : ∃ m, xs.length = m := ⟨_, rfl⟩
      have HM := Lib.hid hm
      rw [hm] at hlen
      clear hz hxs hK h hk hsm hm
      go_enter Tryd.func6, Tryd.ntmps6
      go_wp2_with fail
      refine HZ.out.mono ?_; rintro e w1 ⟨rfl, hb1⟩
      have B1 := Lib.hid hb1
      clear hb1
      go_wp2_with fail
      refine (HT.out _ B1.out).mono ?_; rintro e w2 ⟨v2, rfl, hv2, hb2⟩
      have B2 := Lib.hid (bel_step0 hb2 B1.out)
      have V2 := Lib.hid hv2.rcs
      clear hb2 hv2
      go_wp2_with fail
      refine (HS.out _ _ V2.out).mono ?_; rintro e w3 ⟨v3, rfl, ho3, hb3⟩
      have B3 := Lib.hid (bel_step0 hb3 B2.out)
      have S3 : Hid (SI w3 v3 m (ai xs)) := Lib.hid (by have := ho3.wi.si; rwa [HM.out] at this)
      clear hb3 ho3
      go_wp2_with fail
      refine (HT.out _ B3.out).mono ?_; rintro e w4 ⟨v4, rfl, hv4, hb4⟩
      have B4 := Lib.hid (bel_step0 hb4 B3.out)
      have F4 := Lib.hid hb4
      have V4 := Lib.hid hv4
      clear hb4 hv4
      go_wp2_with fail
      refine (HI.out _ _ B4.out V4.out.rcs).mono ?_; rintro e w5 ⟨v5, rfl, ho5, hb5⟩
      have B5 := Lib.hid (bel_step0 hb5 B4.out)
      have F5 := Lib.hid (bel_step0 hb5 F4.out)
      have T5 : Hid (WI w4.heap.size w5.heap.size w5 v5 m (ai xs)) := Lib.hid (by have := ho5.wi; rwa [HM.out] at this)
      have X5 := Lib.hid (V4.out.below hb5)
      clear hb5 ho5
      go_wp2_with fail
      refine (C_eqIntS_same _ _ _ _ _ T5.out.si (S3.out.below F5.out)).mono ?_; rintro e w6 ⟨rfl, hb6⟩
      have B6 := Lib.hid (bel_step0 hb6 B5.out)
      have F6 := Lib.hid (bel_step0 hb6 F5.out)
      have T6 := Lib.hid (T5.out.below hb6)
      have X6 := Lib.hid (X5.out.below hb6)
      clear hb6
      go_wp2_with fail
      refine (HT.out _ B6.out).mono ?_; rintro e w7 ⟨v7, rfl, hv7, hb7⟩
      have B7 := Lib.hid (bel_step0 hb7 B6.out)
      have F7 := Lib.hid (bel_step0 hb7 F6.out)
      have T7 := Lib.hid (T6.out.below hb7)
      have X7 := Lib.hid (X6.out.below hb7)
      have V7 := Lib.hid hv7.rcs
      clear hb7 hv7
      go_wp2_with fail
      refine (C_eqRecordS _ _ n R _ X7.out.rcs V7.out).mono ?_; rintro e w8 ⟨rfl, hb8⟩
      have B8 := Lib.hid (bel_step0 hb8 B7.out)
      have F8 := Lib.hid (bel_step0 hb8 F7.out)
      have T8 := Lib.hid (T7.out.below hb8)
      have X8 := Lib.hid (X7.out.below hb8)
      clear hb8
      go_wp2_with fail
      refine (C_markRecordS _ n R _ _ _ X8.out).mono ?_; rintro e w9 ⟨k9, rfl, hk9, hc9⟩
      have B9 := Lib.hid (bel_chg hc9 B3.out.size B8.out)
      have F9 := Lib.hid (bel_chg hc9 (Nat.le_refl _) F8.out)
      have T9 := Lib.hid (T8.out.chg hc9 (.inr (Nat.le_refl _)))
      clear hc9
      go_wp2_with fail
      refine (C_eqIntS_same _ _ _ _ _ T9.out.si (S3.out.below F9.out)).mono ?_; rintro e w10 ⟨rfl, hb10⟩
      have B10 := Lib.hid (bel_step0 hb10 B9.out)
      have F10 := Lib.hid (bel_step0 hb10 F9.out)
      have T10 := Lib.hid (T9.out.below hb10)
      clear hb10
      go_wp2_with fail
      refine (C_markIntS _ _ _ _ _ _ _ T10.out (by omega) (by omega)).mono ?_; rintro e w11 ⟨rfl, t11, hc11⟩
      have B11 := Lib.hid (bel_chg hc11 B4.out.size B10.out)
      have F11 := Lib.hid (bel_chg hc11 F4.out.size F10.out)
      have T11 := Lib.hid t11
      clear hc11 t11
      go_wp2_with fail
      refine (C_heldIntS _ _ _ _ T11.out.si (by omega) (by omega)).mono ?_; rintro e w11' ⟨rfl, rfl⟩
      go_wp2_with fail
      refine (HT.out _ B11.out).mono ?_; rintro e w12 ⟨v12, rfl, hv12, hb12⟩
      have B12 := Lib.hid (bel_step0 hb12 B11.out)
      have F12 := Lib.hid (bel_step0 hb12 F11.out)
      have T12 := Lib.hid (T11.out.below hb12)
      have V12 := Lib.hid hv12.rcs
      clear hb12 hv12
      go_wp2_with fail
      refine (HI.out _ _ B12.out V12.out).mono ?_; rintro e w13 ⟨v13, rfl, ho13, hb13⟩
      have B13 := Lib.hid (bel_step0 hb13 B12.out)
      have F13 := Lib.hid (bel_step0 hb13 F12.out)
      have T13 := Lib.hid (T12.out.below hb13)
      have S13 : Hid (SI w13 v13 m (ai xs)) := Lib.hid (by have := ho13.wi.si; rwa [HM.out] at this)
      clear hb13 ho13
      go_wp2_with fail
      refine (C_eqIntS_same _ _ _ _ _ S13.out (S3.out.below F13.out)).mono ?_; rintro e w14 ⟨rfl, hb14⟩
      have B14 := Lib.hid (bel_step0 hb14 B13.out)
      have T14 := Lib.hid (T13.out.below hb14)
      clear hb14
      go_wp2_with fail
      refine (C_heldIntS _ _ _ _ T14.out.si (by omega) (by omega)).mono ?_; rintro e w14' ⟨rfl, rfl⟩
      go_wp2_with fail
      go_ret
      exact ⟨rfl, B14.out⟩
  · go_enter Tryd.func6, Tryd.ntmps6
    go_wp2_with fail
    go_ret
    exact ⟨rfl, Below.refl _ _⟩
set_option maxRecDepth 100000 in
theorem contract (H : Type) (enc : TypeId × Value → H) (W : World) (base : Nat) (args : Array Value) (ds gs : List (DataW H)) (before : List MemPlace)
    (hval0 : ∀ (j : Nat) t v, Tryd.f6.params[j]? = some t → args[j]? = some v → Value.okWide Tryd.prog W .any base t v)
    (hW : DataW.Whole enc Tryd.prog Tryd.f6.params.toList Rows.fnExactMatchingRecordsSpec.vars false W args.toList ds gs before) (hL : laidMetH Tryd.prog Rows.fnExactMatchingRecordsRow.laid W) :
    Calls Tryd.prog 6 args W fun e W' => ∃ v, e = .returned v ∧ Rows.fnExactMatchingRecordsSpec.post enc Tryd.prog Tryd.f6 false true false false W args v W' := by
  have hval : ∀ (j : Nat) t v, Tryd.f6.params[j]? = some t → args[j]? = some v → Value.okWide Tryd.prog W .any base t v := hval0
  have hW' := hW
  obtain ⟨p, q, hA0, hV, rfl, hfz, hnd⟩ := hW
  have hA : DataW.TrodAll enc Tryd.prog W 0 (fun _ => true) true Tryd.f6.params.toList args.toList ds p := hA0
  rw [Tryd.params6] at hA hval
  obtain ⟨v0, vs0, d0, ds0, p0, q0, hargs, rfl, rfl, h0, r0⟩ := trodAll_cons hA
  obtain ⟨v1, vs1, d1, ds1, p1, q1, rfl, rfl, rfl, h1, r1⟩ := trodAll_cons r0
  obtain ⟨rfl, rfl, rfl⟩ := trodAll_nil r1
  obtain rfl : args = #[v0, v1] := by cases args; simp_all
  obtain ⟨rfl, rfl⟩ := trodVars_none hV
  have k0 := h0
  have lt0 : ∀ x ∈ p0, x.block < W.heap.size := by obtain ⟨m, hm⟩ := k0; exact DataW.trod_lt m _ _ _ hm
  have k1 := h1
  have lt1 : ∀ x ∈ p1, x.block < W.heap.size := by obtain ⟨m, hm⟩ := k1; exact DataW.trod_lt m _ _ _ hm
  obtain ⟨n0, rfl, _, _, b0⟩ := open_string Tryd.underlying9 (hval 0 9 v0 rfl rfl) h0
  obtain ⟨n1, b1⟩ := view_SlawsRecord (hval 1 37 v1 rfl rfl) h1
  clear hA0 hval0
  refine (walk n0 v1 n1 W b0 b1 ⟨tab_of W hL, ers_of W hL⟩).mono fun e W' ⟨he, bel⟩ => ?_
  subst he
  exact ⟨_, rfl, _, _, _, [], _, [], hW', trodAll_mk1 (shut_bool Tryd.underlying4 _), (trodAll_cons_mk (Below.trod laidOut (by kernel_rfl) (of_decide_eq_true (by kernel_rfl)) k0 bel lt0) (trodAll_cons_mk (Below.trod laidOut (by kernel_rfl) (of_decide_eq_true (by kernel_rfl)) k1 bel lt1) trodAll_mk0)), rfl, bel.frame _, fun h => by cases h⟩
theorem reads (os : Os) {H : Type} (enc : TypeId × Value → H) : ∃ places, DataW.whole enc Tryd.prog ((doorW os).forCall (fun _ _ => 0) ⟨#[], #[.string ⟨#[]⟩, .slice none 0 0], []⟩).memory Tryd.f6.params.toList Rows.fnExactMatchingRecordsSpec.vars false #[.string ⟨#[]⟩, .slice none 0 0].toList 8 = some ([.lit (.string []), .nil], [], places) :=
  ⟨[], by kernel_rfl⟩
set_option maxRecDepth 100000 in
theorem door_metL (os : Os) (args : Array Value) : laidMet Tryd.prog Rows.fnExactMatchingRecordsRow.laid ((doorW os).forCall (fun _ _ => 0) ⟨#[], args, []⟩).memory :=
  laidMet_of_run3 8 (by kernel_rfl) (by kernel_rfl) (by kernel_rfl)
set_option maxRecDepth 100000 in
theorem lifted (os : Os) (started : os.Started) (H : Type) (enc : TypeId × Value → H) (F : Stop.Interp) :
    ReturnsInHanded {} Tryd.checked os 6 .any ((OpenSpec.ofChange Rows.fnExactMatchingRecordsSpec).preRow enc Tryd.prog Tryd.f6 Rows.fnExactMatchingRecordsRow.domain false Rows.fnExactMatchingRecordsRow.laid) (((OpenSpec.ofChange Rows.fnExactMatchingRecordsSpec).at F).post enc Tryd.prog Tryd.f6 false true false false) := by
  obtain ⟨places, hx⟩ := reads os enc
  refine returnsInHanded_of_row (C := Tryd.checked) (s := OpenSpec.ofChange Rows.fnExactMatchingRecordsSpec) own started (by kernel_rfl) Tryd.func6
    (witness_row_at (enc := enc) (C := Tryd.checked) false (doorW os) #[.string ⟨#[]⟩, .slice none 0 0] rfl (door_shape os _) (door_rest os _) (by kernel_rfl)
      (OpenSpec.preRow_of_cond 8 hx (by kernel_rfl) (fun k hk => by cases hk) (by kernel_rfl) (door_metL os _))) ?_
  intro W base args ds gs before hval hW _ _ _ hL _ _
  exact contract H enc W base args ds gs before hval hW hL
theorem said : Rows.FnExactMatchingRecordsSaid :=
  OpenClaim.holds_of_cond 6 Tryd.f6 rfl rfl rfl rfl rfl rfl rfl ⟨rfl, rfl, rfl, rfl, rfl⟩ rfl rfl rfl rfl rfl (by kernel_rfl) Tryd.func6 (by kernel_rfl)
    (of_decide_eq_true (by kernel_rfl)) (by unfold Func.isWrapper; first | (rw [if_pos (by decide +kernel)]; kernel_rfl) | (rw [if_neg (by decide +kernel)]; exact ⟨rfl, rfl⟩))
    (fun os started H enc _ F => by rw [OpenClaim.pre_eq_preRow]; exact lifted os started H enc F)
theorem plain (f : FuncId) (fn : Func) (hf : Tryd.pinned.checked.prog.funcNamed Rows.fnExactMatchingRecordsRow.func = some f) (hfn : Tryd.pinned.checked.prog.funcs[f]? = some fn) :
    true = Tryd.pinned.checked.prog.looks [] ∧ ∀ (j : Nat) t, fn.params[j]? = some t → Tryd.pinned.checked.prog.wantsStandIn t = false := by
  obtain rfl : f = 6 := Option.some.inj ((show Tryd.prog.funcNamed Rows.fnExactMatchingRecordsRow.func = some 6 by kernel_rfl).symm.trans hf) |>.symm
  obtain rfl : fn = Tryd.f6 := (Option.some.inj (Tryd.func6.symm.trans hfn)).symm
  refine ⟨by kernel_rfl, fun j t ht => ?_⟩
  rw [Tryd.params6] at ht
  have hm : t = 9 ∨ t = 37 := by have := Array.mem_of_getElem? ht; simp at this; omega
  rcases hm with rfl | rfl
  · exact (show Tryd.prog.wantsStandIn 9 = false by kernel_rfl)
  · exact (show Tryd.prog.wantsStandIn 37 = false by kernel_rfl)
theorem proved : Rows.FnExactMatchingRecordsCardSaid :=
  Claim7.holds_tied_plain_at .later [] _ _ _ _ said (fun _ h => by cases h) (by kernel_rfl) (fun _ h => by cases h) fnExactMatchingRecords_row_tie rfl ⟨rfl, rfl⟩ (by kernel_rfl) rfl plain (by kernel_rfl)
#print axioms proved
end Go.Proofs.YtjmfkenhnfdbjaaDoor.lawFnExactMatchingRecords
