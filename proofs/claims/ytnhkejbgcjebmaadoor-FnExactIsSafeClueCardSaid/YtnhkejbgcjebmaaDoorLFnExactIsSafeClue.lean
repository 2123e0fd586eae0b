/- The law FnExactIsSafeClue returns true, whatever its arguments, and leaves them as they were. No condition beyond the row's own. -/
import Derived.Test.YtnhkejbgcjebmaaDoorClueG
import Derived.Test.YtnhkejbgcjebmaaDoorDoorW
import Derived.Test.YtnhkejbgcjebmaaDoorCards
import Derived.Test.YtnhkejbgcjebmaaDoorTie
import Derived.Test.YtnhkejbgcjebmaaDoorOpen
import Derived.Deep.DeepHandedRow
import Derived.LaidMore
import Derived.Deep.DeepLaidRun
import Derived.PinnedBridge
import Derived.OpenShut
import Derived.ChangeMaps5
namespace Go.Proofs.YtnhkejbgcjebmaaDoor.lawFnExactIsSafeClue
open Go.ChangeShapes Go.WideShapes Go.ChangeAt Go.RowKit Go.Deep Go.Joins
open Go.ChangeMaps (open_string shut_string)
set_option linter.unusedVariables false
set_option linter.unusedSimpArgs false
theorem walk (v : Value) (y : Nat × (Nat → ByteArray)) (a b : Int) (s t : ByteArray) (k : Int) (w : World) (h : TI w v y.1 y.2 ∧ ∀ j, j < y.1 → (y.2 j).size ≤ 9223372036854775807) (_ : I64 a) (_ : I64 b) (hs1 : s.size ≤ maxLen) (hs2 : t.size ≤ maxLen) (_ : I64 k) :
    Calls Tryd.prog 9 #[v, .agg #[.int .i64 a, .int .i64 b, .string s, .string t], .int .i64 k] w fun e w' => e = .returned (.bool true) ∧ Below w.heap.size w w' := by
  unfold maxLen at hs1 hs2
  obtain ⟨n, f⟩ := y
  obtain ⟨h, hs⟩ := h
  simp only at h hs
  have HS := Lib.hid hs; clear hs
  obtain ⟨w0, hw0⟩ : ∃ w0, w0 = w.alloc (.cells #[.int .i64 a, .int .i64 b, .string s, .string t] 26) := ⟨_, rfl⟩
  have B0 : Below w.heap.size w w0 := by rw [hw0]; (repeat (first | with_reducible exact Below.refl _ _ | with_reducible exact below_regrown _ _ _ | with_reducible refine bel_step0 (by assumption) ?_ | with_reducible refine bel_alloc0 ?_ _ | with_reducible refine bel_regrown0 ?_ _ _ | with_reducible refine bel_regrown ?_ (by first | omega | (simp; done) | (simp; omega)) _ _ | with_reducible refine below_drewN ?_ _ | with_reducible refine Below.drew ?_ | with_reducible refine Below.alloc ?_ (by first | omega | (simp; done) | (simp; omega)) _ | with_reducible refine Below.setCell ?_ (by first | omega | (simp; done) | (simp; omega)) _ | with_reducible refine bel_step (by assumption) (by first | omega | (simp; done) | (simp; omega)) ?_ | with_reducible refine bel_grown (by assumption) (by first | omega | (simp; done) | (simp; omega)) (by first | omega | (simp; done) | (simp; omega)) ?_))
  have hcl : clueAt w0 w.heap.size a b s t := by rw [hw0]; exact ⟨by simp, by simp, by simp, by simp, by simp⟩
  have HW0 := Lib.hid hw0
  have h0 := h.below B0
  clear hw0
  by_cases hbig : szT 1048576 n f < 0
  · go_enter Tryd.func9, Tryd.ntmps9
    go_wp2_with fail
    rw [← HW0.out]
    refine (C_szStringS _ _ _ _ _ h0 HS.out (by omega) (by omega)).mono ?_; rintro e w1 ⟨rfl, rfl⟩
    go_wp2_with fail
    go_ret
    exact ⟨rfl, B0⟩
  have hbig0 : 0 ≤ szT 1048576 n f := by omega
  have hn : n ≤ 1048576 := by have := (szT_small hbig0).1; omega
  have hz1 := szT_le hbig0
  obtain ⟨z, hz⟩ : ∃ z, szT 1048576 n f = z := ⟨_, rfl⟩
  rw [hz] at hbig0 hz1
  have HZ := Lib.hid hz
  clear hz hbig
  by_cases hbc : szC z s t < 0
  · go_enter Tryd.func9, Tryd.ntmps9
    go_wp2_with fail
    rw [← HW0.out]
    refine (C_szStringS _ _ _ _ _ h0 HS.out (by omega) (by omega)).mono ?_; rintro e w1 ⟨rfl, rfl⟩
    rw [HZ.out]
    obtain ⟨q, q0, q1, q2, q3⟩ := hcl
    go_wp2_with fail
    refine (C_szClue _ _ _ _ _ _ hs1 hs2 (by omega) (by omega)).mono ?_; rintro e w2 ⟨rfl, hb2⟩
    go_wp2_with fail
    go_ret
    exact ⟨rfl, bel_step0 hb2 B0⟩
  obtain ⟨z2, hz2⟩ : ∃ z2, szC z s t = z2 := ⟨_, rfl⟩
  rw [hz2] at hbc
  have HZ2 := Lib.hid hz2
  obtain ⟨ok, hok⟩ : ∃ ok, (dictB n f && okC a b s t && within k 1 12) = ok := ⟨_, rfl⟩
  obtain ⟨r, hr⟩ : ∃ r, (ok && decide (k ≤ (cntB n fun j => fitB a b s t (f j)))) = r := ⟨_, rfl⟩
  have CI := fun W v (hv : TI W v n f) => C_IsSafeClueI v n f a b s t k W hv HS.out hs1 hs2
  have CS := fun W v (hv : TI W v n f) => C_IsSafeClueS v n f a b s t k W hv HS.out hs1 hs2
  rw [hok, hr] at CI CS
  have HC := Lib.hid (And.intro CI CS)
  have HH := Lib.hid h0
  have HCL := Lib.hid hcl
  have HB0 := Lib.hid B0
  clear hok hr CI CS hz2 h h0 B0 hcl
  go_enter Tryd.func9, Tryd.ntmps9
  go_wp2_with fail
  rw [← HW0.out]
  refine (C_szStringS _ _ _ _ _ HH.out HS.out (by omega) (by omega)).mono ?_; rintro e w1 ⟨rfl, rfl⟩
  rw [HZ.out]
  obtain ⟨q, q0, q1, q2, q3⟩ := HCL.out
  go_wp2_with fail
  refine (C_szClue _ _ _ _ _ _ hs1 hs2 (by omega) (by omega)).mono ?_; rintro e w2 ⟨rfl, hb2⟩
  rw [HZ2.out]
  have hti := Lib.hid (HH.out.below hb2)
  have hcl2 := Lib.hid (HCL.out.below hb2)
  have HB2 := Lib.hid (bel_step0 hb2 HB0.out)
  clear q q0 q1 q2 q3 hb2
  go_upto_region 8 with fail
  go_cut [8, 9] (fun s8 s9 wx => s8 = .bool r ∧ s9 = .bool ok ∧ Below w2.heap.size w2 wx)
  case first =>
    have r0 : ∀ W, Below w2.heap.size w2 W → W.cell? ⟨w.heap.size, 0, none⟩ = some (.int .i64 a) := fun W hW => (hcl2.out.below hW).2.1
    have r1 : ∀ W, Below w2.heap.size w2 W → W.cell? ⟨w.heap.size, 1, none⟩ = some (.int .i64 b) := fun W hW => (hcl2.out.below hW).2.2.1
    have r2 : ∀ W, Below w2.heap.size w2 W → W.cell? ⟨w.heap.size, 2, none⟩ = some (.string s) := fun W hW => (hcl2.out.below hW).2.2.2.1
    have r3 : ∀ W, Below w2.heap.size w2 W → W.cell? ⟨w.heap.size, 3, none⟩ = some (.string t) := fun W hW => (hcl2.out.below hW).2.2.2.2
    go_region_held3 (fun W => Below w2.heap.size w2 W) (((repeat (first | with_reducible exact Below.refl _ _ | with_reducible exact below_regrown _ _ _ | with_reducible refine bel_step0 (by assumption) ?_ | with_reducible refine bel_alloc0 ?_ _ | with_reducible refine bel_regrown0 ?_ _ _ | with_reducible refine bel_regrown ?_ (by first | omega | (simp; done) | (simp; omega)) _ _ | with_reducible refine below_drewN ?_ _ | with_reducible refine Below.drew ?_ | with_reducible refine Below.alloc ?_ (by first | omega | (simp; done) | (simp; omega)) _ | with_reducible refine Below.setCell ?_ (by first | omega | (simp; done) | (simp; omega)) _ | with_reducible refine bel_step (by assumption) (by first | omega | (simp; done) | (simp; omega)) ?_ | with_reducible refine bel_grown (by assumption) (by first | omega | (simp; done) | (simp; omega)) (by first | omega | (simp; done) | (simp; omega)) ?_)))) (first | (go_at_call 26; refine (C_toStringS _ _ _ _ (hti.out.below (by (repeat (first | with_reducible exact Below.refl _ _ | with_reducible exact below_regrown _ _ _ | with_reducible refine bel_step0 (by assumption) ?_ | with_reducible refine bel_alloc0 ?_ _ | with_reducible refine bel_regrown0 ?_ _ _ | with_reducible refine bel_regrown ?_ (by first | omega | (simp; done) | (simp; omega)) _ _ | with_reducible refine below_drewN ?_ _ | with_reducible refine Below.drew ?_ | with_reducible refine Below.alloc ?_ (by first | omega | (simp; done) | (simp; omega)) _ | with_reducible refine Below.setCell ?_ (by first | omega | (simp; done) | (simp; omega)) _ | with_reducible refine bel_step (by assumption) (by first | omega | (simp; done) | (simp; omega)) ?_ | with_reducible refine bel_grown (by assumption) (by first | omega | (simp; done) | (simp; omega)) (by first | omega | (simp; done) | (simp; omega)) ?_)))) hn).mono ?_; rintro e u2 ⟨v2, rfl, hv2, hb2⟩) | (go_at_call 19; refine (C_toClue _ _ _ _ _).mono ?_; rintro e u3 ⟨rfl, hb3⟩; (try have hv3 := hv2.below hb3)) | (go_at_call 33; (first | (with_reducible refine (HC.out.2 _ _ hv3.ti).mono ?_) | (with_reducible refine (HC.out.2 _ _ hv2.ti).mono ?_)); rintro e u4 ⟨rfl, hb4⟩))
    all_goals
      go_wp2_with fail
      go_meet
      exact ⟨rfl, rfl, by (repeat (first | with_reducible exact Below.refl _ _ | with_reducible exact below_regrown _ _ _ | with_reducible refine bel_step0 (by assumption) ?_ | with_reducible refine bel_alloc0 ?_ _ | with_reducible refine bel_regrown0 ?_ _ _ | with_reducible refine bel_regrown ?_ (by first | omega | (simp; done) | (simp; omega)) _ _ | with_reducible refine below_drewN ?_ _ | with_reducible refine Below.drew ?_ | with_reducible refine Below.alloc ?_ (by first | omega | (simp; done) | (simp; omega)) _ | with_reducible refine Below.setCell ?_ (by first | omega | (simp; done) | (simp; omega)) _ | with_reducible refine bel_step (by assumption) (by first | omega | (simp; done) | (simp; omega)) ?_ | with_reducible refine bel_grown (by assumption) (by first | omega | (simp; done) | (simp; omega)) (by first | omega | (simp; done) | (simp; omega)) ?_))⟩
  case rest =>
    rename World => wx
    obtain ⟨rfl, rfl, hbx⟩ := hcut
    have HB3 := Lib.hid (bel_step0 hbx HB2.out)
    have ht3 := Lib.hid (hti.out.below hbx)
    have hc3 := Lib.hid (hcl2.out.below hbx)
    clear hbx
    go_wp2_with fail
    refine (C_toStringS _ _ _ _ ht3.out hn).mono ?_; rintro e w4 ⟨v4, rfl, hv4, hb4⟩
    have B4 := bel_step0 hb4 HB3.out
    obtain ⟨q, q0, q1, q2, q3⟩ := hc3.out.below hb4
    go_wp2_with fail
    clear q q0 q1 q2 q3
    refine (C_toClue _ _ _ _ _).mono ?_; rintro e w5 ⟨rfl, hb5⟩
    have B5 := bel_step0 hb5 B4
    have x5 := hv4.below hb5
    go_wp2_with fail
    refine (HC.out.1 _ _ x5.ti).mono ?_; rintro e w6 ⟨rfl, hb6⟩
    have B6 := bel_step0 hb6 B5
    have x6 := x5.below hb6
    have t6 := ((ht3.out.below hb4).below hb5).below hb6
    go_wp2_with fail
    refine (C_toStringS _ _ _ _ t6 hn).mono ?_; rintro e w7 ⟨v7, rfl, hv7, hb7⟩
    have B7 := bel_step0 hb7 B6
    have x7 := x6.below hb7
    go_wp2_with fail
    refine (C_eqStringS_same _ _ _ _ _ x7.ti hv7.ti).mono ?_; rintro e w8 ⟨rfl, hb8⟩
    have B8 := bel_step0 hb8 B7
    go_wp2_with fail
    go_ret
    exact ⟨rfl, B8⟩
set_option maxRecDepth 100000 in
theorem contract (H : Type) (enc : TypeId × Value → H) (W : World) (base : Nat) (args : Array Value) (ds gs : List (DataW H)) (before : List MemPlace)
    (hval0 : ∀ (j : Nat) t v, Tryd.f9.params[j]? = some t → args[j]? = some v → Value.okWide Tryd.prog W .any base t v)
    (hW : DataW.Whole enc Tryd.prog Tryd.f9.params.toList Rows.fnExactIsSafeClueSpec.vars false W args.toList ds gs before) (hL : laidMetH Tryd.prog Rows.fnExactIsSafeClueRow.laid W) :
    Calls Tryd.prog 9 args W fun e W' => ∃ v, e = .returned v ∧ Rows.fnExactIsSafeClueSpec.post enc Tryd.prog Tryd.f9 false true false false W args v W' := by
  have hval : ∀ (j : Nat) t v, Tryd.f9.params[j]? = some t → args[j]? = some v → Value.okWide Tryd.prog W .any base t v := hval0
  have hW' := hW
  obtain ⟨p, q, hA0, hV, rfl, hfz, hnd⟩ := hW
  have hA : DataW.TrodAll enc Tryd.prog W 0 (fun _ => true) true Tryd.f9.params.toList args.toList ds p := hA0
  rw [Tryd.params9] at hA hval
  obtain ⟨v0, vs0, d0, ds0, p0, q0, hargs, rfl, rfl, h0, r0⟩ := trodAll_cons hA
  obtain ⟨v1, vs1, d1, ds1, p1, q1, rfl, rfl, rfl, h1, r1⟩ := trodAll_cons r0
  obtain ⟨v2, vs2, d2, ds2, p2, q2, rfl, rfl, rfl, h2, r2⟩ := trodAll_cons r1
  obtain ⟨rfl, rfl, rfl⟩ := trodAll_nil r2
  obtain rfl : args = #[v0, v1, v2] := by cases args; simp_all
  obtain ⟨rfl, rfl⟩ := trodVars_none hV
  have k0 := h0
  have lt0 : ∀ x ∈ p0, x.block < W.heap.size := by obtain ⟨m, hm⟩ := k0; exact DataW.trod_lt m _ _ _ hm
  have k1 := h1
  have lt1 : ∀ x ∈ p1, x.block < W.heap.size := by obtain ⟨m, hm⟩ := k1; exact DataW.trod_lt m _ _ _ hm
  have k2 := h2
  have lt2 : ∀ x ∈ p2, x.block < W.heap.size := by obtain ⟨m, hm⟩ := k2; exact DataW.trod_lt m _ _ _ hm
  obtain ⟨n0, b0⟩ := view_Sstring (hval 0 36 v0 rfl rfl) h0
  obtain ⟨x1_0, x1_1, x1_2, x1_3, y1_0, y1_1, y1_2, y1_3, _, rfl, _, _, t1_0, t1_1, t1_2, t1_3⟩ := open_agg4 Tryd.underlying26 (by kernel_rfl) (by kernel_rfl) (hval 1 26 v1 rfl rfl) h1
  obtain ⟨n1_0, e, _, b1_0⟩ := DataW.trod_int Tryd.underlying3 t1_0; simp only [List.cons.injEq, and_true] at e; subst e
  obtain ⟨n1_1, e, _, b1_1⟩ := DataW.trod_int Tryd.underlying3 t1_1; simp only [List.cons.injEq, and_true] at e; subst e
  obtain ⟨n1_2, e, _, b1_2⟩ := DataW.trod_string Tryd.underlying9 t1_2; simp only [List.cons.injEq, and_true] at e; subst e
  obtain ⟨n1_3, e, _, b1_3⟩ := DataW.trod_string Tryd.underlying9 t1_3; simp only [List.cons.injEq, and_true] at e; subst e
  obtain ⟨n2, rfl, _, _, b2⟩ := open_int Tryd.underlying3 (hval 2 3 v2 rfl rfl) h2
  clear hA0 hval0
  refine (walk v0 n0 n1_0 n1_1 n1_2 n1_3 n2 W b0 (i64_of_wf b1_0) (i64_of_wf b1_1) b1_2 b1_3 (i64_of_wf b2)).mono fun e W' ⟨he, bel⟩ => ?_
  subst he
  exact ⟨_, rfl, _, _, _, [], _, [], hW', trodAll_mk1 (shut_bool Tryd.underlying4 _), (trodAll_cons_mk (Below.trod laidOut (by kernel_rfl) (of_decide_eq_true (by kernel_rfl)) k0 bel lt0) (trodAll_cons_mk (Below.trod laidOut (by kernel_rfl) (of_decide_eq_true (by kernel_rfl)) k1 bel lt1) (trodAll_cons_mk (Below.trod laidOut (by kernel_rfl) (of_decide_eq_true (by kernel_rfl)) k2 bel lt2) trodAll_mk0))), rfl, bel.frame _, fun h => by cases h⟩
theorem reads (os : Os) {H : Type} (enc : TypeId × Value → H) : ∃ places, DataW.whole enc Tryd.prog ((doorW os).forCall (fun _ _ => 0) ⟨#[], #[.slice none 0 0, .agg #[.int .i64 0, .int .i64 0, .string ⟨#[]⟩, .string ⟨#[]⟩], .int .i64 0], []⟩).memory Tryd.f9.params.toList Rows.fnExactIsSafeClueSpec.vars false #[.slice none 0 0, .agg #[.int .i64 0, .int .i64 0, .string ⟨#[]⟩, .string ⟨#[]⟩], .int .i64 0].toList 8 = some ([.nil, .agg [.lit (.int .i64 0), .lit (.int .i64 0), .lit (.string []), .lit (.string [])], .lit (.int .i64 0)], [], places) :=
  ⟨[], by kernel_rfl⟩
set_option maxRecDepth 100000 in
theorem lifted (os : Os) (started : os.Started) (H : Type) (enc : TypeId × Value → H) (F : Stop.Interp) :
    ReturnsInHanded {} Tryd.checked os 9 .any ((OpenSpec.ofChange Rows.fnExactIsSafeClueSpec).preRow enc Tryd.prog Tryd.f9 Rows.fnExactIsSafeClueRow.domain false Rows.fnExactIsSafeClueRow.laid) (((OpenSpec.ofChange Rows.fnExactIsSafeClueSpec).at F).post enc Tryd.prog Tryd.f9 false true false false) := by
  obtain ⟨places, hx⟩ := reads os enc
  refine returnsInHanded_of_row (C := Tryd.checked) (s := OpenSpec.ofChange Rows.fnExactIsSafeClueSpec) own started (by kernel_rfl) Tryd.func9
    (witness_row_at (enc := enc) (C := Tryd.checked) false (doorW os) #[.slice none 0 0, .agg #[.int .i64 0, .int .i64 0, .string ⟨#[]⟩, .string ⟨#[]⟩], .int .i64 0] rfl (door_shape os _) (door_rest os _) (by kernel_rfl)
      (OpenSpec.preRow_of_cond 8 hx (by kernel_rfl) (fun k hk => by cases hk) (by kernel_rfl) (door_met os _))) ?_
  intro W base args ds gs before hval hW _ _ _ hL _ _
  exact contract H enc W base args ds gs before hval hW hL
theorem said : Rows.FnExactIsSafeClueSaid :=
  OpenClaim.holds_of_cond 9 Tryd.f9 rfl rfl rfl rfl rfl rfl rfl ⟨rfl, rfl, rfl, rfl, rfl⟩ rfl rfl rfl rfl rfl (by kernel_rfl) Tryd.func9 (by kernel_rfl)
    (of_decide_eq_true (by kernel_rfl)) (by unfold Func.isWrapper; first | (rw [if_pos (by decide +kernel)]; kernel_rfl) | (rw [if_neg (by decide +kernel)]; exact ⟨rfl, rfl⟩))
    (fun os started H enc _ F => by rw [OpenClaim.pre_eq_preRow]; exact lifted os started H enc F)
theorem plain (f : FuncId) (fn : Func) (hf : Tryd.pinned.checked.prog.funcNamed Rows.fnExactIsSafeClueRow.func = some f) (hfn : Tryd.pinned.checked.prog.funcs[f]? = some fn) :
    false = Tryd.pinned.checked.prog.looks [] ∧ ∀ (j : Nat) t, fn.params[j]? = some t → Tryd.pinned.checked.prog.wantsStandIn t = false := by
  obtain rfl : f = 9 := Option.some.inj ((show Tryd.prog.funcNamed Rows.fnExactIsSafeClueRow.func = some 9 by kernel_rfl).symm.trans hf) |>.symm
  obtain rfl : fn = Tryd.f9 := (Option.some.inj (Tryd.func9.symm.trans hfn)).symm
  refine ⟨by kernel_rfl, fun j t ht => ?_⟩
  rw [Tryd.params9] at ht
  have hm : t = 36 ∨ t = 26 ∨ t = 3 := by have := Array.mem_of_getElem? ht; simp at this; omega
  rcases hm with rfl | rfl | rfl
  · exact (show Tryd.prog.wantsStandIn 36 = false by kernel_rfl)
  · exact (show Tryd.prog.wantsStandIn 26 = false by kernel_rfl)
  · exact (show Tryd.prog.wantsStandIn 3 = false by kernel_rfl)
theorem proved : Rows.FnExactIsSafeClueCardSaid :=
  Claim7.holds_tied_plain_at .later [] _ _ _ _ said (fun _ h => by cases h) (by kernel_rfl) (fun _ h => by cases h) fnExactIsSafeClue_row_tie rfl ⟨rfl, rfl⟩ (by kernel_rfl) rfl plain (by kernel_rfl)
#print axioms proved
end Go.Proofs.YtnhkejbgcjebmaaDoor.lawFnExactIsSafeClue
