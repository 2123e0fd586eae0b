/- The law FnExactIsClue returns true, whatever its arguments, and leaves them as they were. No condition beyond the row's own. -/
import Derived.Test.YtnhkejbgcjebmaaDoorClueA
import Derived.Test.YtnhkejbgcjebmaaDoorDoorW
import Derived.Test.YtnhkejbgcjebmaaDoorCards
import Derived.Test.YtnhkejbgcjebmaaDoorTie
import Derived.Test.YtnhkejbgcjebmaaDoorOpen
import Derived.Deep.DeepHandedRow
import Derived.LaidMore
import Derived.Deep.DeepLaidRun
import Derived.PinnedBridge
import Derived.OpenShut
import Derived.ChangeMaps5
namespace Go.Proofs.YtnhkejbgcjebmaaDoor.lawFnExactIsClue
open Go.ChangeShapes Go.WideShapes Go.ChangeAt Go.RowKit Go.Deep Go.Joins
open Go.ChangeMaps (open_string shut_string)
set_option linter.unusedVariables false
theorem walk (a b : Int) (s t : ByteArray) (w : World) (_ : I64 a) (_ : I64 b) (hs : s.size ≤ maxLen) (ht : t.size ≤ maxLen) :
    Calls Tryd.prog 4 #[.agg #[.int .i64 a, .int .i64 b, .string s, .string t]] w fun e w' => e = .returned (.bool true) ∧ Below w.heap.size w w' := by
  unfold maxLen at hs ht
  by_cases hbig : szC 1048576 s t < 0
  · go_enter Tryd.func4, Tryd.ntmps4
    go_wp2_with (go_at_call 17; refine (C_szClue _ _ _ _ _ _ hs ht (by omega) (by omega)).mono ?_; rintro e w1 ⟨rfl, hb1⟩)
    go_ret
    exact ⟨rfl, bel_step0 hb1 (by (repeat (first | with_reducible exact Below.refl _ _ | with_reducible exact below_regrown _ _ _ | with_reducible refine bel_step0 (by assumption) ?_ | with_reducible refine bel_alloc0 ?_ _ | with_reducible refine bel_regrown0 ?_ _ _ | with_reducible refine bel_regrown ?_ (by first | omega | (simp; done) | (simp; omega)) _ _ | with_reducible refine below_drewN ?_ _ | with_reducible refine Below.drew ?_ | with_reducible refine Below.alloc ?_ (by first | omega | (simp; done) | (simp; omega)) _ | with_reducible refine Below.setCell ?_ (by first | omega | (simp; done) | (simp; omega)) _ | with_reducible refine bel_step (by assumption) (by first | omega | (simp; done) | (simp; omega)) ?_ | with_reducible refine bel_grown (by assumption) (by first | omega | (simp; done) | (simp; omega)) (by first | omega | (simp; done) | (simp; omega)) ?_)))⟩
  · obtain ⟨z, hz⟩ : ∃ z, szC 1048576 s t = z := ⟨_, rfl⟩
    have hz0 : 0 ≤ z := by omega
    have HC0 := Lib.hid (fun W => C_szClue a b s t 1048576 W hs ht (by omega) (by omega))
    rw [hz] at HC0
    obtain ⟨ok, hok⟩ : ∃ ok, okC a b s t = ok := ⟨_, rfl⟩
    have HC := Lib.hid (And.intro (fun W => C_IsClue a b s t W hs ht) (fun W => C_IsClueS a b s t W hs ht))
    rw [hok] at HC
    clear hok hz hbig
    go_enter Tryd.func4, Tryd.ntmps4
    go_wp2_with fail
    refine (HC0.out _).mono ?_; rintro e w1 ⟨rfl, hb1⟩
    have B1 : Below w.heap.size w w1 := bel_step0 hb1 (by (repeat (first | with_reducible exact Below.refl _ _ | with_reducible exact below_regrown _ _ _ | with_reducible refine bel_step0 (by assumption) ?_ | with_reducible refine bel_alloc0 ?_ _ | with_reducible refine bel_regrown0 ?_ _ _ | with_reducible refine bel_regrown ?_ (by first | omega | (simp; done) | (simp; omega)) _ _ | with_reducible refine below_drewN ?_ _ | with_reducible refine Below.drew ?_ | with_reducible refine Below.alloc ?_ (by first | omega | (simp; done) | (simp; omega)) _ | with_reducible refine Below.setCell ?_ (by first | omega | (simp; done) | (simp; omega)) _ | with_reducible refine bel_step (by assumption) (by first | omega | (simp; done) | (simp; omega)) ?_ | with_reducible refine bel_grown (by assumption) (by first | omega | (simp; done) | (simp; omega)) (by first | omega | (simp; done) | (simp; omega)) ?_)))
    obtain ⟨hc1, hf1⟩ := bcell hb1
    have hz1 : w.heap.size < w1.heap.size := by have := bsize hb1; simp at this; omega
    have c0 := hc1 w.heap.size 0 (by simp)
    have c1 := hc1 w.heap.size 1 (by simp)
    have c2 := hc1 w.heap.size 2 (by simp)
    have c3 := hc1 w.heap.size 3 (by simp)
    simp at c0 c1 c2 c3
    clear hc1 hf1
    go_wp2_with fail
    refine (C_toClue _ _ _ _ _).mono ?_; rintro e w2 ⟨rfl, hb2⟩
    have B2 := bel_step0 hb2 B1
    have d0 := (hb2.cell (p := ⟨w.heap.size, 0, none⟩) hz1).trans c0
    have d1 := (hb2.cell (p := ⟨w.heap.size, 1, none⟩) hz1).trans c1
    have d2 := (hb2.cell (p := ⟨w.heap.size, 2, none⟩) hz1).trans c2
    have d3 := (hb2.cell (p := ⟨w.heap.size, 3, none⟩) hz1).trans c3
    have hz2 := Nat.lt_of_lt_of_le hz1 hb2.size
    clear c0 c1 c2 c3
    go_wp2_with fail
    refine (HC.out.2 _).mono ?_; rintro e w3 ⟨rfl, hb3⟩
    have B3 := bel_step0 hb3 B2
    have e0 := (hb3.cell (p := ⟨w.heap.size, 0, none⟩) hz2).trans d0
    have e1 := (hb3.cell (p := ⟨w.heap.size, 1, none⟩) hz2).trans d1
    have e2 := (hb3.cell (p := ⟨w.heap.size, 2, none⟩) hz2).trans d2
    have e3 := (hb3.cell (p := ⟨w.heap.size, 3, none⟩) hz2).trans d3
    clear d0 d1 d2 d3
    go_wp2_with fail
    refine (C_toClue _ _ _ _ _).mono ?_; rintro e w4 ⟨rfl, hb4⟩
    have B4 := bel_step0 hb4 B3
    go_wp2_with fail
    refine (HC.out.1 _).mono ?_; rintro e w5 ⟨rfl, hb5⟩
    have B5 := bel_step0 hb5 B4
    go_wp2_with fail
    go_ret
    exact ⟨rfl, B5⟩
set_option maxRecDepth 100000 in
theorem contract (H : Type) (enc : TypeId × Value → H) (W : World) (base : Nat) (args : Array Value) (ds gs : List (DataW H)) (before : List MemPlace)
    (hval0 : ∀ (j : Nat) t v, Tryd.f4.params[j]? = some t → args[j]? = some v → Value.okWide Tryd.prog W .any base t v)
    (hW : DataW.Whole enc Tryd.prog Tryd.f4.params.toList Rows.fnExactIsClueSpec.vars false W args.toList ds gs before) (hL : laidMetH Tryd.prog Rows.fnExactIsClueRow.laid W) :
    Calls Tryd.prog 4 args W fun e W' => ∃ v, e = .returned v ∧ Rows.fnExactIsClueSpec.post enc Tryd.prog Tryd.f4 false true false false W args v W' := by
  have hval : ∀ (j : Nat) t v, Tryd.f4.params[j]? = some t → args[j]? = some v → Value.okWide Tryd.prog W .any base t v := hval0
  have hW' := hW
  obtain ⟨p, q, hA0, hV, rfl, hfz, hnd⟩ := hW
  have hA : DataW.TrodAll enc Tryd.prog W 0 (fun _ => true) true Tryd.f4.params.toList args.toList ds p := hA0
  rw [Tryd.params4] at hA hval
  obtain ⟨v0, vs0, d0, ds0, p0, q0, hargs, rfl, rfl, h0, r0⟩ := trodAll_cons hA
  obtain ⟨rfl, rfl, rfl⟩ := trodAll_nil r0
  obtain rfl : args = #[v0] := by cases args; simp_all
  obtain ⟨rfl, rfl⟩ := trodVars_none hV
  have k0 := h0
  have lt0 : ∀ x ∈ p0, x.block < W.heap.size := by obtain ⟨m, hm⟩ := k0; exact DataW.trod_lt m _ _ _ hm
  obtain ⟨x0_0, x0_1, x0_2, x0_3, y0_0, y0_1, y0_2, y0_3, _, rfl, _, _, t0_0, t0_1, t0_2, t0_3⟩ := open_agg4 Tryd.underlying26 (by kernel_rfl) (by kernel_rfl) (hval 0 26 v0 rfl rfl) h0
  obtain ⟨n0_0, e, _, b0_0⟩ := DataW.trod_int Tryd.underlying3 t0_0; simp only [List.cons.injEq, and_true] at e; subst e
  obtain ⟨n0_1, e, _, b0_1⟩ := DataW.trod_int Tryd.underlying3 t0_1; simp only [List.cons.injEq, and_true] at e; subst e
  obtain ⟨n0_2, e, _, b0_2⟩ := DataW.trod_string Tryd.underlying9 t0_2; simp only [List.cons.injEq, and_true] at e; subst e
  obtain ⟨n0_3, e, _, b0_3⟩ := DataW.trod_string Tryd.underlying9 t0_3; simp only [List.cons.injEq, and_true] at e; subst e
  clear hA0 hval0
  refine (walk n0_0 n0_1 n0_2 n0_3 W (i64_of_wf b0_0) (i64_of_wf b0_1) b0_2 b0_3).mono fun e W' ⟨he, bel⟩ => ?_
  subst he
  exact ⟨_, rfl, _, _, _, [], _, [], hW', trodAll_mk1 (shut_bool Tryd.underlying4 _), (trodAll_cons_mk (Below.trod laidOut (by kernel_rfl) (of_decide_eq_true (by kernel_rfl)) k0 bel lt0) trodAll_mk0), rfl, bel.frame _, fun h => by cases h⟩
theorem reads (os : Os) {H : Type} (enc : TypeId × Value → H) : ∃ places, DataW.whole enc Tryd.prog ((doorW os).forCall (fun _ _ => 0) ⟨#[], #[.agg #[.int .i64 0, .int .i64 0, .string ⟨#[]⟩, .string ⟨#[]⟩]], []⟩).memory Tryd.f4.params.toList Rows.fnExactIsClueSpec.vars false #[.agg #[.int .i64 0, .int .i64 0, .string ⟨#[]⟩, .string ⟨#[]⟩]].toList 8 = some ([.agg [.lit (.int .i64 0), .lit (.int .i64 0), .lit (.string []), .lit (.string [])]], [], places) :=
  ⟨[], by kernel_rfl⟩
set_option maxRecDepth 100000 in
theorem lifted (os : Os) (started : os.Started) (H : Type) (enc : TypeId × Value → H) (F : Stop.Interp) :
    ReturnsInHanded {} Tryd.checked os 4 .any ((OpenSpec.ofChange Rows.fnExactIsClueSpec).preRow enc Tryd.prog Tryd.f4 Rows.fnExactIsClueRow.domain false Rows.fnExactIsClueRow.laid) (((OpenSpec.ofChange Rows.fnExactIsClueSpec).at F).post enc Tryd.prog Tryd.f4 false true false false) := by
  obtain ⟨places, hx⟩ := reads os enc
  refine returnsInHanded_of_row (C := Tryd.checked) (s := OpenSpec.ofChange Rows.fnExactIsClueSpec) own started (by kernel_rfl) Tryd.func4
    (witness_row_at (enc := enc) (C := Tryd.checked) false (doorW os) #[.agg #[.int .i64 0, .int .i64 0, .string ⟨#[]⟩, .string ⟨#[]⟩]] rfl (door_shape os _) (door_rest os _) (by kernel_rfl)
      (OpenSpec.preRow_of_cond 8 hx (by kernel_rfl) (fun k hk => by cases hk) (by kernel_rfl) (door_met os _))) ?_
  intro W base args ds gs before hval hW _ _ _ hL _ _
  exact contract H enc W base args ds gs before hval hW hL
theorem said : Rows.FnExactIsClueSaid :=
  OpenClaim.holds_of_cond 4 Tryd.f4 rfl rfl rfl rfl rfl rfl rfl ⟨rfl, rfl, rfl, rfl, rfl⟩ rfl rfl rfl rfl rfl (by kernel_rfl) Tryd.func4 (by kernel_rfl)
    (of_decide_eq_true (by kernel_rfl)) (by unfold Func.isWrapper; first | (rw [if_pos (by decide +kernel)]; kernel_rfl) | (rw [if_neg (by decide +kernel)]; exact ⟨rfl, rfl⟩))
    (fun os started H enc _ F => by rw [OpenClaim.pre_eq_preRow]; exact lifted os started H enc F)
theorem plain (f : FuncId) (fn : Func) (hf : Tryd.pinned.checked.prog.funcNamed Rows.fnExactIsClueRow.func = some f) (hfn : Tryd.pinned.checked.prog.funcs[f]? = some fn) :
    false = Tryd.pinned.checked.prog.looks [] ∧ ∀ (j : Nat) t, fn.params[j]? = some t → Tryd.pinned.checked.prog.wantsStandIn t = false := by
  obtain rfl : f = 4 := Option.some.inj ((show Tryd.prog.funcNamed Rows.fnExactIsClueRow.func = some 4 by kernel_rfl).symm.trans hf) |>.symm
  obtain rfl : fn = Tryd.f4 := (Option.some.inj (Tryd.func4.symm.trans hfn)).symm
  refine ⟨by kernel_rfl, fun j t ht => ?_⟩
  rw [Tryd.params4] at ht
  obtain rfl : t = 26 := by simpa using Array.mem_of_getElem? ht
  exact (show Tryd.prog.wantsStandIn 26 = false by kernel_rfl)
theorem proved : Rows.FnExactIsClueCardSaid :=
  Claim7.holds_tied_plain_at .later [] _ _ _ _ said (fun _ h => by cases h) (by kernel_rfl) (fun _ h => by cases h) fnExactIsClue_row_tie rfl ⟨rfl, rfl⟩ (by kernel_rfl) rfl plain (by kernel_rfl)
#print axioms proved
end Go.Proofs.YtnhkejbgcjebmaaDoor.lawFnExactIsClue
