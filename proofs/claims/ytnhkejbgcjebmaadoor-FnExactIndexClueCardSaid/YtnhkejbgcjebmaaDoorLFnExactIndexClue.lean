/- The law FnExactIndexClue returns true, whatever its arguments, and leaves them as they were. No condition beyond the row's own. -/
import Derived.Test.YtnhkejbgcjebmaaDoorClueF
import Derived.Test.YtnhkejbgcjebmaaDoorDoorW
import Derived.Test.YtnhkejbgcjebmaaDoorCards
import Derived.Test.YtnhkejbgcjebmaaDoorTie
import Derived.Test.YtnhkejbgcjebmaaDoorOpen
import Derived.Deep.DeepHandedRow
import Derived.LaidMore
import Derived.Deep.DeepLaidRun
import Derived.PinnedBridge
import Derived.OpenShut
import Derived.ChangeMaps5
namespace Go.Proofs.YtnhkejbgcjebmaaDoor.lawFnExactIndexClue
open Go.ChangeShapes Go.WideShapes Go.ChangeAt Go.RowKit Go.Deep Go.Joins
open Go.ChangeMaps (open_string shut_string)
set_option linter.unusedVariables false
theorem walk (v : Value) (y : Nat × (Nat → ByteArray)) (x : ByteArray) (w : World) (h : TI w v y.1 y.2 ∧ ∀ j, j < y.1 → (y.2 j).size ≤ 9223372036854775807) (hx : x.size ≤ maxLen) :
    Calls Tryd.prog 7 #[v, .string x] w fun e w' => e = .returned (.bool true) ∧ Below w.heap.size w w' := by
  unfold maxLen at hx
  obtain ⟨n, f⟩ := y
  obtain ⟨h, hs⟩ := h
  simp only at h hs
  have HS := Lib.hid hs; clear hs
  by_cases hbx : x.size ≤ 1048576
  case neg =>
    go_enter Tryd.func7, Tryd.ntmps7
    go_wp2_with fail
    go_ret
    exact ⟨rfl, Below.refl _ _⟩
  by_cases hbig : szT 1048576 n f < 0
  · go_enter Tryd.func7, Tryd.ntmps7
    go_wp2_with (go_at_call 24; refine (C_szStringS _ _ _ _ _ h HS.out (by omega) (by omega)).mono ?_; rintro e w' ⟨rfl, rfl⟩)
    go_ret
    exact ⟨rfl, Below.refl _ _⟩
  have hbig0 : 0 ≤ szT 1048576 n f := by omega
  have hn : n ≤ 1048576 := by have := (szT_small hbig0).1; omega
  obtain ⟨z, hz⟩ : ∃ z, szT 1048576 n f = z := ⟨_, rfl⟩
  rw [hz] at hbig0
  obtain ⟨ok, hok⟩ : ∃ ok, (dictB n f && wordB x) = ok := ⟨_, rfl⟩
  obtain ⟨sa, hsa⟩ : ∃ sa, (if ok then aftM f x n else (⟨#[]⟩ : ByteArray)) = sa := ⟨_, rfl⟩
  obtain ⟨sb, hsb⟩ : ∃ sb, (if ok then befM f x n else (⟨#[]⟩ : ByteArray)) = sb := ⟨_, rfl⟩
  have CI := fun W v (hv : TI W v n f) => C_IndexClueI v n f x W hv HS.out hx
  have CS := fun W v (hv : TI W v n f) => C_IndexClueS v n f x W hv HS.out hx
  rw [hok, hsa, hsb] at CI CS
  have HC := Lib.hid (And.intro CI CS)
  have HZ := Lib.hid hz
  clear hz hok hsa hsb hbig CI CS
  go_enter Tryd.func7, Tryd.ntmps7
  go_wp2_with fail
  refine (C_szStringS _ _ _ _ _ h HS.out (by omega) (by omega)).mono ?_; rintro e w1 ⟨rfl, rfl⟩
  rw [HZ.out]
  go_wp2_with fail
  refine (C_toStringS _ _ _ _ h hn).mono ?_; rintro e w2 ⟨v2, rfl, hv2, B2⟩
  go_wp2_with fail
  refine (HC.out.2 _ _ hv2.ti).mono ?_; rintro e w3 ⟨rfl, hb3⟩
  have B3 := bel_step0 hb3 B2
  obtain ⟨w4, hw4⟩ : ∃ w4, w4 = w3.alloc (.cells #[.int .i64 0, .int .i64 0, .string sa, .string sb] 29) := ⟨_, rfl⟩
  have B4 : Below w.heap.size w w4 := by rw [hw4]; (repeat (first | with_reducible exact Below.refl _ _ | with_reducible exact below_regrown _ _ _ | with_reducible refine bel_step0 (by assumption) ?_ | with_reducible refine bel_alloc0 ?_ _ | with_reducible refine bel_regrown0 ?_ _ _ | with_reducible refine bel_regrown ?_ (by first | omega | (simp; done) | (simp; omega)) _ _ | with_reducible refine below_drewN ?_ _ | with_reducible refine Below.drew ?_ | with_reducible refine Below.alloc ?_ (by first | omega | (simp; done) | (simp; omega)) _ | with_reducible refine Below.setCell ?_ (by first | omega | (simp; done) | (simp; omega)) _ | with_reducible refine bel_step (by assumption) (by first | omega | (simp; done) | (simp; omega)) ?_ | with_reducible refine bel_grown (by assumption) (by first | omega | (simp; done) | (simp; omega)) (by first | omega | (simp; done) | (simp; omega)) ?_))
  have q4 : w4.rowIs w3.heap.size 29 4 (c4 0 0 sa sb) := by rw [hw4]; exact row4_alloc _ _ _ _ _ _
  have HW4 := Lib.hid hw4
  clear hw4
  go_wp2_with fail
  rw [← HW4.out]
  refine (C_toStringS _ _ _ _ (h.below B4) hn).mono ?_; rintro e w5 ⟨v5, rfl, hv5, hb5⟩
  have B5 := bel_step0 hb5 B4
  have q5 := q4.of_block (hb5.block _ q4.lt)
  go_wp2_with fail
  refine (HC.out.1 _ _ hv5.ti).mono ?_; rintro e w6 ⟨rfl, hb6⟩
  have B6 := bel_step0 hb6 B5
  have q6 := q5.of_block (hb6.block _ q5.lt)
  have x6 := hv5.below hb6
  have q7 : ∀ o, (w6.alloc o).rowIs w3.heap.size 29 4 (c4 0 0 sa sb) := fun o => q6.of_block (Below.heap_alloc _ _ _ q6.lt)
  have y0 := fun o => (q7 o).cell (i := 0) (by omega)
  have y1 := fun o => (q7 o).cell (i := 1) (by omega)
  have y2 := fun o => (q7 o).cell (i := 2) (by omega)
  have y3 := fun o => (q7 o).cell (i := 3) (by omega)
  simp only [c4, if_true, if_false, Nat.reduceEqDiff, reduceCtorEq] at y0 y1 y2 y3
  have hlt := q6.lt
  go_wp2_with fail
  clear y0 y1 y2 y3
  refine (C_eqClue _ _ _ _ _).mono ?_; rintro e w8 ⟨rfl, hb8⟩
  have hb68 : Below w6.heap.size w6 w8 := ((Below.refl _ _).alloc (Nat.le_refl _) _).trans (hb8.mono (by simp))
  have B8 := bel_step0 hb68 B6
  have x8 := x6.below hb68
  go_wp2_with fail
  refine (C_toStringS _ _ _ _ (h.below B8) hn).mono ?_; rintro e w9 ⟨v9, rfl, hv9, hb9⟩
  have B9 := bel_step0 hb9 B8
  have x9 := x8.below hb9
  go_wp2_with fail
  refine (C_eqStringS_same _ _ _ _ _ x9.ti hv9.ti).mono ?_; rintro e w10 ⟨rfl, hb10⟩
  have B10 := bel_step0 hb10 B9
  go_wp2_with fail
  go_ret
  exact ⟨rfl, B10⟩
set_option maxRecDepth 100000 in
theorem contract (H : Type) (enc : TypeId × Value → H) (W : World) (base : Nat) (args : Array Value) (ds gs : List (DataW H)) (before : List MemPlace)
    (hval0 : ∀ (j : Nat) t v, Tryd.f7.params[j]? = some t → args[j]? = some v → Value.okWide Tryd.prog W .any base t v)
    (hW : DataW.Whole enc Tryd.prog Tryd.f7.params.toList Rows.fnExactIndexClueSpec.vars false W args.toList ds gs before) (hL : laidMetH Tryd.prog Rows.fnExactIndexClueRow.laid W) :
    Calls Tryd.prog 7 args W fun e W' => ∃ v, e = .returned v ∧ Rows.fnExactIndexClueSpec.post enc Tryd.prog Tryd.f7 false true false false W args v W' := by
  have hval : ∀ (j : Nat) t v, Tryd.f7.params[j]? = some t → args[j]? = some v → Value.okWide Tryd.prog W .any base t v := hval0
  have hW' := hW
  obtain ⟨p, q, hA0, hV, rfl, hfz, hnd⟩ := hW
  have hA : DataW.TrodAll enc Tryd.prog W 0 (fun _ => true) true Tryd.f7.params.toList args.toList ds p := hA0
  rw [Tryd.params7] at hA hval
  obtain ⟨v0, vs0, d0, ds0, p0, q0, hargs, rfl, rfl, h0, r0⟩ := trodAll_cons hA
  obtain ⟨v1, vs1, d1, ds1, p1, q1, rfl, rfl, rfl, h1, r1⟩ := trodAll_cons r0
  obtain ⟨rfl, rfl, rfl⟩ := trodAll_nil r1
  obtain rfl : args = #[v0, v1] := by cases args; simp_all
  obtain ⟨rfl, rfl⟩ := trodVars_none hV
  have k0 := h0
  have lt0 : ∀ x ∈ p0, x.block < W.heap.size := by obtain ⟨m, hm⟩ := k0; exact DataW.trod_lt m _ _ _ hm
  have k1 := h1
  have lt1 : ∀ x ∈ p1, x.block < W.heap.size := by obtain ⟨m, hm⟩ := k1; exact DataW.trod_lt m _ _ _ hm
  obtain ⟨n0, b0⟩ := view_Sstring (hval 0 36 v0 rfl rfl) h0
  obtain ⟨n1, rfl, _, _, b1⟩ := open_string Tryd.underlying9 (hval 1 9 v1 rfl rfl) h1
  clear hA0 hval0
  refine (walk v0 n0 n1 W b0 b1).mono fun e W' ⟨he, bel⟩ => ?_
  subst he
  exact ⟨_, rfl, _, _, _, [], _, [], hW', trodAll_mk1 (shut_bool Tryd.underlying4 _), (trodAll_cons_mk (Below.trod laidOut (by kernel_rfl) (of_decide_eq_true (by kernel_rfl)) k0 bel lt0) (trodAll_cons_mk (Below.trod laidOut (by kernel_rfl) (of_decide_eq_true (by kernel_rfl)) k1 bel lt1) trodAll_mk0)), rfl, bel.frame _, fun h => by cases h⟩
theorem reads (os : Os) {H : Type} (enc : TypeId × Value → H) : ∃ places, DataW.whole enc Tryd.prog ((doorW os).forCall (fun _ _ => 0) ⟨#[], #[.slice none 0 0, .string ⟨#[]⟩], []⟩).memory Tryd.f7.params.toList Rows.fnExactIndexClueSpec.vars false #[.slice none 0 0, .string ⟨#[]⟩].toList 8 = some ([.nil, .lit (.string [])], [], places) :=
  ⟨[], by kernel_rfl⟩
set_option maxRecDepth 100000 in
theorem lifted (os : Os) (started : os.Started) (H : Type) (enc : TypeId × Value → H) (F : Stop.Interp) :
    ReturnsInHanded {} Tryd.checked os 7 .any ((OpenSpec.ofChange Rows.fnExactIndexClueSpec).preRow enc Tryd.prog Tryd.f7 Rows.fnExactIndexClueRow.domain false Rows.fnExactIndexClueRow.laid) (((OpenSpec.ofChange Rows.fnExactIndexClueSpec).at F).post enc Tryd.prog Tryd.f7 false true false false) := by
  obtain ⟨places, hx⟩ := reads os enc
  refine returnsInHanded_of_row (C := Tryd.checked) (s := OpenSpec.ofChange Rows.fnExactIndexClueSpec) own started (by kernel_rfl) Tryd.func7
    (witness_row_at (enc := enc) (C := Tryd.checked) false (doorW os) #[.slice none 0 0, .string ⟨#[]⟩] rfl (door_shape os _) (door_rest os _) (by kernel_rfl)
      (OpenSpec.preRow_of_cond 8 hx (by kernel_rfl) (fun k hk => by cases hk) (by kernel_rfl) (door_met os _))) ?_
  intro W base args ds gs before hval hW _ _ _ hL _ _
  exact contract H enc W base args ds gs before hval hW hL
theorem said : Rows.FnExactIndexClueSaid :=
  OpenClaim.holds_of_cond 7 Tryd.f7 rfl rfl rfl rfl rfl rfl rfl ⟨rfl, rfl, rfl, rfl, rfl⟩ rfl rfl rfl rfl rfl (by kernel_rfl) Tryd.func7 (by kernel_rfl)
    (of_decide_eq_true (by kernel_rfl)) (by unfold Func.isWrapper; first | (rw [if_pos (by decide +kernel)]; kernel_rfl) | (rw [if_neg (by decide +kernel)]; exact ⟨rfl, rfl⟩))
    (fun os started H enc _ F => by rw [OpenClaim.pre_eq_preRow]; exact lifted os started H enc F)
theorem plain (f : FuncId) (fn : Func) (hf : Tryd.pinned.checked.prog.funcNamed Rows.fnExactIndexClueRow.func = some f) (hfn : Tryd.pinned.checked.prog.funcs[f]? = some fn) :
    false = Tryd.pinned.checked.prog.looks [] ∧ ∀ (j : Nat) t, fn.params[j]? = some t → Tryd.pinned.checked.prog.wantsStandIn t = false := by
  obtain rfl : f = 7 := Option.some.inj ((show Tryd.prog.funcNamed Rows.fnExactIndexClueRow.func = some 7 by kernel_rfl).symm.trans hf) |>.symm
  obtain rfl : fn = Tryd.f7 := (Option.some.inj (Tryd.func7.symm.trans hfn)).symm
  refine ⟨by kernel_rfl, fun j t ht => ?_⟩
  rw [Tryd.params7] at ht
  have hm : t = 36 ∨ t = 9 := by have := Array.mem_of_getElem? ht; simp at this; omega
  rcases hm with rfl | rfl
  · exact (show Tryd.prog.wantsStandIn 36 = false by kernel_rfl)
  · exact (show Tryd.prog.wantsStandIn 9 = false by kernel_rfl)
theorem proved : Rows.FnExactIndexClueCardSaid :=
  Claim7.holds_tied_plain_at .later [] _ _ _ _ said (fun _ h => by cases h) (by kernel_rfl) (fun _ h => by cases h) fnExactIndexClue_row_tie rfl ⟨rfl, rfl⟩ (by kernel_rfl) rfl plain (by kernel_rfl)
#print axioms proved
end Go.Proofs.YtnhkejbgcjebmaaDoor.lawFnExactIndexClue
