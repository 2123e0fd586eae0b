/- The law FnExactNewLife returns true, whatever its arguments, and leaves them as they were. No condition. -/
import Derived.Test.YtpkgfpgccfnkpaaLifeC
import Derived.Test.YtpkgfpgccfnkpaaOpen
namespace Go.Proofs.Ytpkgfpgccfnkpaa.lawFnExactNewLife
open Go.ChangeShapes Go.WideShapes Go.ChangeAt Go.RowKit Go.Deep Go.Joins
open Go.ChangeMaps (open_string shut_string)
set_option linter.unusedVariables false
set_option maxHeartbeats 1000000 in
theorem walk (act period : Int) (w : World) (_ : I64 act) (_ : I64 period) :
    Calls Try.prog 5 #[.int .i64 act, .int .i64 period] w fun e w' => e = .returned (.bool true) ∧ Below w.heap.size w w' := by
  go_enter Try.func5, Try.ntmps5
  go_wp2_with (first | (go_at_call 16; refine (C_NewLifeS _ _ _).mono ?_; rintro e w' ⟨rfl, hb'⟩; obtain ⟨hc', hf'⟩ := bcell hb'; have hz' := bsize hb'; (try simp at hz'); have ht' := (by first | exact lt_le3 hz' | exact lt_le2 hz' | exact lt_le1 hz' | exact lt_le0 hz' : ∀ n, n < _ → n < w'.heap.size); (try have hs1 := Nat.lt_of_succ_le hz'); (try have hs2 := Nat.lt_of_succ_lt hs1); (try have hs3 := Nat.lt_of_succ_lt hs2)) | (go_at_call 17; refine (C_NewLifeI _ _ _).mono ?_; rintro e w' ⟨rfl, hb'⟩; obtain ⟨hc', hf'⟩ := bcell hb'; have hz' := bsize hb'; (try simp at hz'); have ht' := (by first | exact lt_le3 hz' | exact lt_le2 hz' | exact lt_le1 hz' | exact lt_le0 hz' : ∀ n, n < _ → n < w'.heap.size); (try have hs1 := Nat.lt_of_succ_le hz'); (try have hs2 := Nat.lt_of_succ_lt hs1); (try have hs3 := Nat.lt_of_succ_lt hs2)) | (go_at_call 18; refine (C_eqLife _ _ _ _ _ _ _ _ _ _ _ _ _).mono ?_; rintro e w' ⟨rfl, hb'⟩; obtain ⟨hc', hf'⟩ := bcell hb'; have hz' := bsize hb'; (try simp at hz'); have ht' := (by first | exact lt_le3 hz' | exact lt_le2 hz' | exact lt_le1 hz' | exact lt_le0 hz' : ∀ n, n < _ → n < w'.heap.size); (try have hs1 := Nat.lt_of_succ_le hz'); (try have hs2 := Nat.lt_of_succ_lt hs1); (try have hs3 := Nat.lt_of_succ_lt hs2)))
  all_goals go_returns
  all_goals refine ⟨?_, ?_⟩
  all_goals go_light
  all_goals first | ((repeat (first | with_reducible exact Below.refl _ _ | with_reducible refine below_drewN ?_ _ | with_reducible refine Below.drew ?_ | with_reducible refine Below.alloc ?_ (by first | omega | (simp; done) | (simp; omega)) _ | with_reducible refine Below.setCell ?_ (by first | omega | (simp; done) | (simp; omega)) _ | with_reducible refine bel_step (by assumption) (by first | omega | (simp; done) | (simp; omega)) ?_)); done) | (skip; (try unfold Lf.eq at *); simp_all; done) | (skip; (try unfold Lf.eq at *); simp_all; omega) | (skip; (try unfold Lf.eq at *); simp_all; (repeat' split) <;> first | rfl | omega | (simp_all; done) | (simp_all; omega))

set_option maxRecDepth 100000 in
theorem lifted (os : Os) (started : os.Started) (H : Type) (enc : TypeId × Value → H) :
    ReturnsInHanded {} Try.checked os 5 .any (Rows.fnExactNewLifeSpec.pre6 enc Try.prog Try.f5 Rows.fnExactNewLifeRow.domain false) (Rows.fnExactNewLifeSpec.post enc Try.prog Try.f5 false true false false) := by
  refine returnsInHanded_of_change (C := Try.checked) own started (by kernel_rfl) Try.func5
    (ChangeSpec.witness6 (enc := enc) (C := Try.checked) false ⟨#[], #[.int .i64 0, .int .i64 0], []⟩ 8 (by kernel_rfl) (by kernel_rfl) (by kernel_rfl) (by kernel_rfl)) ?_
  intro W base args ds gs before hval0 hW hcnd _
  have hval : ∀ (j : Nat) t v, Try.f5.params[j]? = some t → args[j]? = some v → Value.okWide Try.prog W .any base t v := hval0
  have hW' := hW
  obtain ⟨p, q, hA0, hV, rfl, hfz, hnd⟩ := hW
  have hA : DataW.TrodAll enc Try.prog W 0 (fun _ => true) true Try.f5.params.toList args.toList ds p := hA0
  rw [Try.params5] at hA hval
  obtain ⟨v0, vs0, d0, ds0, p0, q0, hargs, rfl, rfl, h0, r0⟩ := trodAll_cons hA
  obtain ⟨v1, vs1, d1, ds1, p1, q1, rfl, rfl, rfl, h1, r1⟩ := trodAll_cons r0
  obtain ⟨rfl, rfl, rfl⟩ := trodAll_nil r1
  obtain rfl : args = #[v0, v1] := by cases args; simp_all
  obtain ⟨rfl, rfl⟩ := trodVars_none hV
  have k0 := h0
  have lt0 : ∀ x ∈ p0, x.block < W.heap.size := by obtain ⟨m, hm⟩ := k0; exact DataW.trod_lt m _ _ _ hm
  have k1 := h1
  have lt1 : ∀ x ∈ p1, x.block < W.heap.size := by obtain ⟨m, hm⟩ := k1; exact DataW.trod_lt m _ _ _ hm
  obtain ⟨n0, rfl, _, _, b0⟩ := open_int Try.underlying3 (hval 0 3 v0 rfl rfl) h0
  obtain ⟨n1, rfl, _, _, b1⟩ := open_int Try.underlying3 (hval 1 3 v1 rfl rfl) h1
  clear hA0 hval0
  refine (walk n0 n1 W (i64_of_wf b0) (i64_of_wf b1)).mono fun e W' ⟨he, bel⟩ => ?_
  subst he
  exact ⟨_, rfl, _, _, _, [], _, [], hW', trodAll_mk1 (shut_bool Try.underlying4 _), (trodAll_cons_mk (Below.trod laidOut (by kernel_rfl) (of_decide_eq_true (by kernel_rfl)) k0 bel lt0) (trodAll_cons_mk (Below.trod laidOut (by kernel_rfl) (of_decide_eq_true (by kernel_rfl)) k1 bel lt1) trodAll_mk0)), rfl, bel.frame _, fun h => by cases h⟩

theorem proved : Rows.FnExactNewLifeSaid :=
  OpenClaim.holds_of_wide 5 Try.f5 rfl rfl rfl rfl rfl rfl rfl ⟨rfl, rfl, rfl, rfl, rfl⟩ rfl rfl rfl rfl rfl (by kernel_rfl) Try.func5 (by kernel_rfl)
    (of_decide_eq_true (by kernel_rfl)) (by unfold Func.isWrapper; first | (rw [if_pos (by decide +kernel)]; kernel_rfl) | (rw [if_neg (by decide +kernel)]; exact ⟨rfl, rfl⟩))
    (fun os started H enc _ => lifted os started H enc)
#print axioms proved
end Go.Proofs.Ytpkgfpgccfnkpaa.lawFnExactNewLife
