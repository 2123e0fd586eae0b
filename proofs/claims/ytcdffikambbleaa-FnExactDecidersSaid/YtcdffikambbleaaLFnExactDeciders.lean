/- The law FnExactDeciders returns true, whatever its arguments, and leaves them as they were. No condition. -/
import Derived.Test.YtcdffikambbleaaRevV
import Derived.Test.YtcdffikambbleaaRevX
namespace Go.Proofs.Ytcdffikambbleaa.lawFnExactDeciders
open Go.ChangeShapes Go.WideShapes Go.ChangeAt Go.RowKit Go.Deep Go.Joins
open Go.ChangeMaps (open_string shut_string)
set_option linter.unusedVariables false
set_option linter.unusedSimpArgs false
theorem eqRs_refl (n : Nat) (R : Nat → Rv) : eqRs n n R R = true := by
  unfold eqRs
  simp only [decide_true, Bool.true_and]
  refine allB_iff.2 fun j _ => ?_
  unfold Rv.eqB eqI
  simp only [beq_self_eq_true, decide_true, Bool.true_and]
  exact allB_iff.2 fun _ _ => rfl
theorem C_eqReviewS_same (v v' : Value) (n : Nat) (R : Nat → Rv) (w : World) (h : RRs w v n R) (h' : RRs w v' n R) :
    Calls Try.prog 25 #[v, v'] w fun e w' => e = .returned (.bool true) ∧ Below w.heap.size w w' :=
  (C_eqReviewS v v' n n R R w h h').mono fun e w' hh => ⟨hh.1.trans (by rw [eqRs_refl]), hh.2⟩
theorem C_eqIntS_same (v v' : Value) (n : Nat) (f : Nat → Int) (w : World) (h : SI w v n f) (h' : SI w v' n f) :
    Calls Try.prog 37 #[v, v'] w fun e w' => e = .returned (.bool true) ∧ Below w.heap.size w w' :=
  (C_eqIntS v v' n n f f w h h').mono fun e w' hh => ⟨hh.1.trans (by rw [show eqI n n f f = true by unfold eqI; simp only [beq_self_eq_true, decide_true, Bool.true_and]; exact allB_iff.2 fun _ _ => rfl]), hh.2⟩
theorem C_eqRes (v v' : Value) (b b' n : Nat) (R : Nat → List Int) (w : World) (h : OSS b w v n R) (h' : OSS b' w v' n R) :
    Calls Try.prog 48 #[v, v'] w fun e w' => e = .returned (.bool true) ∧ Below w.heap.size w w' := C_eqIntSS _ _ _ _ _ h.ssi h'.ssi
theorem inR_two (x : Rv) (i : Nat) : ∀ r ∈ inR x i, r.length = 2 := by
  induction i with
  | zero => intro r hr; cases hr
  | succ i ih =>
    intro r hr
    simp only [inR, List.mem_append] at hr
    rcases hr with h | h
    · exact ih r h
    · split at h
      · simp only [List.mem_singleton] at h; subst h; rfl
      · cases h
theorem outR_mem (R : Nat → Rv) (k : Nat) : ∀ r ∈ outR R k, r.length = 2 := by
  induction k with
  | zero => intro r hr; cases hr
  | succ k ih =>
    intro r hr
    simp only [outR, List.mem_append] at hr
    rcases hr with h | h
    · exact ih r h
    · exact inR_two _ _ r h
theorem outR_two (R : Nat → Rv) (k j : Nat) : (at_ (outR R k) j).length ≤ 2 := by
  unfold at_
  rw [List.getD_eq_getElem?_getD]
  rcases h : (outR R k)[j]? with _ | r
  · simp
  · exact Nat.le_of_eq (outR_mem R k r (List.mem_of_getElem? h))
set_option maxHeartbeats 2000000 in
theorem walk (v : Value) (x : Nat × (Nat → Rv)) (w : World) (h : RRs w v x.1 x.2) :
    Calls Try.prog 11 #[v] w fun e w' => e = .returned (.bool true) ∧ Below w.heap.size w w' := by
  obtain ⟨n, R⟩ := x
  simp only at h
  by_cases hbig : szRs 1048576 n R < 0
  · go_enter Try.func11, Try.ntmps11
    go_wp2_with (first | (go_at_call 21; refine (C_szReviewS _ _ _ _ _ (by first | assumption | (refine SI.below ?_ (by assumption); (repeat (first | with_reducible exact Below.refl _ _ | with_reducible exact below_regrown _ _ _ | with_reducible refine bel_step0 (by assumption) ?_ | with_reducible refine bel_alloc0 ?_ _ | with_reducible refine bel_regrown0 ?_ _ _ | with_reducible refine bel_regrown ?_ (by first | omega | (simp; done) | (simp; omega)) _ _ | with_reducible refine below_drewN ?_ _ | with_reducible refine Below.drew ?_ | with_reducible refine Below.alloc ?_ (by first | omega | (simp; done) | (simp; omega)) _ | with_reducible refine Below.setCell ?_ (by first | omega | (simp; done) | (simp; omega)) _ | with_reducible refine bel_step (by assumption) (by first | omega | (simp; done) | (simp; omega)) ?_ | with_reducible refine bel_grown (by assumption) (by first | omega | (simp; done) | (simp; omega)) (by first | omega | (simp; done) | (simp; omega)) ?_)); done) | (refine RR.below ?_ (by assumption); (repeat (first | with_reducible exact Below.refl _ _ | with_reducible exact below_regrown _ _ _ | with_reducible refine bel_step0 (by assumption) ?_ | with_reducible refine bel_alloc0 ?_ _ | with_reducible refine bel_regrown0 ?_ _ _ | with_reducible refine bel_regrown ?_ (by first | omega | (simp; done) | (simp; omega)) _ _ | with_reducible refine below_drewN ?_ _ | with_reducible refine Below.drew ?_ | with_reducible refine Below.alloc ?_ (by first | omega | (simp; done) | (simp; omega)) _ | with_reducible refine Below.setCell ?_ (by first | omega | (simp; done) | (simp; omega)) _ | with_reducible refine bel_step (by assumption) (by first | omega | (simp; done) | (simp; omega)) ?_ | with_reducible refine bel_grown (by assumption) (by first | omega | (simp; done) | (simp; omega)) (by first | omega | (simp; done) | (simp; omega)) ?_)); done) | (refine RRs.below ?_ (by assumption); (repeat (first | with_reducible exact Below.refl _ _ | with_reducible exact below_regrown _ _ _ | with_reducible refine bel_step0 (by assumption) ?_ | with_reducible refine bel_alloc0 ?_ _ | with_reducible refine bel_regrown0 ?_ _ _ | with_reducible refine bel_regrown ?_ (by first | omega | (simp; done) | (simp; omega)) _ _ | with_reducible refine below_drewN ?_ _ | with_reducible refine Below.drew ?_ | with_reducible refine Below.alloc ?_ (by first | omega | (simp; done) | (simp; omega)) _ | with_reducible refine Below.setCell ?_ (by first | omega | (simp; done) | (simp; omega)) _ | with_reducible refine bel_step (by assumption) (by first | omega | (simp; done) | (simp; omega)) ?_ | with_reducible refine bel_grown (by assumption) (by first | omega | (simp; done) | (simp; omega)) (by first | omega | (simp; done) | (simp; omega)) ?_)); done) | (refine RA.below ?_ (by assumption); (repeat (first | with_reducible exact Below.refl _ _ | with_reducible exact below_regrown _ _ _ | with_reducible refine bel_step0 (by assumption) ?_ | with_reducible refine bel_alloc0 ?_ _ | with_reducible refine bel_regrown0 ?_ _ _ | with_reducible refine bel_regrown ?_ (by first | omega | (simp; done) | (simp; omega)) _ _ | with_reducible refine below_drewN ?_ _ | with_reducible refine Below.drew ?_ | with_reducible refine Below.alloc ?_ (by first | omega | (simp; done) | (simp; omega)) _ | with_reducible refine Below.setCell ?_ (by first | omega | (simp; done) | (simp; omega)) _ | with_reducible refine bel_step (by assumption) (by first | omega | (simp; done) | (simp; omega)) ?_ | with_reducible refine bel_grown (by assumption) (by first | omega | (simp; done) | (simp; omega)) (by first | omega | (simp; done) | (simp; omega)) ?_)); done)) (by omega) (by omega)).mono ?_; rintro e w' ⟨rfl, hb'⟩))
    go_ret
    exact ⟨rfl, by (repeat (first | with_reducible exact Below.refl _ _ | with_reducible exact below_regrown _ _ _ | with_reducible refine bel_step0 (by assumption) ?_ | with_reducible refine bel_alloc0 ?_ _ | with_reducible refine bel_regrown0 ?_ _ _ | with_reducible refine bel_regrown ?_ (by first | omega | (simp; done) | (simp; omega)) _ _ | with_reducible refine below_drewN ?_ _ | with_reducible refine Below.drew ?_ | with_reducible refine Below.alloc ?_ (by first | omega | (simp; done) | (simp; omega)) _ | with_reducible refine Below.setCell ?_ (by first | omega | (simp; done) | (simp; omega)) _ | with_reducible refine bel_step (by assumption) (by first | omega | (simp; done) | (simp; omega)) ?_ | with_reducible refine bel_grown (by assumption) (by first | omega | (simp; done) | (simp; omega)) (by first | omega | (simp; done) | (simp; omega)) ?_))⟩
  have hbig0 : 0 ≤ szRs 1048576 n R := by omega
  obtain ⟨hn, hsm⟩ := szRs_small hbig0
  have HSM := Lib.hid hsm; clear hsm hbig
  obtain ⟨bo, hbo⟩ : ∃ b, okRs n R = b := ⟨_, rfl⟩
  obtain ⟨m, hm⟩ : ∃ m, (if okRs n R then (outR R n).length else 0) = m := ⟨_, rfl⟩
  have hmn : m ≤ 1048576 := by
    rw [← hm]
    split
    · rename_i hk
      have := outR_le (okRs_votes hk) n (Nat.le_refl _)
      have := okRs_le hk
      omega
    · omega
  have hml : ∀ j, j < m → (at_ (outR R n) j).length ≤ 1048576 := fun j _ => by
    have := outR_two R n j
    omega
  have CS : ∀ V W, RRs W V n R → Calls Try.prog 46 #[V] W fun e w' => ∃ v', e = .returned (.tuple #[v', .bool bo]) ∧ OSS W.heap.size w' v' m (at_ (outR R n)) ∧ Below W.heap.size W w' := by
    intro V W hV
    have := C_DecidersS V n R W hV
    rw [hm, hbo] at this
    exact this
  have CI : ∀ V W, RRs W V n R → Calls Try.prog 47 #[V] W fun e w' => ∃ v', e = .returned (.tuple #[v', .bool bo]) ∧ OSS W.heap.size w' v' m (at_ (outR R n)) ∧ Below W.heap.size W w' := by
    intro V W hV
    have := C_DecidersI V n R W hV
    rw [hm, hbo] at this
    exact this
  obtain ⟨T, hT⟩ : ∃ T, at_ (outR R n) = T := ⟨_, rfl⟩
  rw [hT] at CS CI hml
  have HML := Lib.hid hml
  have HC := Lib.hid (And.intro CS CI)
  clear hm hbo CS CI hml hT
  have hmk := ms_le HML.out m (Nat.le_refl _)
  obtain ⟨hmk0, hmk1⟩ := hmk
  go_enter Try.func11, Try.ntmps11
  go_wp2_with fail
  refine (C_szReviewS _ _ _ _ _ h (by omega) (by omega)).mono ?_; rintro e w1 ⟨rfl, hb1⟩
  have B1 : Below w.heap.size w w1 := hb1
  go_wp2_with fail
  refine (C_toReviewS _ _ _ _ (h.below B1) hn HSM.out).mono ?_; rintro e w2 ⟨v2, rfl, hv2, hb2⟩
  have B2 := bel_step0 hb2 B1
  go_wp2_with fail
  refine (HC.out.1 _ _ hv2.rrs).mono ?_; rintro e w3 ⟨v3, rfl, o3, hb3⟩
  have B3 := bel_step0 hb3 B2
  go_wp2_with fail
  refine (C_toReviewS _ _ _ _ (h.below B3) hn HSM.out).mono ?_; rintro e w4 ⟨v4, rfl, hv4, hb4⟩
  have B4 := bel_step0 hb4 B3
  go_wp2_with fail
  refine (HC.out.2 _ _ hv4.rrs).mono ?_; rintro e w5 ⟨v5, rfl, t5, hb5⟩
  have B5 := bel_step0 hb5 B4
  have F5 := bel_step0 hb5 hb4
  have x5 := hv4.below hb5
  go_wp2_with fail
  refine (C_eqRes _ _ _ _ _ _ _ t5 (o3.below F5)).mono ?_; rintro e w6 ⟨rfl, hb6⟩
  have B6 := bel_step0 hb6 B5
  have F6 := bel_step0 hb6 F5
  have t6 := t5.below hb6
  have x6 := x5.below hb6
  go_wp2_with fail
  refine (C_toReviewS _ _ _ _ (h.below B6) hn HSM.out).mono ?_; rintro e w7 ⟨v7, rfl, hv7, hb7⟩
  have B7 := bel_step0 hb7 B6
  have F7 := bel_step0 hb7 F6
  have t7 := t6.below hb7
  have x7 := x6.below hb7
  go_wp2_with fail
  refine (C_eqReviewS_same _ _ _ _ _ x7.rrs hv7.rrs).mono ?_; rintro e w8 ⟨rfl, hb8⟩
  have B8 := bel_step0 hb8 B7
  have F8 := bel_step0 hb8 F7
  have t8 := t7.below hb8
  have x8 := x7.below hb8
  go_wp2_with fail
  refine (C_markReviewS _ _ _ _ _ _ x8).mono ?_; rintro e w9 ⟨k9, rfl, hk9, hc9⟩
  have B9 := bel_chg hc9 B3.size B8
  have F9 := bel_chg hc9 (Nat.le_refl _) F8
  have t9 := t8.chg hc9 (Nat.le_refl _)
  go_wp2_with fail
  refine (C_eqRes _ _ _ _ _ _ _ t9 (o3.below F9)).mono ?_; rintro e w10 ⟨rfl, hb10⟩
  have B10 := bel_step0 hb10 B9
  have F10 := bel_step0 hb10 F9
  have t10 := t9.below hb10
  go_wp2_with fail
  refine (C_markIntSS _ _ _ _ _ t10 hmn HML.out (by have := hb5.size; have := hb6.size; have := hb7.size; have := hb8.size; have := hc9.size; have := hb10.size; omega)).mono ?_; rintro e w11 ⟨rfl, t11, hb11⟩
  have B11 := B10.trans (hb11.mono B4.size)
  have F11 := F10.trans (hb11.mono hb4.size)
  go_wp2_with fail
  refine (C_heldIntSS _ _ _ _ t11 hmn HML.out).mono ?_; rintro e w11' ⟨rfl, rfl⟩
  go_wp2_with fail
  refine (C_toReviewS _ _ _ _ (h.below B11) hn HSM.out).mono ?_; rintro e w12 ⟨v12, rfl, hv12, hb12⟩
  have B12 := bel_step0 hb12 B11
  have F12 := bel_step0 hb12 F11
  have t12 := t11.below hb12
  go_wp2_with fail
  refine (HC.out.2 _ _ hv12.rrs).mono ?_; rintro e w13 ⟨v13, rfl, o13, hb13⟩
  have B13 := bel_step0 hb13 B12
  have F13 := bel_step0 hb13 F12
  have t13 := t12.below hb13
  go_wp2_with fail
  refine (C_eqRes _ _ _ _ _ _ _ o13 (o3.below F13)).mono ?_; rintro e w14 ⟨rfl, hb14⟩
  have B14 := bel_step0 hb14 B13
  have t14 := t13.below hb14
  go_wp2_with fail
  refine (C_heldIntSS _ _ _ _ t14 hmn HML.out).mono ?_; rintro e w14' ⟨rfl, rfl⟩
  go_wp2_with fail
  go_ret
  exact ⟨rfl, B14⟩

set_option maxRecDepth 100000 in
theorem lifted (os : Os) (started : os.Started) (H : Type) (enc : TypeId × Value → H) :
    ReturnsInHanded {} Try.checked os 11 .any (Rows.fnExactDecidersSpec.pre6 enc Try.prog Try.f11 Rows.fnExactDecidersRow.domain false) (Rows.fnExactDecidersSpec.post enc Try.prog Try.f11 false true false false) := by
  refine returnsInHanded_of_change (C := Try.checked) own started (by kernel_rfl) Try.func11
    (ChangeSpec.witness6 (enc := enc) (C := Try.checked) false ⟨#[], #[.slice none 0 0], []⟩ 8 (by kernel_rfl) (by kernel_rfl) (by kernel_rfl) (by kernel_rfl)) ?_
  intro W base args ds gs before hval0 hW hcnd _
  have hval : ∀ (j : Nat) t v, Try.f11.params[j]? = some t → args[j]? = some v → Value.okWide Try.prog W .any base t v := hval0
  have hW' := hW
  obtain ⟨p, q, hA0, hV, rfl, hfz, hnd⟩ := hW
  have hA : DataW.TrodAll enc Try.prog W 0 (fun _ => true) true Try.f11.params.toList args.toList ds p := hA0
  rw [Try.params11] at hA hval
  obtain ⟨v0, vs0, d0, ds0, p0, q0, hargs, rfl, rfl, h0, r0⟩ := trodAll_cons hA
  obtain ⟨rfl, rfl, rfl⟩ := trodAll_nil r0
  obtain rfl : args = #[v0] := by cases args; simp_all
  obtain ⟨rfl, rfl⟩ := trodVars_none hV
  have k0 := h0
  have lt0 : ∀ x ∈ p0, x.block < W.heap.size := by obtain ⟨m, hm⟩ := k0; exact DataW.trod_lt m _ _ _ hm
  obtain ⟨n0, b0⟩ := view_SlawsReview (hval 0 31 v0 rfl rfl) h0
  clear hA0 hval0
  refine (walk v0 n0 W b0).mono fun e W' ⟨he, bel⟩ => ?_
  subst he
  exact ⟨_, rfl, _, _, _, [], _, [], hW', trodAll_mk1 (shut_bool Try.underlying4 _), (trodAll_cons_mk (Below.trod laidOut (by kernel_rfl) (of_decide_eq_true (by kernel_rfl)) k0 bel lt0) trodAll_mk0), rfl, bel.frame _, fun h => by cases h⟩

theorem proved : Rows.FnExactDecidersSaid :=
  OpenClaim.holds_of_wide 11 Try.f11 rfl rfl rfl rfl rfl rfl rfl ⟨rfl, rfl, rfl, rfl, rfl⟩ rfl rfl rfl rfl rfl (by kernel_rfl) Try.func11 (by kernel_rfl)
    (of_decide_eq_true (by kernel_rfl)) (by unfold Func.isWrapper; first | (rw [if_pos (by decide +kernel)]; kernel_rfl) | (rw [if_neg (by decide +kernel)]; exact ⟨rfl, rfl⟩))
    (fun os started H enc _ => lifted os started H enc)
#print axioms proved


end Go.Proofs.Ytcdffikambbleaa.lawFnExactDeciders
