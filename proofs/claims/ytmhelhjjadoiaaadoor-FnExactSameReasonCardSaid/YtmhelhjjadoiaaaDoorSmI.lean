/- Both sides of SameReason. No condition but those stated. -/
import Derived.Test.YtmhelhjjadoiaaaDoorSmH
namespace Go.Proofs.YtmhelhjjadoiaaaDoor
set_option linter.unusedVariables false
set_option linter.unusedSimpArgs false
open Go.RowKit Go.Sort Go.WideMaps Go.Maps
/-- Texts and numbers in two blocks of the call's own. -/
def TN (base : Nat) (w : World) (v1 v2 : Value) (n : Nat) (F : Nat → ByteArray) (G : Nat → Int) : Prop :=
  ∃ lo1 hi1 lo2 hi2, WT lo1 hi1 w v1 n F ∧ WI lo2 hi2 w v2 n G ∧ base ≤ lo1 ∧ base ≤ lo2 ∧ (hi1 ≤ lo2 ∨ hi2 ≤ lo1)
theorem TN.of {base : Nat} {w : World} {v1 v2 : Value} {xs : List ByteArray} {ys : List Int} (h1 : OT base w v1 xs) (h2 : OI base w v2 ys) (hl : ys.length = xs.length) : TN base w v1 v2 xs.length (atT xs) (ai ys) := by
  have hh1 := h1
  have hh2 := h2
  obtain ⟨A1, c1, e1, r1, s1⟩ := h1.wt
  obtain ⟨A2, c2, e2, r2, s2⟩ := h2.wi
  rw [hl] at e2 r2 s2
  rcases hh1.2 with ⟨f1, z1⟩ | ⟨g1, cap1, cur1, f1, b1, q1, _⟩
  · rcases hh2.2 with ⟨f2, z2⟩ | ⟨g2, cap2, cur2, f2, b2, q2, _⟩
    · exact ⟨base, base, base, base, ⟨A1, c1, e1, fun h0 => absurd h0 (by omega), s1⟩, ⟨A2, c2, e2, fun h0 => absurd h0 (by omega), s2⟩, Nat.le_refl _, Nat.le_refl _, .inl (Nat.le_refl _)⟩
    · exact ⟨base, base, base, w.heap.size, ⟨A1, c1, e1, fun h0 => absurd h0 (by omega), s1⟩, ⟨A2, c2, e2, r2, s2⟩, Nat.le_refl _, Nat.le_refl _, .inl (Nat.le_refl _)⟩
  · rcases hh2.2 with ⟨f2, z2⟩ | ⟨g2, cap2, cur2, f2, b2, q2, _⟩
    · exact ⟨base, w.heap.size, base, base, ⟨A1, c1, e1, r1, s1⟩, ⟨A2, c2, e2, fun h0 => absurd h0 (by omega), s2⟩, Nat.le_refl _, Nat.le_refl _, .inr (Nat.le_refl _)⟩
    · have hne : g1 ≠ g2 := fun e => by
        rw [e, q2] at q1
        injection q1 with q1
        injection q1 with _ q1 _
        exact absurd q1 (by decide)
      refine ⟨g1, g1 + 1, g2, g2 + 1, ⟨A1, c1, e1, fun h0 => ?_, s1⟩, ⟨A2, c2, e2, fun h0 => ?_, s2⟩, b1, b2, by omega⟩
      · obtain ⟨b, off, e, _, _, h5, h6⟩ := r1 h0
        have : b = g1 := by rw [e1, e] at f1; injection f1 with f1; injection f1 with f1; injection f1
        exact ⟨b, off, e, by omega, by omega, h5, h6⟩
      · obtain ⟨b, off, e, _, _, h5, h6⟩ := r2 h0
        have : b = g2 := by rw [e2, e] at f2; injection f2 with f2; injection f2 with f2; injection f2
        exact ⟨b, off, e, by omega, by omega, h5, h6⟩
theorem TN.below {base : Nat} {w w' : World} {v1 v2 : Value} {n : Nat} {F : Nat → ByteArray} {G : Nat → Int} (hb : Below w.heap.size w w') (h : TN base w v1 v2 n F G) : TN base w' v1 v2 n F G := by
  obtain ⟨a, b, c, d, h1, h2, h3⟩ := h
  exact ⟨a, b, c, d, h1.below hb, h2.below hb, h3⟩
theorem TN.ti {base : Nat} {w : World} {v1 v2 : Value} {n : Nat} {F : Nat → ByteArray} {G : Nat → Int} (h : TN base w v1 v2 n F G) : TI w v1 n F := by
  obtain ⟨_, _, _, _, h1, _⟩ := h
  exact h1.ti
theorem TN.si {base : Nat} {w : World} {v1 v2 : Value} {n : Nat} {F : Nat → ByteArray} {G : Nat → Int} (h : TN base w v1 v2 n F G) : SI w v2 n G := by
  obtain ⟨_, _, _, _, _, h1, _⟩ := h
  exact h1.si
theorem C_SameReasonI_no (v : Value) (n : Nat) (R : Nat → Lk) (w : World) (h : LKs w v n R) (hs : ∀ j, j < n → (R j).why.size ≤ 9223372036854775807) (hd : accB n R = false) :
    Calls Tryd.prog 52 #[v] w fun e w' => ∃ v1 v2, e = .returned (.tuple #[v1, v2, .bool false]) ∧ OT w.heap.size w' v1 [] ∧ OI w.heap.size w' v2 [] ∧ Below w.heap.size w w' := by
  have HH := Lib.hid h
  have HS := Lib.hid hs
  obtain ⟨A, cap, rfl, hr, hc, hm⟩ := h
  clear hr hs
  go_enter Tryd.func52, Tryd.ntmps52
  go_wp2_with fail
  refine (C_IsAccount _ _ _ _ HH.out HS.out).mono ?_; rintro e w1 ⟨rfl, hb1⟩; rw [hd]
  go_wp2_with fail
  go_ret3
  exact ⟨_, _, rfl, OT.nil _ _, World.ownsRow_nil _ _ _ _, hb1⟩
theorem C_SameReasonS_no (v : Value) (n : Nat) (R : Nat → Lk) (w : World) (h : LKs w v n R) (hs : ∀ j, j < n → (R j).why.size ≤ 9223372036854775807) (hd : accB n R = false) :
    Calls Tryd.prog 51 #[v] w fun e w' => ∃ v1 v2, e = .returned (.tuple #[v1, v2, .bool false]) ∧ OT w.heap.size w' v1 [] ∧ OI w.heap.size w' v2 [] ∧ Below w.heap.size w w' := by
  have HH := Lib.hid h
  have HS := Lib.hid hs
  obtain ⟨A, cap, rfl, hr, hc, hm⟩ := h
  obtain ⟨w0, hw0⟩ : ∃ w0, w0 = (w.alloc (.cells #[] 9)).alloc (.cells #[] 3) := ⟨_, rfl⟩
  have hb0 : Below w.heap.size w w0 := by rw [hw0]; (repeat (first | with_reducible exact Below.refl _ _ | with_reducible exact below_regrown _ _ _ | with_reducible refine bel_step0 (by assumption) ?_ | with_reducible refine bel_alloc0 ?_ _ | with_reducible refine bel_regrown0 ?_ _ _ | with_reducible refine bel_regrown ?_ (by first | omega | (simp; done) | (simp; omega)) _ _ | with_reducible refine below_drewN ?_ _ | with_reducible refine Below.drew ?_ | with_reducible refine Below.alloc ?_ (by first | omega | (simp; done) | (simp; omega)) _ | with_reducible refine Below.setCell ?_ (by first | omega | (simp; done) | (simp; omega)) _ | with_reducible refine bel_step (by assumption) (by first | omega | (simp; done) | (simp; omega)) ?_ | with_reducible refine bel_grown (by assumption) (by first | omega | (simp; done) | (simp; omega)) (by first | omega | (simp; done) | (simp; omega)) ?_))
  have HT0 := Lib.hid (show OT w.heap.size w0 (.slice (some ⟨w.heap.size, 0, none⟩) 0 0) [] by rw [hw0]; exact OT.alloc _ (OT.emptyAt rfl (Nat.le_refl _)))
  have HI0 := Lib.hid (show OI w.heap.size w0 (.slice (some ⟨w.heap.size + 1, 0, none⟩) 0 0) [] by rw [hw0]; exact OI.emptyAt (by simp) (by omega))
  have HW0 := Lib.hid hw0
  have HH0 := Lib.hid (HH.out.below hb0)
  have HB0 := Lib.hid hb0
  clear hr hs hw0 hb0
  go_enter Tryd.func51, Tryd.ntmps51
  go_wp2_with fail
  rw [← HW0.out]
  refine (C_l22Good _ _ _ _ HH0.out HS.out).mono ?_; rintro e w1 ⟨rfl, hb1⟩; rw [hd]
  go_wp2_with fail
  go_ret3
  exact ⟨_, _, rfl, HT0.out.below hb1, HI0.out.below hb1, bel_step0 hb1 HB0.out⟩
/-- Both sides give the same texts and numbers. -/
theorem both_same (n : Nat) (R : Nat → Lk) (hs : ∀ j, j < n → (R j).why.size ≤ 9223372036854775807) : ∃ (ok : Bool) (m : Nat) (F : Nat → ByteArray) (G : Nat → Int), m ≤ 15 ∧
    (∀ w v, LKs w v n R → Calls Tryd.prog 52 #[v] w fun e w' => ∃ v1 v2, e = .returned (.tuple #[v1, v2, .bool ok]) ∧ TN w.heap.size w' v1 v2 m F G ∧ Below w.heap.size w w') ∧
    (∀ w v, LKs w v n R → Calls Tryd.prog 51 #[v] w fun e w' => ∃ v1 v2, e = .returned (.tuple #[v1, v2, .bool ok]) ∧ TN w.heap.size w' v1 v2 m F G ∧ Below w.heap.size w w') := by
  cases hd : accB n R
  · refine ⟨false, 0, atT [], ai [], by omega, fun w v h => ?_, fun w v h => ?_⟩
    · exact (C_SameReasonI_no v n R w h hs hd).mono fun e w' ⟨v1, v2, e1, e2, e3, e4⟩ => ⟨v1, v2, e1, TN.of e2 e3 rfl, e4⟩
    · exact (C_SameReasonS_no v n R w h hs hd).mono fun e w' ⟨v1, v2, e1, e2, e3, e4⟩ => ⟨v1, v2, e1, TN.of e2 e3 rfl, e4⟩
  · obtain ⟨ws0, hws0⟩ := words_of (dL_size (R := R) (n := n) hs n (Nat.le_refl _))
    have hn := accB_le hd
    have hlen : ((sortW (cL R n) ws0).map Wd.s).length ≤ 15 := by
      have h1 : (sortW (cL R n) ws0).length = ws0.length := List.length_mergeSort _
      have h2 := dL_le R n
      rw [← hws0, List.length_map] at h2
      rw [List.length_map]; omega
    refine ⟨true, ((sortW (cL R n) ws0).map Wd.s).length, atT ((sortW (cL R n) ws0).map Wd.s), ai (((sortW (cL R n) ws0).map Wd.s).map fun x => cL R n (kS x)), hlen, fun w v h => ?_, fun w v h => ?_⟩
    · exact (C_SameReasonI v n R w h hs hd).mono fun e w' ⟨v1, v2, ws, e1, e0, e2, e3, e4⟩ => by
        have := map_s_inj (e0.trans hws0.symm)
        subst this
        exact ⟨v1, v2, e1, TN.of e2 e3 (List.length_map _), e4⟩
    · exact (C_SameReasonS v n R w h hs hd).mono fun e w' ⟨v1, v2, W, e1, e2⟩ => by
        have := e2.sp.done hws0
        subst this
        exact ⟨v1, v2, e1, TN.of e2.ot e2.oi (List.length_map _), e2.be⟩
end Go.Proofs.YtmhelhjjadoiaaaDoor
