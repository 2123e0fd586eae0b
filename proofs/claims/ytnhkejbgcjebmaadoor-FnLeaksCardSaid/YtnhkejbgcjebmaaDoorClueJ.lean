/- Candidates: the program and the reference. No condition but those stated. -/
import Derived.Test.YtnhkejbgcjebmaaDoorClueG
namespace Go.Proofs.YtnhkejbgcjebmaaDoor
set_option linter.unusedVariables false
set_option linter.unusedSimpArgs false
open Go.RowKit Go.Sort
theorem OT.mono {b b' : Nat} {w : World} {v : Value} {xs : List ByteArray} (hb : b' ≤ b) (h : OT b w v xs) : OT b' w v xs :=
  ⟨h.1, h.2.imp id fun ⟨g, cap, cur, e, hg, r⟩ => ⟨g, cap, cur, e, Nat.le_trans hb hg, r⟩⟩
theorem clueAt.belowB {w w' : World} {B B' : Nat} {a b : Int} {s t : ByteArray} (hb : Below B' w w') (hB : B < B') (h : clueAt w B a b s t) : clueAt w' B a b s t :=
  ⟨Nat.lt_of_lt_of_le h.1 hb.size, (hb.cell (p := ⟨B, 0, none⟩) hB).trans h.2.1, (hb.cell (p := ⟨B, 1, none⟩) hB).trans h.2.2.1, (hb.cell (p := ⟨B, 2, none⟩) hB).trans h.2.2.2.1, (hb.cell (p := ⟨B, 3, none⟩) hB).trans h.2.2.2.2⟩
/-- The candidates, if list and clue are valid. -/
def candL (n : Nat) (f : Nat → ByteArray) (a b : Int) (s t : ByteArray) : List ByteArray := if dictB n f && okC a b s t then pickT n f (fun j => fitB a b s t (f j)) else []
theorem candL_le {n : Nat} {f : Nat → ByteArray} {a b : Int} {s t : ByteArray} : (candL n f a b s t).length ≤ 12 := by
  unfold candL
  split
  · rename_i h
    rw [Bool.and_eq_true] at h
    rw [pickT_length]
    have := cntB_le n (fun j => fitB a b s t (f j))
    have := (dictB_len h.1).2
    omega
  · simp
set_option maxHeartbeats 4000000 in
theorem C_CandidatesS (v : Value) (n : Nat) (f : Nat → ByteArray) (a b : Int) (s t : ByteArray) (w : World) (h : TI w v n f) (hs : ∀ j, j < n → (f j).size ≤ 9223372036854775807) (hs1 : s.size ≤ 9223372036854775807) (hs2 : t.size ≤ 9223372036854775807) :
    Calls Tryd.prog 37 #[v, .agg #[.int .i64 a, .int .i64 b, .string s, .string t]] w fun e w' => ∃ v', e = .returned (.tuple #[v', .bool (dictB n f && okC a b s t)]) ∧ OT w.heap.size w' v' (candL n f a b s t) ∧ Below w.heap.size w w' := by
  obtain ⟨w0, hw0⟩ : ∃ w0, w0 = (w.alloc (.cells #[.int .i64 a, .int .i64 b, .string s, .string t] 29)).alloc (.cells #[] 9) := ⟨_, rfl⟩
  have hb0 : Below w.heap.size w w0 := by rw [hw0]; (repeat (first | with_reducible exact Below.refl _ _ | with_reducible exact below_regrown _ _ _ | with_reducible refine bel_step0 (by assumption) ?_ | with_reducible refine bel_alloc0 ?_ _ | with_reducible refine bel_regrown0 ?_ _ _ | with_reducible refine bel_regrown ?_ (by first | omega | (simp; done) | (simp; omega)) _ _ | with_reducible refine below_drewN ?_ _ | with_reducible refine Below.drew ?_ | with_reducible refine Below.alloc ?_ (by first | omega | (simp; done) | (simp; omega)) _ | with_reducible refine Below.setCell ?_ (by first | omega | (simp; done) | (simp; omega)) _ | with_reducible refine bel_step (by assumption) (by first | omega | (simp; done) | (simp; omega)) ?_ | with_reducible refine bel_grown (by assumption) (by first | omega | (simp; done) | (simp; omega)) (by first | omega | (simp; done) | (simp; omega)) ?_))
  have hcl : clueAt w0 w.heap.size a b s t := by rw [hw0]; exact ⟨by simp, by simp, by simp, by simp, by simp⟩
  have ho0 : OT (w.heap.size + 1) w0 (.slice (some ⟨w.heap.size + 1, 0, none⟩) 0 0) [] := by
    have := OT.empty (base := w.heap.size + 1) (w := w.alloc (.cells #[.int .i64 a, .int .i64 b, .string s, .string t] 29)) (by simp)
    simpa [hw0] using this
  have HW0 := Lib.hid hw0
  have HO0 := Lib.hid ho0
  have HH := Lib.hid (h.below hb0)
  have HS := Lib.hid hs
  have HCL := Lib.hid hcl
  clear hs hw0 ho0 hcl
  obtain ⟨A, cap, rfl, hr, hc, hm⟩ := h
  have HR := Lib.hid hr
  clear hr
  cases hd : dictB n f
  · have hL : candL n f a b s t = [] := by unfold candL; rw [hd]; rfl
    rw [hL]; clear hL
    go_enter Tryd.func37, Tryd.ntmps37
    go_wp2_with fail
    rw [← HW0.out]
    refine (C_l20Good _ _ _ _ HH.out HS.out).mono ?_; rintro e w1 ⟨rfl, hb1⟩; rw [hd]
    go_wp2_with fail
    go_ret2
    exact ⟨_, rfl, (HO0.out.below hb1).mono (by omega), bel_step0 hb1 hb0⟩
  have hw : ∀ j, j < n → wordB (f j) = true := fun j hj => dictB_word hd hj
  have hn := (dictB_len hd).2
  have HW := Lib.hid hw
  clear hw
  cases ho : okC a b s t
  · have hL : candL n f a b s t = [] := by unfold candL; rw [hd, ho]; rfl
    rw [hL]; clear hL
    go_enter Tryd.func37, Tryd.ntmps37
    go_wp2_with fail
    rw [← HW0.out]
    refine (C_l20Good _ _ _ _ HH.out HS.out).mono ?_; rintro e w1 ⟨rfl, hb1⟩; rw [hd]
    obtain ⟨q, q0, q1, q2, q3⟩ := HCL.out.below hb1
    go_wp2_with fail
    refine (C_l20Clue _ _ _ _ _ hs1 hs2).mono ?_; rintro e w2 ⟨rfl, hb2⟩; rw [ho]
    go_wp2_with fail
    go_ret2
    exact ⟨_, rfl, ((HO0.out.below hb1).below hb2).mono (by omega), bel_step0 hb2 (bel_step0 hb1 hb0)⟩
  obtain ⟨p, hp⟩ : ∃ p : Nat → Bool, (fun j => fitB a b s t (f j)) = p := ⟨_, rfl⟩
  have hL : candL n f a b s t = pickT n f p := by unfold candL; rw [hd, ho, hp]; rfl
  rw [hL]; clear hL
  have HP := Lib.hid (fun j => congrFun hp j)
  clear hp
  go_enter Tryd.func37, Tryd.ntmps37
  go_wp2_with fail
  rw [← HW0.out]
  refine (C_l20Good _ _ _ _ HH.out HS.out).mono ?_; rintro e w1 ⟨rfl, hb1⟩; rw [hd]
  obtain ⟨q, q0, q1, q2, q3⟩ := HCL.out.below hb1
  go_wp2_with fail
  refine (C_l20Clue _ _ _ _ _ hs1 hs2).mono ?_; rintro e w2 ⟨rfl, hb2⟩; rw [ho]
  clear q q0 q1 q2 q3
  have hb02 := bel_step0 hb2 hb1
  have ho2 := (HO0.out.below hb1).below hb2
  have hcl2 := (HCL.out.below hb1).below hb2
  have HB02 := Lib.hid hb02
  have HO2 := Lib.hid ho2
  have HCL2 := Lib.hid hcl2
  have hz2 := hb02.size
  have hzw : w.heap.size + 2 ≤ w0.heap.size := by rw [HW0.out]; simp
  clear hb02 ho2 hcl2 hb1 hb2
  go_wp2_with fail
  go_loopw [6, 7] (fun o i wr => ∃ k : Nat, k ≤ n ∧ i = .int .i64 k ∧ OT (w.heap.size + 1) wr o (pickT k f p) ∧ Below (w.heap.size + 1) w2 wr) (fun _ i _ => n - (intOf i).toNat)
  case atStart => exact ⟨0, Nat.zero_le _, rfl, HO2.out, Below.refl _ _⟩
  case round =>
    obtain ⟨k, hk, rfl, ho', hB⟩ := hrel
    have HO := Lib.hid ho'; clear ho'
    have HB := Lib.hid hB
    have hzr := hB.size
    have hbw : Below w.heap.size w wr := hb0.trans (((HB02.out).mono (by omega)).trans (hB.mono (by omega)))
    have HBW := Lib.hid hbw
    by_cases hlt : k < n
    · obtain ⟨bb, off, rfl, hb, hcell⟩ := (HR.out.below hbw) (by omega)
      have hck := cell_regrown (hcell k hlt)
      obtain ⟨hq, q0, q1, q2, q3⟩ := HCL2.out.belowB hB (by omega)
      have g0 := cell_regrown q0
      have g1 := cell_regrown q1
      have g2 := cell_regrown q2
      have g3 := cell_regrown q3
      have hn0 : (k : Int) < (n : Int) := by omega
      have hpk : fitB a b s t (f k) = p k := HP.out k
      have HE : ∀ d os, Calls Tryd.prog 70 #[.string (f k), .agg #[.int .i64 a, .int .i64 b, .string s, .string t]] (grow (redrawn wr d) os) fun e w'' => e = .returned (.bool (p k)) ∧ ∃ p : Regrown, w'' = grow (redrawn wr p.d) p.os :=
        fun d os => Calls.regrown_of ((C_l20Can a b s t (f k) _ (HW.out k hlt)).mono fun e w' hh => ⟨hh.1.trans (by rw [hpk]), hh.2⟩)
      have hpl : (pickT k f p).length ≤ 1099511627776 := by rw [pickT_length]; have := cntB_le k p; omega
      clear hcell hpk q0 q1 q2 q3 hB hbw hq
      cases hok : p k
      · simp only [hok] at HE
        go_wp2
        (refine wp_region_quiet_below (by kernel_rfl) (by kernel_rfl) ?_; (repeat (go_big_quiet_step (exact HE _ _))); refine wpQuiet_nil ?_; intro _ hw'; obtain ⟨⟨dq, osq⟩, hw''⟩ := hw'; subst hw'')
        go_wp2
        go_roundw
        case rel => exact ⟨k + 1, by omega, by go_num, by rw [pickT_no hok]; exact HO.out.below (below_regrown _ _ _), (HB.out).trans ((below_regrown _ _ _).mono (by omega))⟩
        case measure => simp [intOf]; omega
      · simp only [hok] at HE
        go_wp2
        (refine wp_region_quiet_below (by kernel_rfl) (by kernel_rfl) ?_; (repeat (go_big_quiet_step (exact HE _ _))); refine wpQuiet_nil ?_; intro _ hw'; obtain ⟨⟨dq, osq⟩, hw''⟩ := hw'; subst hw'')
        clear g0 g1 g2 g3
        obtain ⟨wg, hwg⟩ : ∃ wg, wg = grow (redrawn wr dq) osq := ⟨_, rfl⟩
        have hbg : Below wr.heap.size wr wg := by rw [hwg]; exact below_regrown _ _ _
        have hckg : wg.cell? ⟨bb, off + k, none⟩ = some (.string (f k)) := by rw [hwg]; exact hck _ _
        rw [← hwg]
        clear hck HE hwg
        have HOG := Lib.hid (HO.out.below hbg)
        have HBG := Lib.hid (HB.out.trans (hbg.mono (by omega)))
        have hzg := hbg.size
        clear hbg
        go_wp2_with (at_builtin; refine wp_appT1 _ rfl (.tmp 30) (.tmp 35) rfl (w.heap.size + 1) _ _ rfl (HOG.out.alloc _) wg.heap.size (f k) rfl (by simp) hpl (by simp; omega) ?_; intro v1 w1 ho1 hb1; have HO1 := Lib.hid ho1; have HB1 := Lib.hid (((HBG.out).alloc (by omega) _).trans hb1); clear ho1 hb1)
        go_roundw
        case rel => exact ⟨k + 1, by omega, by go_num, by rw [pickT_yes hok]; exact HO1.out, HB1.out⟩
        case measure => simp [intOf]; omega
    · obtain rfl : k = n := by omega
      go_wp2
      go_ret2
      exact ⟨_, rfl, HO.out.mono (by omega), HBW.out⟩
set_option maxHeartbeats 2000000 in
theorem C_CandidatesI (v : Value) (n : Nat) (f : Nat → ByteArray) (a b : Int) (s t : ByteArray) (w : World) (h : TI w v n f) (hs : ∀ j, j < n → (f j).size ≤ 9223372036854775807) (hs1 : s.size ≤ 9223372036854775807) (hs2 : t.size ≤ 9223372036854775807) :
    Calls Tryd.prog 38 #[v, .agg #[.int .i64 a, .int .i64 b, .string s, .string t]] w fun e w' => ∃ v', e = .returned (.tuple #[v', .bool (dictB n f && okC a b s t)]) ∧ WT w.heap.size w'.heap.size w' v' (candL n f a b s t).length (atT (candL n f a b s t)) ∧ Below w.heap.size w w' := by
  obtain ⟨w0, hw0⟩ : ∃ w0, w0 = w.alloc (.cells #[.int .i64 a, .int .i64 b, .string s, .string t] 29) := ⟨_, rfl⟩
  have hb0 : Below w.heap.size w w0 := by rw [hw0]; (repeat (first | with_reducible exact Below.refl _ _ | with_reducible exact below_regrown _ _ _ | with_reducible refine bel_step0 (by assumption) ?_ | with_reducible refine bel_alloc0 ?_ _ | with_reducible refine bel_regrown0 ?_ _ _ | with_reducible refine bel_regrown ?_ (by first | omega | (simp; done) | (simp; omega)) _ _ | with_reducible refine below_drewN ?_ _ | with_reducible refine Below.drew ?_ | with_reducible refine Below.alloc ?_ (by first | omega | (simp; done) | (simp; omega)) _ | with_reducible refine Below.setCell ?_ (by first | omega | (simp; done) | (simp; omega)) _ | with_reducible refine bel_step (by assumption) (by first | omega | (simp; done) | (simp; omega)) ?_ | with_reducible refine bel_grown (by assumption) (by first | omega | (simp; done) | (simp; omega)) (by first | omega | (simp; done) | (simp; omega)) ?_))
  have hcl : clueAt w0 w.heap.size a b s t := by rw [hw0]; exact ⟨by simp, by simp, by simp, by simp, by simp⟩
  have hnil : ∀ W : World, WT w.heap.size W.heap.size W (.slice none 0 0) ([] : List ByteArray).length (atT []) := fun W => ⟨none, 0, rfl, fun h => absurd h (by simp), by simp, by omega⟩
  have HN := Lib.hid hnil
  have HW0 := Lib.hid hw0
  have HH := Lib.hid (h.below hb0)
  have HS := Lib.hid hs
  have HCL := Lib.hid hcl
  clear hs hw0 hcl hnil
  obtain ⟨A, cap, rfl, hr, hc, hm⟩ := h
  clear hr
  cases hd : dictB n f
  · have hL : candL n f a b s t = [] := by unfold candL; rw [hd]; rfl
    rw [hL]; clear hL
    go_enter Tryd.func38, Tryd.ntmps38
    go_wp2_with fail
    rw [← HW0.out]
    refine (C_IsDictionary _ _ _ _ HH.out HS.out).mono ?_; rintro e w1 ⟨rfl, hb1⟩; rw [hd]
    go_wp2_with fail
    go_ret2
    exact ⟨_, rfl, HN.out _, bel_step0 hb1 hb0⟩
  have hw : ∀ j, j < n → wordB (f j) = true := fun j hj => dictB_word hd hj
  have hn := (dictB_len hd).2
  have HW := Lib.hid hw
  clear hw
  cases ho : okC a b s t
  · have hL : candL n f a b s t = [] := by unfold candL; rw [hd, ho]; rfl
    rw [hL]; clear hL
    go_enter Tryd.func38, Tryd.ntmps38
    go_wp2_with fail
    rw [← HW0.out]
    refine (C_IsDictionary _ _ _ _ HH.out HS.out).mono ?_; rintro e w1 ⟨rfl, hb1⟩; rw [hd]
    obtain ⟨q, q0, q1, q2, q3⟩ := HCL.out.below hb1
    go_wp2_with fail
    refine (C_IsClue _ _ _ _ _ hs1 hs2).mono ?_; rintro e w2 ⟨rfl, hb2⟩; rw [ho]
    go_wp2_with fail
    go_ret2
    exact ⟨_, rfl, HN.out _, bel_step0 hb2 (bel_step0 hb1 hb0)⟩
  have hL : candL n f a b s t = pickT n f (fun j => fitB a b s t (f j)) := by unfold candL; rw [hd, ho]; rfl
  rw [hL, pickT_length]; clear hL
  go_enter Tryd.func38, Tryd.ntmps38
  go_wp2_with fail
  rw [← HW0.out]
  refine (C_IsDictionary _ _ _ _ HH.out HS.out).mono ?_; rintro e w1 ⟨rfl, hb1⟩; rw [hd]
  obtain ⟨q, q0, q1, q2, q3⟩ := HCL.out.below hb1
  go_wp2_with fail
  refine (C_IsClue _ _ _ _ _ hs1 hs2).mono ?_; rintro e w2 ⟨rfl, hb2⟩; rw [ho]
  clear q q0 q1 q2 q3
  obtain ⟨q, q0, q1, q2, q3⟩ := (HCL.out.below hb1).below hb2
  have B2 := bel_step0 hb2 (bel_step0 hb1 hb0)
  have HB2 := Lib.hid B2
  have HT2 := Lib.hid ((HH.out.below hb1).below hb2)
  have HZ2 := Lib.hid B2.size
  clear B2 hb1 hb2
  go_wp2_with fail
  refine (C_candidates _ n f _ _ _ _ _ HT2.out (by omega) HW.out).mono ?_; rintro e w4 ⟨v4, rfl, hv4, hb4⟩
  have HV4 := Lib.hid (hv4.mono HZ2.out (Nat.le_refl _))
  have HB4 := Lib.hid (bel_step0 hb4 HB2.out)
  clear hv4 hb4 q q0 q1 q2 q3
  go_wp2_with fail
  go_ret2
  exact ⟨_, rfl, HV4.out, HB4.out⟩
end Go.Proofs.YtnhkejbgcjebmaaDoor
