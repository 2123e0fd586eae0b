/- Whether the same records match two queries: both sides. No condition but those stated. -/
import Derived.Test.YtjmfkenhnfdbjaaDoorQzD
import Derived.Test.YtjmfkenhnfdbjaaDoorIntsB
namespace Go.Proofs.YtjmfkenhnfdbjaaDoor
set_option linter.unusedVariables false
set_option linter.unusedSimpArgs false
open Go.RowKit Go.Sort
theorem C_l1Same (v v' : Value) (n m : Nat) (f g : Nat → Int) (w : World) (h : SI w v n f) (h' : SI w v' m g) :
    Calls Tryd.prog 41 #[v, v'] w fun e w' => e = .returned (.bool (eqI n m f g)) ∧ Below w.heap.size w w' := by
  obtain ⟨A, cap, rfl, hr, hc, hm⟩ := h
  obtain ⟨A', cap', rfl, hr', hc', hm'⟩ := h'
  have HR := Lib.hid hr; clear hr
  have HR' := Lib.hid hr'; clear hr'
  by_cases hnm : n = m
  · subst hnm
    go_enter Tryd.func41, Tryd.ntmps41
    go_wp2
    go_loopw [5] (fun i wr => ∃ k : Nat, k ≤ n ∧ i = .int .i64 k ∧ allB k (fun j => f j == g j) = true ∧ Below w.heap.size w wr) (fun i _ => n - (intOf i).toNat)
    case atStart => exact ⟨0, Nat.zero_le _, rfl, rfl, Below.refl _ _⟩
    case round =>
      obtain ⟨k, hk, rfl, ha, hB⟩ := hrel
      have HA := Lib.hid ha; clear ha
      by_cases hlt : k < n
      · obtain ⟨b, off, rfl, hb, hcell⟩ := (HR.out.below hB) (by omega)
        obtain ⟨b', off', rfl, hb', hcell'⟩ := (HR'.out.below hB) (by omega)
        have hck := hcell k hlt
        have hck' := hcell' k hlt
        have hk0 : (0 : Int) ≤ (k : Int) := by omega
        have hk1 : (k : Int) < (n : Int) := by omega
        clear hcell hcell'
        go_wp2
        go_quiet (fail)
        go_wp2
        all_goals first
          | (go_ret; exact ⟨ret_bool (by unfold eqI; rw [allB_of_not hlt ((by (first | (simp [*]; done) | (go_light; simp_all; done) | (go_light; simp_all; omega))))]; simp), by (repeat (first | with_reducible exact Below.refl _ _ | with_reducible exact below_regrown _ _ _ | with_reducible refine bel_step0 (by assumption) ?_ | with_reducible refine bel_alloc0 ?_ _ | with_reducible refine bel_regrown0 ?_ _ _ | with_reducible refine bel_regrown ?_ (by first | omega | (simp; done) | (simp; omega)) _ _ | with_reducible refine below_drewN ?_ _ | with_reducible refine Below.drew ?_ | with_reducible refine Below.alloc ?_ (by first | omega | (simp; done) | (simp; omega)) _ | with_reducible refine Below.setCell ?_ (by first | omega | (simp; done) | (simp; omega)) _ | with_reducible refine bel_step (by assumption) (by first | omega | (simp; done) | (simp; omega)) ?_ | with_reducible refine bel_grown (by assumption) (by first | omega | (simp; done) | (simp; omega)) (by first | omega | (simp; done) | (simp; omega)) ?_))⟩)
          | (go_roundw; (case rel => exact ⟨k + 1, by omega, by go_num, allB_next HA.out ((by (first | (simp [*]; done) | (go_light; simp_all; done) | (go_light; simp_all; omega)))), by (repeat (first | with_reducible exact Below.refl _ _ | with_reducible exact below_regrown _ _ _ | with_reducible refine bel_step0 (by assumption) ?_ | with_reducible refine bel_alloc0 ?_ _ | with_reducible refine bel_regrown0 ?_ _ _ | with_reducible refine bel_regrown ?_ (by first | omega | (simp; done) | (simp; omega)) _ _ | with_reducible refine below_drewN ?_ _ | with_reducible refine Below.drew ?_ | with_reducible refine Below.alloc ?_ (by first | omega | (simp; done) | (simp; omega)) _ | with_reducible refine Below.setCell ?_ (by first | omega | (simp; done) | (simp; omega)) _ | with_reducible refine bel_step (by assumption) (by first | omega | (simp; done) | (simp; omega)) ?_ | with_reducible refine bel_grown (by assumption) (by first | omega | (simp; done) | (simp; omega)) (by first | omega | (simp; done) | (simp; omega)) ?_))⟩); (case measure => simp [intOf]; omega))
      · go_wp2
        (go_ret; obtain rfl : k = n := (by omega); exact ⟨ret_bool (by unfold eqI; rw [HA.out]; simp), by (repeat (first | with_reducible exact Below.refl _ _ | with_reducible exact below_regrown _ _ _ | with_reducible refine bel_step0 (by assumption) ?_ | with_reducible refine bel_alloc0 ?_ _ | with_reducible refine bel_regrown0 ?_ _ _ | with_reducible refine bel_regrown ?_ (by first | omega | (simp; done) | (simp; omega)) _ _ | with_reducible refine below_drewN ?_ _ | with_reducible refine Below.drew ?_ | with_reducible refine Below.alloc ?_ (by first | omega | (simp; done) | (simp; omega)) _ | with_reducible refine Below.setCell ?_ (by first | omega | (simp; done) | (simp; omega)) _ | with_reducible refine bel_step (by assumption) (by first | omega | (simp; done) | (simp; omega)) ?_ | with_reducible refine bel_grown (by assumption) (by first | omega | (simp; done) | (simp; omega)) (by first | omega | (simp; done) | (simp; omega)) ?_))⟩)
  · have h1 : ((n : Int) == (m : Int)) = false := by simp; omega
    have h2 : ((n : Int) != (m : Int)) = true := by simp; omega
    go_enter Tryd.func41, Tryd.ntmps41
    go_wp2
    go_ret
    exact ⟨ret_bool (by unfold eqI; rw [decide_eq_false hnm]; rfl), Below.refl _ _⟩
theorem C_EqualI (v v' : Value) (n m : Nat) (f g : Nat → Int) (w : World) (h : SI w v n f) (h' : SI w v' m g) :
    Calls Tryd.prog 43 #[v, v'] w fun e w' => e = .returned (.bool (eqI n m f g)) ∧ Below w.heap.size w w' := by
  obtain ⟨A, cap, rfl, hr, hc, hm⟩ := h
  obtain ⟨A', cap', rfl, hr', hc', hm'⟩ := h'
  have HR := Lib.hid hr; clear hr
  have HR' := Lib.hid hr'; clear hr'
  by_cases hnm : n = m
  · subst hnm
    go_enter Tryd.func43, Tryd.ntmps43
    go_wp2
    go_loopw [13] (fun i wr => ∃ k : Nat, k ≤ n ∧ i = .int .i64 k ∧ allB k (fun j => f j == g j) = true ∧ Below w.heap.size w wr) (fun i _ => n - (intOf i).toNat)
    case atStart => exact ⟨0, Nat.zero_le _, rfl, rfl, Below.refl _ _⟩
    case round =>
      obtain ⟨k, hk, rfl, ha, hB⟩ := hrel
      have HA := Lib.hid ha; clear ha
      by_cases hlt : k < n
      · obtain ⟨b, off, rfl, hb, hcell⟩ := (HR.out.below hB) (by omega)
        obtain ⟨b', off', rfl, hb', hcell'⟩ := (HR'.out.below hB) (by omega)
        have hck := hcell k hlt
        have hck' := hcell' k hlt
        have hk0 : (0 : Int) ≤ (k : Int) := by omega
        have hk1 : (k : Int) < (n : Int) := by omega
        clear hcell hcell'
        go_wp2
        go_quiet (fail)
        go_wp2
        all_goals first
          | (go_ret; exact ⟨ret_bool (by unfold eqI; rw [allB_of_not hlt ((by (first | (simp [*]; done) | (go_light; simp_all; done) | (go_light; simp_all; omega))))]; simp), by (repeat (first | with_reducible exact Below.refl _ _ | with_reducible exact below_regrown _ _ _ | with_reducible refine bel_step0 (by assumption) ?_ | with_reducible refine bel_alloc0 ?_ _ | with_reducible refine bel_regrown0 ?_ _ _ | with_reducible refine bel_regrown ?_ (by first | omega | (simp; done) | (simp; omega)) _ _ | with_reducible refine below_drewN ?_ _ | with_reducible refine Below.drew ?_ | with_reducible refine Below.alloc ?_ (by first | omega | (simp; done) | (simp; omega)) _ | with_reducible refine Below.setCell ?_ (by first | omega | (simp; done) | (simp; omega)) _ | with_reducible refine bel_step (by assumption) (by first | omega | (simp; done) | (simp; omega)) ?_ | with_reducible refine bel_grown (by assumption) (by first | omega | (simp; done) | (simp; omega)) (by first | omega | (simp; done) | (simp; omega)) ?_))⟩)
          | (go_roundw; (case rel => exact ⟨k + 1, by omega, by go_num, allB_next HA.out ((by (first | (simp [*]; done) | (go_light; simp_all; done) | (go_light; simp_all; omega)))), by (repeat (first | with_reducible exact Below.refl _ _ | with_reducible exact below_regrown _ _ _ | with_reducible refine bel_step0 (by assumption) ?_ | with_reducible refine bel_alloc0 ?_ _ | with_reducible refine bel_regrown0 ?_ _ _ | with_reducible refine bel_regrown ?_ (by first | omega | (simp; done) | (simp; omega)) _ _ | with_reducible refine below_drewN ?_ _ | with_reducible refine Below.drew ?_ | with_reducible refine Below.alloc ?_ (by first | omega | (simp; done) | (simp; omega)) _ | with_reducible refine Below.setCell ?_ (by first | omega | (simp; done) | (simp; omega)) _ | with_reducible refine bel_step (by assumption) (by first | omega | (simp; done) | (simp; omega)) ?_ | with_reducible refine bel_grown (by assumption) (by first | omega | (simp; done) | (simp; omega)) (by first | omega | (simp; done) | (simp; omega)) ?_))⟩); (case measure => simp [intOf]; omega))
      · go_wp2
        (go_ret; obtain rfl : k = n := (by omega); exact ⟨ret_bool (by unfold eqI; rw [HA.out]; simp), by (repeat (first | with_reducible exact Below.refl _ _ | with_reducible exact below_regrown _ _ _ | with_reducible refine bel_step0 (by assumption) ?_ | with_reducible refine bel_alloc0 ?_ _ | with_reducible refine bel_regrown0 ?_ _ _ | with_reducible refine bel_regrown ?_ (by first | omega | (simp; done) | (simp; omega)) _ _ | with_reducible refine below_drewN ?_ _ | with_reducible refine Below.drew ?_ | with_reducible refine Below.alloc ?_ (by first | omega | (simp; done) | (simp; omega)) _ | with_reducible refine Below.setCell ?_ (by first | omega | (simp; done) | (simp; omega)) _ | with_reducible refine bel_step (by assumption) (by first | omega | (simp; done) | (simp; omega)) ?_ | with_reducible refine bel_grown (by assumption) (by first | omega | (simp; done) | (simp; omega)) (by first | omega | (simp; done) | (simp; omega)) ?_))⟩)
  · have h1 : ((n : Int) == (m : Int)) = false := by simp; omega
    have h2 : ((n : Int) != (m : Int)) = true := by simp; omega
    go_enter Tryd.func43, Tryd.ntmps43
    go_wp2
    go_ret
    exact ⟨ret_bool (by unfold eqI; rw [decide_eq_false hnm]; rfl), Below.refl _ _⟩
def eqL (xs ys : List Int) : Bool := eqI xs.length ys.length (ai xs) (ai ys)
def aoOk (s t : ByteArray) (n : Nat) (R : Nat → Rc) : Bool := goodQ s && (goodQ t && recsOk n R)
def aoV (s t : ByteArray) (n : Nat) (R : Nat → Rc) : Bool := aoOk s t n R && eqL (moL s n R) (moL t n R)
set_option maxHeartbeats 4000000 in
theorem C_AgreesOnI (s t : ByteArray) (v : Value) (n : Nat) (R : Nat → Rc) (hs : s.size ≤ 1048576) (ht : t.size ≤ 1048576) (w : World) (hkp : Pk w) (h : RcS w v n R) :
    Calls Tryd.prog 18 #[.string s, .string t, v] w fun e w' => e = .returned (.tuple #[.bool (aoV s t n R), .bool (aoOk s t n R)]) ∧ Below w.heap.size w w' := by
  have HH := Lib.hid h
  have HC := Lib.hid (C_MatchingI s v n R hs w hkp h)
  have HD := Lib.hid (fun w1 (hb : Below w.heap.size w w1) => C_MatchingI t v n R ht w1 (hkp.below hb) (h.below hb))
  obtain ⟨A, cap, rfl, hr, hc, hm⟩ := h
  clear hr hkp
  obtain ⟨xs, hxs⟩ : ∃ xs, moL s n R = xs := ⟨_, rfl⟩
  obtain ⟨ys, hys⟩ : ∃ ys, moL t n R = ys := ⟨_, rfl⟩
  obtain ⟨a, ha⟩ : ∃ a, moOk s n R = a := ⟨_, rfl⟩
  obtain ⟨b, hb⟩ : ∃ b, moOk t n R = b := ⟨_, rfl⟩
  have HO := Lib.hid (show aoOk s t n R = (a && b) by
    unfold aoOk; rw [← ha, ← hb]; unfold moOk; cases goodQ s <;> cases goodQ t <;> cases recsOk n R <;> rfl)
  have HV := Lib.hid (show aoV s t n R = ((a && b) && eqL xs ys) by unfold aoV; rw [HO.out, hxs, hys])
  rw [hxs, ha] at HC
  rw [hys, hb] at HD
  clear hxs hys ha hb
  cases a
  · go_enter Tryd.func18, Tryd.ntmps18
    go_wp2_with fail
    refine HC.out.mono ?_; rintro e w1 ⟨v1, rfl, ho1, hb1⟩
    have HB1 := Lib.hid hb1
    clear hb1 ho1
    go_wp2_with fail
    refine (HD.out _ HB1.out).mono ?_; rintro e w2 ⟨v2, rfl, ho2, hb2⟩
    have HB2 := Lib.hid (bel_step0 hb2 HB1.out)
    clear hb2 ho2
    cases b
    all_goals
      go_wp2
      go_ret2
      rw [HO.out, HV.out]
      exact ⟨rfl, HB2.out⟩
  · go_enter Tryd.func18, Tryd.ntmps18
    go_wp2_with fail
    refine HC.out.mono ?_; rintro e w1 ⟨v1, rfl, ho1, hb1⟩
    have HB1 := Lib.hid hb1
    have HO1 := Lib.hid ho1
    clear hb1 ho1
    go_wp2_with fail
    refine (HD.out _ HB1.out).mono ?_; rintro e w2 ⟨v2, rfl, ho2, hb2⟩
    have HB2 := Lib.hid (bel_step0 hb2 HB1.out)
    have HO2 := Lib.hid ho2.wi.si
    have HX2 := Lib.hid (HO1.out.below hb2).wi.si
    clear hb2 ho2
    cases b
    · go_wp2
      go_ret2
      rw [HO.out, HV.out]
      exact ⟨rfl, HB2.out⟩
    · go_wp2_with fail
      refine (C_EqualI _ _ _ _ _ _ _ HX2.out HO2.out).mono ?_; rintro e w3 ⟨rfl, hb3⟩
      go_wp2
      go_ret2
      rw [HO.out, HV.out]
      exact ⟨rfl, bel_step0 hb3 HB2.out⟩
set_option maxHeartbeats 4000000 in
theorem C_AgreesOnS (s t : ByteArray) (v : Value) (n : Nat) (R : Nat → Rc) (hs : s.size ≤ 1048576) (ht : t.size ≤ 1048576) (w : World) (h : RcS w v n R) :
    Calls Tryd.prog 16 #[.string s, .string t, v] w fun e w' => e = .returned (.tuple #[.bool (aoV s t n R), .bool (aoOk s t n R)]) ∧ Below w.heap.size w w' := by
  have HH := Lib.hid h
  have HCS := Lib.hid (C_l19Good s hs w)
  have HCT := Lib.hid (fun w => C_l19Good t ht w)
  have HOD := Lib.hid (show aoOk s t n R = (goodQ s && (goodQ t && recsOk n R)) from rfl)
  have HVD := Lib.hid (show aoV s t n R = (aoOk s t n R && eqL (moL s n R) (moL t n R)) from rfl)
  obtain ⟨A, cap, rfl, hr, hc, hm⟩ := h
  clear hr
  cases hg : goodQ s
  · have HO := Lib.hid (show aoOk s t n R = false by rw [HOD.out, hg]; rfl)
    rw [hg] at HCS
    clear hg
    go_enter Tryd.func16, Tryd.ntmps16
    go_wp2_with fail
    refine HCS.out.mono ?_; rintro e w1 ⟨rfl, hb1⟩
    go_wp2
    go_ret2
    rw [HVD.out, HO.out]
    exact ⟨rfl, hb1⟩
  cases hgt : goodQ t
  · have HO := Lib.hid (show aoOk s t n R = false by rw [HOD.out, hg, hgt]; rfl)
    rw [hg] at HCS
    rw [hgt] at HCT
    clear hg hgt
    go_enter Tryd.func16, Tryd.ntmps16
    go_wp2_with fail
    refine HCS.out.mono ?_; rintro e w1 ⟨rfl, hb1⟩
    go_wp2_with fail
    refine (HCT.out _).mono ?_; rintro e w2 ⟨rfl, hb2⟩
    go_wp2
    go_ret2
    rw [HVD.out, HO.out]
    exact ⟨rfl, bel_step0 hb2 hb1⟩
  obtain ⟨k, hk⟩ : ∃ k, recsOk n R = k := ⟨_, rfl⟩
  have HO := Lib.hid (show aoOk s t n R = k by rw [HOD.out, hg, hgt, hk]; rfl)
  have HK := Lib.hid hk
  obtain ⟨o, ho⟩ := good_some hg
  obtain ⟨p, hp⟩ := good_some hgt
  have HL := Lib.hid (fun (h : k = true) => show moL s n R = midL (mtch s) R n ∧ moL t n R = midL (mtch t) R n by
    unfold moL moOk; rw [hg, hgt, hk.trans h]; exact ⟨rfl, rfl⟩)
  have HA := Lib.hid (fun (h : k = true) w' h' => C_l19All s o (.slice A n cap) n R hs ho w' h' (hk.trans h))
  have HB := Lib.hid (fun (h : k = true) w' h' => C_l19All t p (.slice A n cap) n R ht hp w' h' (hk.trans h))
  rw [hg] at HCS
  rw [hgt] at HCT
  clear hg hgt hk ho hp
  go_enter Tryd.func16, Tryd.ntmps16
  go_wp2_with fail
  refine HCS.out.mono ?_; rintro e w1 ⟨rfl, hb1⟩
  have HB1 := Lib.hid hb1
  clear hb1
  go_wp2_with fail
  refine (HCT.out _).mono ?_; rintro e w2 ⟨rfl, hb2⟩
  have HB2 := Lib.hid (bel_step0 hb2 HB1.out)
  clear hb2
  go_wp2_with fail
  refine (C_l2Records _ n R _ (HH.out.below HB2.out)).mono ?_; rintro e w3 ⟨rfl, hb3⟩
  have HB3 := Lib.hid (bel_step0 hb3 HB2.out)
  rw [HK.out]
  clear hb3
  cases k
  · go_wp2
    go_ret2
    rw [HVD.out, HO.out]
    exact ⟨rfl, HB3.out⟩
  · go_wp2_with fail
    refine (HA.out (by trivial) _ (HH.out.below HB3.out)).mono ?_; rintro e w4 ⟨v4, rfl, ho4, hb4⟩
    have HB4 := Lib.hid (bel_step0 hb4 HB3.out)
    have HO4 := Lib.hid ho4
    clear ho4 hb4
    go_wp2_with fail
    refine (HB.out (by trivial) _ (HH.out.below HB4.out)).mono ?_; rintro e w5 ⟨v5, rfl, ho5, hb5⟩
    have HB5 := Lib.hid (bel_step0 hb5 HB4.out)
    have HX5 := Lib.hid (HO4.out.below hb5).wi.si
    have HO5 := Lib.hid ho5.wi.si
    clear ho5 hb5
    go_wp2_with fail
    refine (C_l1Same _ _ _ _ _ _ _ HX5.out HO5.out).mono ?_; rintro e w6 ⟨rfl, hb6⟩
    go_wp2
    go_ret2
    rw [HVD.out, HO.out, (HL.out (by trivial)).1, (HL.out (by trivial)).2]
    exact ⟨rfl, bel_step0 hb6 HB5.out⟩
end Go.Proofs.YtjmfkenhnfdbjaaDoor
