/- The records that match a query: both sides. No condition but those stated. -/
import Derived.Test.YtjmfkenhnfdbjaaDoorQzC
import Derived.Test.YtjmfkenhnfdbjaaDoorLkO
namespace Go.Proofs.YtjmfkenhnfdbjaaDoor
set_option linter.unusedVariables false
set_option linter.unusedSimpArgs false
open Go.RowKit Go.Sort
/-- The ids of those of the first n that are chosen. -/
def midL (f : Rc → Bool) (R : Nat → Rc) : Nat → List Int
  | 0 => []
  | k + 1 => midL f R k ++ (if f (R k) then [(R k).id] else [])
theorem midL_le (f : Rc → Bool) (R : Nat → Rc) (k : Nat) : (midL f R k).length ≤ k := by
  induction k with
  | zero => simp [midL]
  | succ k ih => simp only [midL, List.length_append]; split <;> simp <;> omega
theorem midL_no {f : Rc → Bool} {R : Nat → Rc} {k : Nat} (h : f (R k) = false) : midL f R (k + 1) = midL f R k := by
  simp only [midL, h]; exact List.append_nil _
theorem midL_yes {f : Rc → Bool} {R : Nat → Rc} {k : Nat} (h : f (R k) = true) : midL f R (k + 1) = midL f R k ++ [(R k).id] := by
  simp only [midL, h]; rfl
def moOk (s : ByteArray) (n : Nat) (R : Nat → Rc) : Bool := goodQ s && recsOk n R
def moL (s : ByteArray) (n : Nat) (R : Nat → Rc) : List Int := if moOk s n R then midL (mtch s) R n else []
theorem moL_le (s : ByteArray) (n : Nat) (R : Nat → Rc) : (moL s n R).length ≤ n := by
  unfold moL; split
  · exact midL_le _ _ _
  · simp
set_option maxHeartbeats 4000000 in
theorem C_l19All (s : ByteArray) (o : Out) (v : Value) (n : Nat) (R : Nat → Rc) (hs : s.size ≤ 1048576) (hq : readQ s = some o) (w : World) (h : RcS w v n R) (hok : recsOk n R = true) :
    Calls Tryd.prog 42 #[.string s, v] w fun e w' => ∃ v', e = .returned v' ∧ OI w.heap.size w' v' (midL (mtch s) R n) ∧ Below w.heap.size w w' := by
  obtain ⟨A, cap, rfl, hr, hc, hm⟩ := h
  have HR := Lib.hid hr; clear hr
  obtain ⟨hn, hrec⟩ := recsOk_at hok
  have HM := Lib.hid (fun k (hk : k < n) sv w' (h : EvS w' sv (R k)) => by
    have := C_l19Match (R k) sv s o hs hq w' h
    rwa [rq_eq (hrec k hk), ← mtch_of hq] at this)
  obtain ⟨f, hf⟩ : ∃ f, mtch s = f := ⟨_, rfl⟩
  rw [hf] at HM ⊢
  clear hf hq hok hrec
  go_enter Tryd.func42, Tryd.ntmps42
  go_wp2
  go_loopw [5, 6] (fun q i wr => ∃ k : Nat, k ≤ n ∧ i = .int .i64 k ∧ OI w.heap.size wr q (midL f R k) ∧ Below w.heap.size w wr) (fun _ i _ => n - (intOf i).toNat)
  case atStart => exact ⟨0, Nat.zero_le _, rfl, OI.empty (Nat.le_refl _), by (repeat (first | with_reducible exact Below.refl _ _ | with_reducible exact below_regrown _ _ _ | with_reducible refine bel_step0 (by assumption) ?_ | with_reducible refine bel_alloc0 ?_ _ | with_reducible refine bel_regrown0 ?_ _ _ | with_reducible refine bel_regrown ?_ (by first | omega | (simp; done) | (simp; omega)) _ _ | with_reducible refine below_drewN ?_ _ | with_reducible refine Below.drew ?_ | with_reducible refine Below.alloc ?_ (by first | omega | (simp; done) | (simp; omega)) _ | with_reducible refine Below.setCell ?_ (by first | omega | (simp; done) | (simp; omega)) _ | with_reducible refine bel_step (by assumption) (by first | omega | (simp; done) | (simp; omega)) ?_ | with_reducible refine bel_grown (by assumption) (by first | omega | (simp; done) | (simp; omega)) (by first | omega | (simp; done) | (simp; omega)) ?_))⟩
  case round =>
    obtain ⟨k, hk, rfl, ho, hB⟩ := hrel
    have HO := Lib.hid ho; clear ho
    have HBB := Lib.hid hB
    have hbs := hB.size
    by_cases hlt : k < n
    · obtain ⟨b, off, rfl, hb, hcell⟩ := (HR.out.below hB) (by omega)
      obtain ⟨sv, hsv, c0, c1, c2, c3⟩ := hcell k hlt
      have hll := midL_le f R k
      have hkn : (k : Int) < (n : Int) := by omega
      clear hcell hB
      cases hv : f (R k)
      · have HV := Lib.hid hv
        go_wp2_with fail
        refine (HM.out k hlt sv _ hsv).mono ?_; rintro e w1 ⟨rfl, hb1⟩
        rw [hv]
        clear c0 c1 c2 c3 hsv
        go_wp2
        go_roundw
        case rel => exact ⟨k + 1, by omega, by go_num, by rw [midL_no HV.out]; exact HO.out.below hb1, bel_step0 hb1 HBB.out⟩
        case measure => simp [intOf]; omega
      · have HV := Lib.hid hv
        go_wp2_with fail
        refine (HM.out k hlt sv _ hsv).mono ?_; rintro e w1 ⟨rfl, hb1⟩
        rw [hv]
        have d0 := (hb1.cell (p := ⟨b, off + k * 4, none⟩) hb).trans c0
        have HO1 := Lib.hid (HO.out.below hb1)
        have HB1 := Lib.hid (bel_step0 hb1 HBB.out)
        have hz1 := HB1.out.size
        clear c0 c1 c2 c3 hsv hb1
        go_wp2_with (at_builtin; refine wp_app1 _ rfl (.tmp 20) (.tmp 26) rfl w.heap.size _ _ rfl (HO1.out.alloc _) w1.heap.size (R k).id rfl (by simp) (by omega) (by simp; omega) ?_; intro v2 w2 ho2 hb2; have HO2 := Lib.hid ho2; have HB2 := Lib.hid (Below.trans (HB1.out.alloc hz1 _) hb2); clear ho2 hb2)
        go_roundw
        case rel => exact ⟨k + 1, by omega, by go_num, by rw [midL_yes HV.out]; exact HO2.out, HB2.out⟩
        case measure => simp [intOf]; omega
    · go_wp2
      go_ret
      obtain rfl : k = n := by omega
      exact ⟨_, rfl, HO.out, HBB.out⟩
set_option maxHeartbeats 4000000 in
theorem C_MatchingS (s : ByteArray) (v : Value) (n : Nat) (R : Nat → Rc) (hs : s.size ≤ 1048576) (w : World) (h : RcS w v n R) :
    Calls Tryd.prog 20 #[.string s, v] w fun e w' => ∃ v', e = .returned (.tuple #[v', .bool (moOk s n R)]) ∧ OI w.heap.size w' v' (moL s n R) ∧ Below w.heap.size w w' := by
  have HH := Lib.hid h
  have HC := Lib.hid (C_l19Good s hs w)
  obtain ⟨A, cap, rfl, hr, hc, hm⟩ := h
  clear hr
  cases hg : goodQ s
  · have HV := Lib.hid (show moOk s n R = false ∧ moL s n R = [] by unfold moL moOk; rw [hg]; exact ⟨rfl, rfl⟩)
    rw [hg] at HC
    clear hg
    go_enter Tryd.func20, Tryd.ntmps20
    go_wp2_with fail
    refine HC.out.mono ?_; rintro e w1 ⟨rfl, hb1⟩
    have hz := hb1.size
    go_wp2
    go_ret2
    rw [HV.out.1, HV.out.2]
    exact ⟨_, rfl, OI.empty hz, hb1.alloc hz _⟩
  · obtain ⟨o, ho⟩ := good_some hg
    obtain ⟨k, hk⟩ : ∃ k, recsOk n R = k := ⟨_, rfl⟩
    have HV := Lib.hid (show moOk s n R = k ∧ moL s n R = if k then midL (mtch s) R n else [] by unfold moL moOk; rw [hg, hk]; exact ⟨rfl, rfl⟩)
    have HA := Lib.hid (fun (h : k = true) w' h' => C_l19All s o (.slice A n cap) n R hs ho w' h' (hk.trans h))
    have HK := Lib.hid hk
    rw [hg] at HC
    clear hg ho hk
    go_enter Tryd.func20, Tryd.ntmps20
    go_wp2_with fail
    refine HC.out.mono ?_; rintro e w1 ⟨rfl, hb1⟩
    have HB1 := Lib.hid hb1
    clear hb1 HC
    go_wp2_with fail
    refine (C_l2Records _ n R _ (HH.out.below HB1.out)).mono ?_; rintro e w2 ⟨rfl, hb2⟩
    have HB2 := Lib.hid (bel_step0 hb2 HB1.out)
    rw [HK.out]
    clear hb2
    cases k
    · have hz := HB2.out.size
      go_wp2
      go_ret2
      rw [HV.out.1, HV.out.2]
      exact ⟨_, rfl, OI.empty hz, HB2.out.alloc hz _⟩
    · go_wp2_with fail
      refine (HA.out (by trivial) _ (HH.out.below HB2.out)).mono ?_; rintro e w3 ⟨v3, rfl, ho3, hb3⟩
      have HO3 := Lib.hid ho3
      clear ho3
      go_wp2
      go_ret2
      rw [HV.out.1, HV.out.2]
      exact ⟨_, rfl, OI.mono HB2.out.size HO3.out, bel_step0 hb3 HB2.out⟩
set_option maxHeartbeats 8000000 in
theorem C_MatchingI (s : ByteArray) (v : Value) (n : Nat) (R : Nat → Rc) (hs : s.size ≤ 1048576) (w : World) (hkp : Pk w) (h : RcS w v n R) :
    Calls Tryd.prog 21 #[.string s, v] w fun e w' => ∃ v', e = .returned (.tuple #[v', .bool (moOk s n R)]) ∧ OI w.heap.size w' v' (moL s n R) ∧ Below w.heap.size w w' := by
  have HH := Lib.hid h
  have HC := Lib.hid (C_readQuery s hs w hkp)
  obtain ⟨A, cap, rfl, hr, hc, hm⟩ := h
  have HR := Lib.hid hr
  clear hr hkp
  cases hg : goodQ s
  · have HV := Lib.hid (show moOk s n R = false ∧ moL s n R = [] by unfold moL moOk; rw [hg]; exact ⟨rfl, rfl⟩)
    rw [hg] at HC
    clear hg
    go_enter Tryd.func21, Tryd.ntmps21
    go_wp2_with fail
    refine HC.out.mono ?_; rintro e w1 ⟨x, mo, rfl, hrd⟩
    have HB := Lib.hid hrd.1
    clear hrd HC
    go_wp2
    go_ret2
    rw [HV.out.1, HV.out.2]
    exact ⟨_, rfl, OI.nil _ _, HB.out.alloc HB.out.size _⟩
  · obtain ⟨o, ho⟩ := good_some hg
    obtain ⟨kk, hk⟩ : ∃ k, recsOk n R = k := ⟨_, rfl⟩
    have HV := Lib.hid (show moOk s n R = kk ∧ moL s n R = if kk then midL (mtch s) R n else [] by unfold moL moOk; rw [hg, hk]; exact ⟨rfl, rfl⟩)
    have HN := Lib.hid (fun (h : kk = true) => (recsOk_at (hk.trans h)).1)
    have HMT := Lib.hid (fun (R : Rc) sv x D w' ht hev => by
      have := C_matches R sv o.q x D w' ht (readQ_wf ho) hev
      rwa [← mtch_of ho] at this)
    have HO := Lib.hid ho
    have HK := Lib.hid hk
    obtain ⟨f, hf⟩ : ∃ f, mtch s = f := ⟨_, rfl⟩
    rw [hf] at HV HMT
    rw [hg] at HC
    clear hg ho hk hf
    go_enter Tryd.func21, Tryd.ntmps21
    go_wp2_with fail
    refine HC.out.mono ?_; rintro e w1 ⟨x, mo, rfl, hrd⟩
    have hb1 := hrd.1
    obtain ⟨W1, hW1⟩ : ∃ W, W = w1.alloc (.cells #[.int .u8 (x).c, .int .i64 (x).n, .slice (x).A (x).m (x).k] 62) := ⟨_, rfl⟩
    have bW : Below w1.heap.size w1 W1 := by rw [hW1]; exact (Below.refl _ _).alloc (Nat.le_refl _) _
    have QX : QBox W1 w1.heap.size x := by rw [hW1]; exact QBox.new w1 x
    have hzW : w1.heap.size < W1.heap.size := by rw [hW1]; simp
    have HT := Lib.hid ((hrd.2 o HO.out).2.below bW)
    have HW1 := Lib.hid hW1.symm
    have HQX := Lib.hid QX
    have HB1 := Lib.hid (bel_step0 bW hb1)
    clear hrd HC hb1 bW hW1 QX
    go_upto_region 2 with fail
    rw [HW1.out]
    go_wp2_with fail
    refine (C_AreRecords _ n R _ (HH.out.below HB1.out)).mono ?_; rintro e w2 ⟨rfl, hb2⟩
    have HB2 := Lib.hid (bel_step0 hb2 HB1.out)
    have HQ2 := Lib.hid (HQX.out.below hzW hb2)
    have HT2 := Lib.hid (HT.out.below hb2)
    have hz2 : w1.heap.size < w2.heap.size := Nat.lt_of_lt_of_le hzW hb2.size
    rw [HK.out]
    clear hb2
    cases kk
    · go_wp2
      go_ret2
      rw [HV.out.1, HV.out.2]
      exact ⟨_, rfl, OI.nil _ _, HB2.out⟩
    · have hn := HN.out (by trivial)
      clear HN HQX HT HW1
      go_wp2
      go_loopw [9, 27] (fun q i wr => ∃ k : Nat, k ≤ n ∧ i = .int .i64 k ∧ OI w2.heap.size wr q (midL f R k) ∧ Below w2.heap.size w2 wr) (fun _ i _ => n - (intOf i).toNat)
      case atStart => exact ⟨0, Nat.zero_le _, rfl, OI.nil _ _, Below.refl _ _⟩
      case round =>
        obtain ⟨k, hk, rfl, ho, hB⟩ := hrel
        have HO := Lib.hid ho; clear ho
        have HBB := Lib.hid hB
        have hbs := hB.size
        by_cases hlt : k < n
        · obtain ⟨b, off, rfl, hb, hcell⟩ := (HR.out.below (bel_step0 hB HB2.out)) (by omega)
          obtain ⟨sv, hsv, c0, c1, c2, c3⟩ := hcell k hlt
          obtain ⟨A1, k1, esv, _⟩ := id hsv
          subst esv
          have hll := midL_le f R k
          have hkn : (k : Int) < (n : Int) := by omega
          obtain ⟨W, hW⟩ : ∃ W, W = wr.alloc (.cells #[.int .i64 (R k).id, .int .i64 (R k).ser, .int .i64 (R k).made, .slice A1 (R k).n k1] 33) := ⟨_, rfl⟩
          have BW : Below wr.heap.size wr W := by rw [hW]; exact (Below.refl _ _).alloc (Nat.le_refl _) _
          have bx : Box W wr.heap.size (R k) (.slice A1 (R k).n k1) := by rw [hW]; exact ⟨cell_new _ _ _ _ _ rfl, cell_new _ _ _ _ _ rfl, cell_new _ _ _ _ _ rfl, cell_new _ _ _ _ _ rfl⟩
          have hzR : wr.heap.size < W.heap.size := by rw [hW]; simp
          have HBX := Lib.hid bx
          have HBW := Lib.hid BW
          have HSV := Lib.hid (hsv.below BW)
          have HWE := Lib.hid hW.symm
          have bqW := bel_step0 BW HBB.out
          obtain ⟨q0, q1, q2⟩ := HQ2.out.below hz2 bqW
          have HTW := Lib.hid (HT2.out.below bqW)
          have hM := (HMT.out (R k) (.slice A1 (R k).n k1) x _ W HTW.out HSV.out)
          obtain ⟨r0, r1, r2, r3⟩ := bx
          have HM := Lib.hid hM
          clear hcell hB hW BW bqW hM hsv
          cases hv : f (R k)
          · have HVV := Lib.hid hv
            go_upto_region 8 with fail
            rw [HWE.out]
            go_wp2_with fail
            refine HM.out.mono ?_; rintro e w3 ⟨rfl, hb3⟩
            rw [hv]
            clear q0 q1 q2 r0 r1 r2 r3
            go_wp2
            go_roundw
            case rel => exact ⟨k + 1, by omega, by go_num, by rw [midL_no HVV.out]; exact (HO.out.below HBW.out).below hb3, bel_step0 hb3 (bel_step0 HBW.out HBB.out)⟩
            case measure => simp [intOf]; omega
          · have HVV := Lib.hid hv
            go_upto_region 8 with fail
            rw [HWE.out]
            go_wp2_with fail
            refine HM.out.mono ?_; rintro e w3 ⟨rfl, hb3⟩
            rw [hv]
            have d0 := (HBX.out.below hzR hb3).1
            have HO3 := Lib.hid ((HO.out.below HBW.out).below hb3)
            have HB3 := Lib.hid (bel_step0 hb3 (bel_step0 HBW.out HBB.out))
            have hz3 := HB3.out.size
            clear q0 q1 q2 r0 r1 r2 r3 hb3
            go_wp2_with (at_builtin; refine wp_app1 _ rfl (.tmp 34) (.tmp 37) rfl w2.heap.size _ _ rfl (HO3.out.alloc _) w3.heap.size (R k).id rfl (by simp) (by omega) (by simp; omega) ?_; intro v4 w4 ho4 hb4; have HO4 := Lib.hid ho4; have HB4 := Lib.hid (Below.trans (HB3.out.alloc hz3 _) hb4); clear ho4 hb4)
            go_roundw
            case rel => exact ⟨k + 1, by omega, by go_num, by rw [midL_yes HVV.out]; exact HO4.out, HB4.out⟩
            case measure => simp [intOf]; omega
        · go_wp2
          go_ret2
          obtain rfl : k = n := by omega
          rw [HV.out.1, HV.out.2]
          exact ⟨_, rfl, OI.mono HB2.out.size HO.out, bel_step0 HBB.out HB2.out⟩
end Go.Proofs.YtjmfkenhnfdbjaaDoor
