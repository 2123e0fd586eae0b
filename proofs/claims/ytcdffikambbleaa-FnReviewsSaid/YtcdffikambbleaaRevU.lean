/- Deciders: the reference. No condition but those stated. -/
import Derived.Test.YtcdffikambbleaaRevT
namespace Go.Proofs.Ytcdffikambbleaa
set_option linter.unusedVariables false
set_option linter.unusedSimpArgs false
open Go.RowKit Go.Sort
theorem inR_no {x : Rv} {m : Nat} (h : decB x m = false) : inR x (m + 1) = inR x m := by
  show inR x m ++ (if decB x m then [[x.rid, (m : Int)]] else []) = _
  rw [h]; exact List.append_nil _
theorem inR_yes {x : Rv} {m : Nat} (h : decB x m = true) : inR x (m + 1) = inR x m ++ [[x.rid, (m : Int)]] := by
  show inR x m ++ (if decB x m then [[x.rid, (m : Int)]] else []) = _
  rw [h]; rfl
theorem C_DecidersS (v : Value) (n : Nat) (R : Nat → Rv) (w : World) (h : RRs w v n R) :
    Calls Try.prog 46 #[v] w fun e w' => ∃ v', e = .returned (.tuple #[v', .bool (okRs n R)]) ∧ OSS w.heap.size w' v' (if okRs n R then (outR R n).length else 0) (at_ (outR R n)) ∧ Below w.heap.size w w' := by
  have hv := h
  obtain ⟨A, cap, rfl, hr, hc, hm⟩ := h
  have HV := Lib.hid hv; clear hv
  have HR := Lib.hid hr; clear hr
  cases hok : okRs n R
  · simp only [Bool.false_eq_true, if_false]
    go_enter Try.func46, Try.ntmps46
    go_wp2_with (go_at_call 77; refine (C_l23Good _ _ _ _ (HV.out.below (by (repeat (first | with_reducible exact Below.refl _ _ | with_reducible exact below_regrown _ _ _ | with_reducible refine bel_step0 (by assumption) ?_ | with_reducible refine bel_alloc0 ?_ _ | with_reducible refine bel_regrown0 ?_ _ _ | with_reducible refine bel_regrown ?_ (by first | omega | (simp; done) | (simp; omega)) _ _ | with_reducible refine below_drewN ?_ _ | with_reducible refine Below.drew ?_ | with_reducible refine Below.alloc ?_ (by first | omega | (simp; done) | (simp; omega)) _ | with_reducible refine Below.setCell ?_ (by first | omega | (simp; done) | (simp; omega)) _ | with_reducible refine bel_step (by assumption) (by first | omega | (simp; done) | (simp; omega)) ?_ | with_reducible refine bel_grown (by assumption) (by first | omega | (simp; done) | (simp; omega)) (by first | omega | (simp; done) | (simp; omega)) ?_))))).mono ?_; rintro e w1 ⟨rfl, hb1⟩; simp only [hok])
    go_ret2
    exact ⟨_, rfl, (OSS.empty (Nat.le_refl _) _).below hb1, by (repeat (first | with_reducible exact Below.refl _ _ | with_reducible exact below_regrown _ _ _ | with_reducible refine bel_step0 (by assumption) ?_ | with_reducible refine bel_alloc0 ?_ _ | with_reducible refine bel_regrown0 ?_ _ _ | with_reducible refine bel_regrown ?_ (by first | omega | (simp; done) | (simp; omega)) _ _ | with_reducible refine below_drewN ?_ _ | with_reducible refine Below.drew ?_ | with_reducible refine Below.alloc ?_ (by first | omega | (simp; done) | (simp; omega)) _ | with_reducible refine Below.setCell ?_ (by first | omega | (simp; done) | (simp; omega)) _ | with_reducible refine bel_step (by assumption) (by first | omega | (simp; done) | (simp; omega)) ?_ | with_reducible refine bel_grown (by assumption) (by first | omega | (simp; done) | (simp; omega)) (by first | omega | (simp; done) | (simp; omega)) ?_))⟩
  have hn := okRs_le hok
  have hj := okRs_votes hok
  have HLE := Lib.hid (outR_le hj)
  have HJ := Lib.hid hj; clear hj
  simp only [if_true]
  go_enter Try.func46, Try.ntmps46
  go_wp2_with (go_at_call 77; refine (C_l23Good _ _ _ _ (HV.out.below (by (repeat (first | with_reducible exact Below.refl _ _ | with_reducible exact below_regrown _ _ _ | with_reducible refine bel_step0 (by assumption) ?_ | with_reducible refine bel_alloc0 ?_ _ | with_reducible refine bel_regrown0 ?_ _ _ | with_reducible refine bel_regrown ?_ (by first | omega | (simp; done) | (simp; omega)) _ _ | with_reducible refine below_drewN ?_ _ | with_reducible refine Below.drew ?_ | with_reducible refine Below.alloc ?_ (by first | omega | (simp; done) | (simp; omega)) _ | with_reducible refine Below.setCell ?_ (by first | omega | (simp; done) | (simp; omega)) _ | with_reducible refine bel_step (by assumption) (by first | omega | (simp; done) | (simp; omega)) ?_ | with_reducible refine bel_grown (by assumption) (by first | omega | (simp; done) | (simp; omega)) (by first | omega | (simp; done) | (simp; omega)) ?_))))).mono ?_; rintro e w1 ⟨rfl, hb1⟩; simp only [hok])
  have HB1 := Lib.hid (show Below w.heap.size w w1 by (repeat (first | with_reducible exact Below.refl _ _ | with_reducible exact below_regrown _ _ _ | with_reducible refine bel_step0 (by assumption) ?_ | with_reducible refine bel_alloc0 ?_ _ | with_reducible refine bel_regrown0 ?_ _ _ | with_reducible refine bel_regrown ?_ (by first | omega | (simp; done) | (simp; omega)) _ _ | with_reducible refine below_drewN ?_ _ | with_reducible refine Below.drew ?_ | with_reducible refine Below.alloc ?_ (by first | omega | (simp; done) | (simp; omega)) _ | with_reducible refine Below.setCell ?_ (by first | omega | (simp; done) | (simp; omega)) _ | with_reducible refine bel_step (by assumption) (by first | omega | (simp; done) | (simp; omega)) ?_ | with_reducible refine bel_grown (by assumption) (by first | omega | (simp; done) | (simp; omega)) (by first | omega | (simp; done) | (simp; omega)) ?_)))
  clear hok
  have HO1 := Lib.hid (show OSS w.heap.size w1 (.slice (some ⟨w.heap.size, 0, none⟩) 0 0) 0 (at_ []) from (OSS.empty (Nat.le_refl _) _).below hb1)
  clear hb1
  go_loopw [4, 5] (fun q i wr => ∃ k : Nat, k ≤ n ∧ i = .int .i64 k ∧ OSS w.heap.size wr q (outR R k).length (at_ (outR R k)) ∧ Below w.heap.size w wr) (fun _ i _ => n - (intOf i).toNat)
  case atStart => exact ⟨0, Nat.zero_le _, rfl, HO1.out, HB1.out⟩
  case round =>
    obtain ⟨k, hk, rfl, ho, hB⟩ := hrel
    clear HO1 HB1
    by_cases hlt : k < n
    · obtain ⟨b, off, rfl, hb, hcell⟩ := HR.out (by omega)
      obtain ⟨sv, hsv, hck0, hck1, hck2⟩ := hcell k hlt; have hsv0 := hsv; obtain ⟨A1, c1, rfl, hsr1, hsc1, hsm1⟩ := hsv0; clear hsr1
      clear hcell
      have hjk := HJ.out k hlt
      obtain ⟨L, hL⟩ : ∃ L, (R k).n = L := ⟨_, rfl⟩
      rw [hL] at hck2 hsv hsc1 hjk
      have G2 : ∀ W, Below w.heap.size w W → W.cell? ⟨b, off + k * 3 + 2, none⟩ = some (.slice A1 L c1) := fun W hW => (hW.cell (p := ⟨b, off + k * 3 + 2, none⟩) hb).trans hck2
      have G0 : ∀ W, Below w.heap.size w W → W.cell? ⟨b, off + k * 3, none⟩ = some (.int .i64 (R k).rid) := fun W hW => (hW.cell (p := ⟨b, off + k * 3, none⟩) hb).trans hck0
      have G2 := Lib.hid G2
      have G0 := Lib.hid G0
      have HSV := Lib.hid hsv
      have HL := Lib.hid hL
      have HB := Lib.hid hB
      have HO := Lib.hid ho
      have g2 := G2.out wr hB
      have hkn : (k : Int) < (n : Int) := by omega
      clear hck0 hck1 hck2 hsv hL hB ho
      go_wp2
      obtain ⟨wo, hwo⟩ : ∃ wo : World, wo = wr := ⟨_, rfl⟩
      have HWO := Lib.hid hwo
      clear hwo g2
      go_loopw [4, 7] (fun q i wi => ∃ m : Nat, m ≤ L ∧ i = .int .i64 m ∧ OSS w.heap.size wi q (outR R k ++ inR (R k) m).length (at_ (outR R k ++ inR (R k) m)) ∧ Below w.heap.size w wi) (fun _ i _ => L - (intOf i).toNat)
      case atStart => exact ⟨0, Nat.zero_le _, rfl, by simpa [inR] using HO.out, HB.out⟩
      case round =>
        clear HO HB HWO
        obtain ⟨m, hm2, rfl, ho, hB⟩ := hrel
        by_cases hlm : m < L
        · have hm0 : (0 : Int) ≤ (m : Int) := by omega
          have hm1 : (m : Int) < (L : Int) := by omega
          have hm3 : (m : Int) + 1 ≤ (L : Int) := by omega
          have hm4 : (L : Int) ≤ (c1 : Int) := by omega
          have hm5 : (m : Int) ≤ (c1 : Int) := by omega
          have hm6 : (0 : Int) ≤ (m : Int) + 1 := by omega
          have hm7 : IntKind.i64.wrap ((m : Int) + 1) = (m : Int) + 1 := by rw [IntKind.wrap_i64]; omega
          have hm8 : ((m : Int) + 1).toNat = m + 1 := by omega
          obtain ⟨A1', c1', e1, hRI, _, _⟩ := HSV.out
          obtain ⟨b1, off1, e2, hb1, hcell1⟩ := hRI (by omega)
          injection e1 with e1 _ e3
          subst e1 e3
          subst e2
          have hwl := hB.size
          have HSI := Lib.hid (show SI wr (.slice (some ⟨b1, off1, none⟩) L c1) L (R k).f from HSV.out.below hB)
          have ht := HSI.out.tailIf (k := m + 1) (by omega)
          have hvd := verdict_drop L m (R k).f hlm
          obtain ⟨V6, hV6⟩ : ∃ V, verdict L (R k).f = V := ⟨_, rfl⟩
          obtain ⟨V8, hV8⟩ : ∃ V, verdict (L - 1) (dropAt (R k).f m) = V := ⟨_, rfl⟩
          rw [hV8] at hvd
          have hdec : decB (R k) m = (V8 != V6) := by unfold decB; rw [HL.out, hV6, hV8]
          have HV6 := Lib.hid hV6
          have HVD := Lib.hid hvd
          have HDEC := Lib.hid hdec
          have HOB := Lib.hid (And.intro ho hB)
          clear hRI hcell1 hV6 hV8 hvd hdec ho
          go_upto_region 11 with fail
          obtain ⟨A2, hA2⟩ : ∃ A2, (if c1 = m + 1 then (some ⟨b1, off1, none⟩ : Option Addr) else some ⟨b1, off1 + (m + 1), none⟩) = A2 := ⟨_, rfl⟩
          rw [hA2] at ht
          have HT := Lib.hid ht
          clear ht
          go_region_held3 (fun W => Below wr.heap.size wr W) (((repeat (first | with_reducible exact Below.refl _ _ | with_reducible exact below_regrown _ _ _ | with_reducible refine bel_step0 (by assumption) ?_ | with_reducible refine bel_alloc0 ?_ _ | with_reducible refine bel_regrown0 ?_ _ _ | with_reducible refine bel_regrown ?_ (by first | omega | (simp; done) | (simp; omega)) _ _ | with_reducible refine below_drewN ?_ _ | with_reducible refine Below.drew ?_ | with_reducible refine Below.alloc ?_ (by first | omega | (simp; done) | (simp; omega)) _ | with_reducible refine Below.setCell ?_ (by first | omega | (simp; done) | (simp; omega)) _ | with_reducible refine bel_step (by assumption) (by first | omega | (simp; done) | (simp; omega)) ?_ | with_reducible refine bel_grown (by assumption) (by first | omega | (simp; done) | (simp; omega)) (by first | omega | (simp; done) | (simp; omega)) ?_)))) (first | (go_at_call 92; refine (C_l1OwnAt wr _ _ _ _ (HSI.out.cut (k := m) (by omega)) (by (repeat (first | with_reducible exact Below.refl _ _ | with_reducible exact below_regrown _ _ _ | with_reducible refine bel_step0 (by assumption) ?_ | with_reducible refine bel_alloc0 ?_ _ | with_reducible refine bel_regrown0 ?_ _ _ | with_reducible refine bel_regrown ?_ (by first | omega | (simp; done) | (simp; omega)) _ _ | with_reducible refine below_drewN ?_ _ | with_reducible refine Below.drew ?_ | with_reducible refine Below.alloc ?_ (by first | omega | (simp; done) | (simp; omega)) _ | with_reducible refine Below.setCell ?_ (by first | omega | (simp; done) | (simp; omega)) _ | with_reducible refine bel_step (by assumption) (by first | omega | (simp; done) | (simp; omega)) ?_ | with_reducible refine bel_grown (by assumption) (by first | omega | (simp; done) | (simp; omega)) (by first | omega | (simp; done) | (simp; omega)) ?_))) (by omega)).mono ?_; rintro e w' ⟨v1, rfl, ho1, hb1'⟩) | ((have hq := ho1; refine step_appN _ (by rfl) (.tmp 34) (.tmp 38) (by rfl) wr _ _ (by rfl) ho1 (by (repeat (first | with_reducible exact Below.refl _ _ | with_reducible exact below_regrown _ _ _ | with_reducible refine bel_step0 (by assumption) ?_ | with_reducible refine bel_alloc0 ?_ _ | with_reducible refine bel_regrown0 ?_ _ _ | with_reducible refine bel_regrown ?_ (by first | omega | (simp; done) | (simp; omega)) _ _ | with_reducible refine below_drewN ?_ _ | with_reducible refine Below.drew ?_ | with_reducible refine Below.alloc ?_ (by first | omega | (simp; done) | (simp; omega)) _ | with_reducible refine Below.setCell ?_ (by first | omega | (simp; done) | (simp; omega)) _ | with_reducible refine bel_step (by assumption) (by first | omega | (simp; done) | (simp; omega)) ?_ | with_reducible refine bel_grown (by assumption) (by first | omega | (simp; done) | (simp; omega)) (by first | omega | (simp; done) | (simp; omega)) ?_))) _ _ _ _ (by rfl) (HT.out.below (by (repeat (first | with_reducible exact Below.refl _ _ | with_reducible exact below_regrown _ _ _ | with_reducible refine bel_step0 (by assumption) ?_ | with_reducible refine bel_alloc0 ?_ _ | with_reducible refine bel_regrown0 ?_ _ _ | with_reducible refine bel_regrown ?_ (by first | omega | (simp; done) | (simp; omega)) _ _ | with_reducible refine below_drewN ?_ _ | with_reducible refine Below.drew ?_ | with_reducible refine Below.alloc ?_ (by first | omega | (simp; done) | (simp; omega)) _ | with_reducible refine Below.setCell ?_ (by first | omega | (simp; done) | (simp; omega)) _ | with_reducible refine bel_step (by assumption) (by first | omega | (simp; done) | (simp; omega)) ?_ | with_reducible refine bel_grown (by assumption) (by first | omega | (simp; done) | (simp; omega)) (by first | omega | (simp; done) | (simp; omega)) ?_)))) (by rw [lst_length]; omega) ?_; intro v2 w2 ho2 hb2)))
          have hBW : Below w.heap.size w w2 := bel_step0 hb2 HOB.out.2
          have C8 : Calls Try.prog 78 #[v2] w2 fun e w' => e = .returned (.int .i64 V8) ∧ w2 = w' := (C_l23Verdict _ _ _ _ ho2.wi.si).mono fun e w' hh => ⟨hh.1.trans (by rw [HVD.out]), hh.2⟩
          have C6 : Calls Try.prog 78 #[.slice (some ⟨b1, off1, none⟩) L c1] w2 fun e w' => e = .returned (.int .i64 V6) ∧ w2 = w' := (C_l23Verdict _ _ _ _ (HSV.out.below hBW)).mono fun e w' hh => ⟨hh.1.trans (by rw [HV6.out]), hh.2⟩
          have g0 := G0.out w2 hBW
          have hos := HOB.out.1.below hb2
          have hle := HLE.out k (by omega)
          have hle2 := inR_le (R k) m
          have hlen : (outR R k ++ inR (R k) m).length ≤ 1048576 := by rw [List.length_append]; omega
          have hbs := hBW.size
          have HOS := Lib.hid hos
          have HBW := Lib.hid hBW
          have HLEN := Lib.hid hlen
          clear ho1 hb1' ho2 hb2 hos hle hle2 hBW hlen hA2
          by_cases hd : V8 = V6
          · subst hd
            have hdec := HDEC.out
            simp only [bne_self_eq_false] at hdec
            have HDEC := Lib.hid hdec
            clear hdec
            go_wp2_with (first | (go_at_call 78; with_reducible refine C8.mono ?_; rintro e w' ⟨rfl, rfl⟩) | (go_at_call 78; with_reducible refine C6.mono ?_; rintro e w' ⟨rfl, rfl⟩))
            go_roundw
            case rel => exact ⟨m + 1, by omega, by go_num, by rw [inR_no HDEC.out]; exact HOS.out, HBW.out⟩
            case measure => simp [intOf]; omega
          · have hdec : decB (R k) m = true := by rw [HDEC.out]; simp [hd]
            have HDEC := Lib.hid hdec
            clear hdec
            go_wp2_with (first | (go_at_call 78; with_reducible refine C8.mono ?_; rintro e w' ⟨rfl, rfl⟩) | (go_at_call 78; with_reducible refine C6.mono ?_; rintro e w' ⟨rfl, rfl⟩) | (at_builtin; refine wp_appRow w2 rfl (.tmp 45) (.tmp 53) rfl w.heap.size _ _ _ _ _ rfl HOS.out rfl HLEN.out hbs ?_; intro v4 w4 ho4 hb4 _ _))
            go_roundw
            case rel =>
              have hos := ho4.congr (snoc_at _ _)
              refine ⟨m + 1, by omega, by go_num, ?_, ?_⟩
              · have e : outR R k ++ inR (R k) (m + 1) = (outR R k ++ inR (R k) m) ++ [[(R k).rid, (m : Int)]] := by rw [inR_yes HDEC.out, List.append_assoc]
                rw [e, List.length_append]; exact hos
              · exact ((HBW.out.alloc (by simpa using hbs) _).alloc (by simp; omega) _).trans hb4
            case measure => simp [intOf]; omega
        · obtain rfl : m = L := by omega
          go_wp2
          go_roundw
          case rel => exact ⟨k + 1, by omega, by go_num, by simpa [outR, HL.out] using ho, hB⟩
          case measure => simp [intOf]; omega
    · go_wp2
      go_ret2
      obtain rfl : k = n := by omega
      exact ⟨_, rfl, ho, hB⟩
end Go.Proofs.Ytcdffikambbleaa
