/- The reference's factors; whether a text is a query. No condition but those stated. -/
import Derived.Test.YtjmfkenhnfdbjaaGreatDoorQyP
namespace Go.Proofs.YtjmfkenhnfdbjaaGreatDoor
set_option linter.unusedVariables false
set_option linter.unusedSimpArgs false
open Go.RowKit Go.Sort
theorem hit_yes {s : ByteArray} {a c : Nat} (h : hitB s a c = true) : ∃ h : a < s.size, s[a].toNat = c := by
  unfold hitB at h
  rw [Bool.and_eq_true, decide_eq_true_eq, decide_eq_true_eq] at h
  exact ⟨h.1, by rw [← bN_at h.1]; exact h.2⟩
theorem no_hit2 {s : ByteArray} {j c : Nat} (hlt : j < s.size) (h : hitB s j c = false) : ((s[j].toNat : Int) == (c : Int)) = false := by
  rcases no_hit (Nat.le_of_lt hlt) h with e | ⟨_, e⟩
  · omega
  · exact e
theorem no_hit3 {s : ByteArray} {j c : Nat} (hlt : ¬ j < s.size) : hitB s j c = false := by
  unfold hitB; rw [decide_eq_false hlt]; rfl
set_option maxHeartbeats 8000000 in
theorem C_l19Factor (R : Rc) (sv : Value) (s : ByteArray) (hs : s.size ≤ 1048576) : ∀ (K : Nat), ∀ a w, s.size < K + a → a ≤ s.size → EvS w sv R → Calls Tryz.prog 96 #[.string s, .int .i64 (a : Nat), .agg #[.int .i64 (R).id, .int .i64 (R).ser, .int .i64 (R).made, sv]] w fun e w' => ∃ x : YE, e = .returned (.tuple #[.bool x.y, .int .i64 x.e]) ∧ OutR (rqS R) (pFac s.size (bN s) (numA s) K a) x ∧ Below w.heap.size w w' := by
  intro K
  induction K with
  | zero => intro a w hK ha; omega
  | succ K ih =>
    intro a w hK ha h
    have HI := Lib.hid ih
    have HH := Lib.hid h
    clear ih h
    have B0 : Below w.heap.size w (w.alloc (.cells #[.int .i64 R.id, .int .i64 R.ser, .int .i64 R.made, sv] 26)) := (Below.refl _ _).alloc (Nat.le_refl _) _
    have HB0 := Lib.hid B0
    have HEV := Lib.hid (HH.out.below B0)
    clear B0
    have h1 : ((a + 1 : Nat) : Int) = (a : Int) + 1 := by omega
    have ha0 : (0 : Int) ≤ (a : Int) := by omega
    by_cases hlt : a < s.size
    · have hlt2 : (a : Int) < (s.size : Int) := by omega
      cases h33 : hitB s a 33
      · have e33 := no_hit2 hlt h33
        have H33 := Lib.hid h33
        clear h33
        cases h40 : hitB s a 40
        · have e40 := no_hit2 hlt h40
          have HP := Lib.hid (pFac_tst (num := numA s) (K := K) H33.out h40)
          clear h40
          go_enter Tryz.func96, Tryz.ntmps96
          go_wp2_with fail
          refine (C_l19Test R sv s hs a _ ha HEV.out).mono ?_; rintro e w1 ⟨x, rfl, ho, hb1⟩
          have HO := Lib.hid ho
          clear ho
          go_wp2
          go_ret2
          exact ⟨x, rfl, (by rw [HP.out]; exact HO.out), by (repeat (first | with_reducible exact Below.refl _ _ | with_reducible exact below_regrown _ _ _ | with_reducible refine bel_step0 (by assumption) ?_ | with_reducible refine bel_alloc0 ?_ _ | with_reducible refine bel_regrown0 ?_ _ _ | with_reducible refine bel_regrown ?_ (by first | omega | (simp; done) | (simp; omega)) _ _ | with_reducible refine below_drewN ?_ _ | with_reducible refine Below.drew ?_ | with_reducible refine Below.alloc ?_ (by first | omega | (simp; done) | (simp; omega)) _ | with_reducible refine Below.setCell ?_ (by first | omega | (simp; done) | (simp; omega)) _ | with_reducible refine bel_step (by assumption) (by first | omega | (simp; done) | (simp; omega)) ?_ | with_reducible refine bel_grown (by assumption) (by first | omega | (simp; done) | (simp; omega)) (by first | omega | (simp; done) | (simp; omega)) ?_))⟩
        · obtain ⟨_, hc⟩ := hit_yes h40
          have HP := Lib.hid (pFac_40 (num := numA s) (K := K) H33.out h40)
          have HC := Lib.hid (C_l19QueryP R sv s hs K (fun a w hK ha h => C_l19Term R sv s hs K HI.out a w hK ha h) (a + 1) _ (by omega) hlt HEV.out)
          rw [h1] at HC
          clear h40 e33 h1
          go_enter Tryz.func96, Tryz.ntmps96
          go_wp2_with fail
          refine HC.out.mono ?_; rintro e w1 ⟨x, rfl, ho, hb1⟩
          have HB1 := Lib.hid (show Below w.heap.size w w1 by (repeat (first | with_reducible exact Below.refl _ _ | with_reducible exact below_regrown _ _ _ | with_reducible refine bel_step0 (by assumption) ?_ | with_reducible refine bel_alloc0 ?_ _ | with_reducible refine bel_regrown0 ?_ _ _ | with_reducible refine bel_regrown ?_ (by first | omega | (simp; done) | (simp; omega)) _ _ | with_reducible refine below_drewN ?_ _ | with_reducible refine Below.drew ?_ | with_reducible refine Below.alloc ?_ (by first | omega | (simp; done) | (simp; omega)) _ | with_reducible refine Below.setCell ?_ (by first | omega | (simp; done) | (simp; omega)) _ | with_reducible refine bel_step (by assumption) (by first | omega | (simp; done) | (simp; omega)) ?_ | with_reducible refine bel_grown (by assumption) (by first | omega | (simp; done) | (simp; omega)) (by first | omega | (simp; done) | (simp; omega)) ?_)))
          have HO := Lib.hid ho
          have hp := HP.out
          clear hb1 HC
          obtain ⟨y, hy⟩ : ∃ b, x.y = b := ⟨_, rfl⟩
          obtain ⟨e, he⟩ : ∃ b, x.e = b := ⟨_, rfl⟩
          cases hq : pQue s.size (bN s) (numA s) K (a + 1) with
          | none =>
            rw [hq] at ho hp
            have HO := Lib.hid (outR_none (r := rqS R) (x := ⟨false, -1⟩) hp rfl)
            have hm : x.e = -1 := ho
            rw [he] at hm
            subst hm
            rw [hy, he]
            clear ho hp hy he
            go_wp2
            go_ret2
            exact ⟨⟨_, _⟩, rfl, HO.out, HB1.out⟩
          | some o =>
            rw [hq] at ho hp
            have hoe := pQue_end (numOk s) K (a + 1) o hlt hq
            have hm : x.e = (o.e : Int) := ho.2
            have HY := Lib.hid ho.1
            rw [hy] at HY
            rw [he] at hm
            subst hm
            rw [hy, he]
            obtain ⟨j, hj⟩ : ∃ j, o.e = j := ⟨_, rfl⟩
            rw [hj] at hoe
            simp only [hj] at hp
            rw [hj]
            have hj1 : ¬ ((j : Int) < 0) := by omega
            have hj0 : (0 : Int) ≤ (j : Int) := by omega
            clear ho hy he hj
            cases h41 : hitB s j 41
            · rw [h41] at hp
              have HO := Lib.hid (outR_none (r := rqS R) (x := ⟨false, -1⟩) hp rfl)
              rcases no_hit hoe.2 h41 with rfl | ⟨hl, e41⟩
              · clear hp
                go_wp2
                go_ret2
                exact ⟨⟨_, _⟩, rfl, HO.out, HB1.out⟩
              · have hl2 : (j : Int) < (s.size : Int) := by omega
                have e42 : ¬ s[j].toNat = 41 := by rw [beq_eq_false_iff_ne] at e41; omega
                have e43 : ((s[j].toNat : Int) == 41) = false := by rw [beq_eq_false_iff_ne]; omega
                have e44 : ((s[j].toNat : Int) != 41) = true := by unfold bne; rw [e43]; rfl
                clear hp e41
                go_wp2
                go_ret2
                exact ⟨⟨_, _⟩, rfl, HO.out, HB1.out⟩
            · rw [h41] at hp
              obtain ⟨hl, hc41⟩ := hit_yes h41
              have hl2 : (j : Int) < (s.size : Int) := by omega
              have HO := Lib.hid (outR_some (r := rqS R) (x := ⟨y, (j : Int) + 1⟩) hp HY.out (by simp only; omega))
              clear hp h41
              go_wp2
              go_ret2
              exact ⟨⟨_, _⟩, rfl, HO.out, HB1.out⟩
      · obtain ⟨_, hc⟩ := hit_yes h33
        have HP := Lib.hid (pFac_33 (num := numA s) (K := K) h33)
        have HC := Lib.hid (HI.out (a + 1) _ (by omega) hlt HEV.out)
        rw [h1] at HC
        clear h33 h1
        go_enter Tryz.func96, Tryz.ntmps96
        go_wp2_with fail
        refine HC.out.mono ?_; rintro e w1 ⟨x, rfl, ho, hb1⟩
        have HO := Lib.hid (show OutR (rqS R) (pFac s.size (bN s) (numA s) (K + 1) a) ⟨!x.y, x.e⟩ by
          rw [HP.out]
          cases hq : pFac s.size (bN s) (numA s) K (a + 1) with
          | none => rw [hq] at ho; exact ho
          | some o =>
            rw [hq] at ho
            refine ⟨?_, ho.2⟩
            show (!x.y) = !(o.q.eval (rqS R))
            rw [ho.1])
        clear ho
        go_wp2
        go_ret2
        exact ⟨⟨_, _⟩, rfl, HO.out, by (repeat (first | with_reducible exact Below.refl _ _ | with_reducible exact below_regrown _ _ _ | with_reducible refine bel_step0 (by assumption) ?_ | with_reducible refine bel_alloc0 ?_ _ | with_reducible refine bel_regrown0 ?_ _ _ | with_reducible refine bel_regrown ?_ (by first | omega | (simp; done) | (simp; omega)) _ _ | with_reducible refine below_drewN ?_ _ | with_reducible refine Below.drew ?_ | with_reducible refine Below.alloc ?_ (by first | omega | (simp; done) | (simp; omega)) _ | with_reducible refine Below.setCell ?_ (by first | omega | (simp; done) | (simp; omega)) _ | with_reducible refine bel_step (by assumption) (by first | omega | (simp; done) | (simp; omega)) ?_ | with_reducible refine bel_grown (by assumption) (by first | omega | (simp; done) | (simp; omega)) (by first | omega | (simp; done) | (simp; omega)) ?_))⟩
    · have hlt2 : ¬ (a : Int) < (s.size : Int) := by omega
      have HP := Lib.hid (pFac_tst (num := numA s) (K := K) (no_hit3 hlt) (no_hit3 hlt))
      go_enter Tryz.func96, Tryz.ntmps96
      go_wp2_with fail
      refine (C_l19Test R sv s hs a _ ha HEV.out).mono ?_; rintro e w1 ⟨x, rfl, ho, hb1⟩
      have HO := Lib.hid ho
      clear ho
      go_wp2
      go_ret2
      exact ⟨x, rfl, (by rw [HP.out]; exact HO.out), by (repeat (first | with_reducible exact Below.refl _ _ | with_reducible exact below_regrown _ _ _ | with_reducible refine bel_step0 (by assumption) ?_ | with_reducible refine bel_alloc0 ?_ _ | with_reducible refine bel_regrown0 ?_ _ _ | with_reducible refine bel_regrown ?_ (by first | omega | (simp; done) | (simp; omega)) _ _ | with_reducible refine below_drewN ?_ _ | with_reducible refine Below.drew ?_ | with_reducible refine Below.alloc ?_ (by first | omega | (simp; done) | (simp; omega)) _ | with_reducible refine Below.setCell ?_ (by first | omega | (simp; done) | (simp; omega)) _ | with_reducible refine bel_step (by assumption) (by first | omega | (simp; done) | (simp; omega)) ?_ | with_reducible refine bel_grown (by assumption) (by first | omega | (simp; done) | (simp; omega)) (by first | omega | (simp; done) | (simp; omega)) ?_))⟩
theorem C_l19Query (R : Rc) (sv : Value) (s : ByteArray) (hs : s.size ≤ 1048576) (w : World) (h : EvS w sv R) :
    Calls Tryz.prog 73 #[.string s, .int .i64 0, .agg #[.int .i64 (R).id, .int .i64 (R).ser, .int .i64 (R).made, sv]] w fun e w' => ∃ x : YE, e = .returned (.tuple #[.bool x.y, .int .i64 x.e]) ∧ OutR (rqS R) (pQue s.size (bN s) (numA s) (s.size + 1) 0) x ∧ Below w.heap.size w w' :=
  C_l19QueryP R sv s hs (s.size + 1) (fun a w hK ha h => C_l19Term R sv s hs (s.size + 1) (C_l19Factor R sv s hs (s.size + 1)) a w hK ha h) 0 w (by omega) (Nat.zero_le _) h
theorem C_l19Good (s : ByteArray) (hs : s.size ≤ 1048576) (w : World) :
    Calls Tryz.prog 38 #[.string s] w fun e w' => e = .returned (.bool (goodQ s)) ∧ Below w.heap.size w w' := by
  have HC := Lib.hid (fun w => C_l19Query noRec (.slice none 0 0) s hs w (evs_none w))
  obtain ⟨G, hG⟩ : ∃ G, goodQ s = G := ⟨_, rfl⟩
  rw [hG]
  have HG := Lib.hid hG
  clear hG
  cases hw : within (s.size : Int) 1 60
  · have HNO := Lib.hid (show goodQ s = false by unfold goodQ readQ; rw [hw]; rfl)
    go_enter Tryz.func38, Tryz.ntmps38
    go_wp2_with fail
    refine (C_l1In _ _ _ _).mono ?_; rintro e w' ⟨rfl, rfl⟩
    rw [hw]
    go_wp2
    go_ret
    rw [← HG.out, HNO.out]
    exact ⟨rfl, Below.refl _ _⟩
  · have HW := Lib.hid hw
    go_enter Tryz.func38, Tryz.ntmps38
    go_wp2_with fail
    refine (C_l1In _ _ _ _).mono ?_; rintro e w' ⟨rfl, rfl⟩
    rw [hw]
    clear hw
    go_wp2_with fail
    refine (HC.out _).mono ?_; rintro e w1 ⟨x, rfl, ho, hb1⟩
    have HGD := Lib.hid (good_of HW.out (ok := (x.e == (s.size : Int))) (fun o hq => by
      rw [hq] at ho
      rw [show x.e = o.e from ho.2]
      by_cases h : o.e = s.size
      · rw [decide_eq_true h, h, beq_self_eq_true]
      · rw [decide_eq_false h, beq_eq_false_iff_ne]; omega) (fun hq => by
      rw [hq] at ho
      rw [show x.e = -1 from ho, beq_eq_false_iff_ne]; omega))
    clear ho
    go_wp2
    go_ret
    rw [← HG.out, HGD.out]
    exact ⟨rfl, hb1⟩
end Go.Proofs.YtjmfkenhnfdbjaaGreatDoor
