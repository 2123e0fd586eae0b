/- Sorting late reviews: the library's insertion sort, walked. No condition but those stated. -/
import Derived.Test.YtcdffikambbleaaRvEA
namespace Go.Proofs.Ytcdffikambbleaa
set_option linter.unusedVariables false
set_option linter.unusedSimpArgs false
open Go.RowKit Go.Sort
theorem grown_below {w w1 w2 : World} {g : Nat} (h : w.grownBy w1 (some g)) (hb : Below w1.heap.size w1 w2) : w.grownBy w2 (some g) :=
  ⟨hb.os.trans h.os, hb.tape.trans h.tape, hb.output.trans h.output, Nat.le_trans h.size hb.size, fun k hk hn => (hb.block k (Nat.lt_of_lt_of_le hk h.size)).trans (h.block k hk hn)⟩
theorem grown_set {w w1 : World} {g : Nat} (h : w.grownBy w1 (some g)) (i : Nat) (u : Value) : w.grownBy (w1.setCell ⟨g, i, none⟩ u) (some g) := only_setCell h (.inl rfl) u
theorem OE.drew {base : Nat} {w : World} {v : Value} {l : List El} (h : OE base w v l) : OE base w.drew v l := h
theorem OE.cap {base : Nat} {w : World} {A : Option Addr} {n cap : Nat} {l : List El} (h : OE base w (.slice A n cap) l) : l.length ≤ cap ∧ cap ≤ 9223372036854775807 := by
  obtain ⟨A', c', e, h1, h2, _⟩ := own3.form h
  injection e with e1 e2 e3
  rw [e3]
  exact ⟨h1, h2⟩
theorem srt_one (l : List El) : srtE ltE (l.take 1) = l.take 1 := by
  cases l with
  | nil => rfl
  | cons x r => rfl
set_option maxRecDepth 100000 in
set_option maxHeartbeats 4000000 in
theorem C_insSort (base g cap : Nat) (l : List El) (w : World) (h : OE base w (.slice (some ⟨g, 0, none⟩) l.length cap) l) (hn : l.length ≤ 1048576) :
    Calls Try.prog 119 #[.slice (some ⟨g, 0, none⟩) l.length cap, .int .i64 0, .int .i64 l.length, .func (.func 102) #[] #[]] w fun e w' =>
      e = .returned (.tuple #[]) ∧ OE base w' (.slice (some ⟨g, 0, none⟩) l.length cap) (srtE ltE l) ∧ w.grownBy w' (some g) := by
  obtain ⟨n, hln⟩ : ∃ n, l.length = n := ⟨_, rfl⟩
  obtain ⟨hcap, hcm⟩ := OE.cap h
  rw [hln] at hcap
  have HH := Lib.hid h
  rw [hln] at HH hn ⊢
  have HLN := Lib.hid hln
  clear h hln
  go_enter Try.func119, Try.ntmps119
  go_wp2
  go_loopw [8] (fun i wr => ∃ k : Nat, 1 ≤ k ∧ i = .int .i64 k ∧ k ≤ n + 1 ∧ OE base wr (.slice (some ⟨g, 0, none⟩) n cap) (srtE ltE (l.take k) ++ l.drop k) ∧ w.grownBy wr (some g)) (fun i _ => n + 1 - (intOf i).toNat)
  case atStart => exact ⟨1, by omega, rfl, by omega, by rw [srt_one, List.take_append_drop]; exact HH.out, World.grownBy.refl _ _⟩
  case round =>
    obtain ⟨k, hk1, rfl, hkn, ho, hg⟩ := hrel
    by_cases hlt : k < n
    · obtain ⟨p, hp⟩ : ∃ p, srtE ltE (l.take k) = p := ⟨_, rfl⟩
      obtain ⟨x, hx⟩ : ∃ x, atE l k = x := ⟨_, rfl⟩
      obtain ⟨rest, hrest⟩ : ∃ r, l.drop (k + 1) = r := ⟨_, rfl⟩
      have hkl : k < l.length := by rw [HLN.out]; exact hlt
      have hpl : p.length = k := by rw [← hp, srtE_len, List.length_take]; omega
      have hrl : rest.length = n - (k + 1) := by rw [← hrest, List.length_drop, HLN.out]
      have hnext : srtE ltE (l.take (k + 1)) = insAt p (posE ltE p x k) x := by
        rw [take_snocE hkl, srtE_snoc, hp, hx, insE, hpl]
      have hstart : srtE ltE (l.take k) ++ l.drop k = insAt p k x ++ rest := by
        rw [hp, drop_consE hkl, hx, hrest, ← hpl, insAt_all]; simp
      rw [hstart] at ho
      have HNEXT := Lib.hid (And.intro hnext hrest)
      have HO := Lib.hid ho
      have HG := Lib.hid hg
      have HPL := Lib.hid hpl
      clear hp hx hrest hnext hstart ho hg hkl
      go_wp2
      go_loopw [9] (fun i wi => ∃ j : Nat, i = .int .i64 j ∧ j ≤ k ∧ OE base wi (.slice (some ⟨g, 0, none⟩) n cap) (insAt p j x ++ rest) ∧ posE ltE p x k = posE ltE p x j ∧ w.grownBy wi (some g)) (fun i _ => (intOf i).toNat)
      case atStart => exact ⟨k, rfl, Nat.le_refl _, HO.out, rfl, HG.out⟩
      case round =>
        clear HO HG
        obtain ⟨j, rfl, hjk, ho, hpos, hg⟩ := hrel
        have HG := Lib.hid hg
        have HO := Lib.hid ho
        have hml : (insAt p j x ++ rest).length = n := by rw [List.length_append, insAt_len, HPL.out, hrl]; omega
        rcases j with _ | q
        · have HP := Lib.hid (show posE ltE p x k = 0 from hpos)
          clear hpos ho hg hml
          go_wp2
          (refine wp_region_quiet_below (by kernel_rfl) (by kernel_rfl) ?_; (repeat (go_big_quiet_step (fail))); refine wpQuiet_nil ?_; intro _ hw'; obtain ⟨⟨dq, osq⟩, hw''⟩ := hw'; subst hw'')
          go_wp2
          go_roundw
          case rel => exact ⟨k + 1, by omega, by go_num, by omega, by rw [HNEXT.out.1, HNEXT.out.2, HP.out]; exact HO.out.below (below_regrown _ _ _), grown_below HG.out (below_regrown _ _ _)⟩
          case measure => simp [intOf]; omega
        · have a1 : atE (insAt p (q + 1) x ++ rest) q = atE p q := by rw [atE_app_left (by rw [insAt_len, HPL.out]; omega), insAt_before (by omega) (by rw [HPL.out]; omega)]
          have a2 : atE (insAt p (q + 1) x ++ rest) (q + 1) = x := by rw [atE_app_left (by rw [insAt_len, HPL.out]; omega), insAt_here (by rw [HPL.out]; omega)]
          obtain ⟨c0, c1, c2⟩ := OE.cells ho (j := q) (by rw [hml]; omega)
          obtain ⟨d0, d1, d2⟩ := OE.cells ho (j := q + 1) (by rw [hml]; omega)
          rw [a1] at c0 c1 c2
          rw [a2] at d0 d1 d2
          obtain ⟨y, hy⟩ : ∃ y, atE p q = y := ⟨_, rfl⟩
          rw [hy] at c0 c1 c2
          have hq0 : (0 : Int) ≤ (q : Int) := by omega
          have hq1 : (q : Int) < (n : Int) := by omega
          have hq2 : (q : Int) + 1 < (n : Int) := by omega
          have HC := Lib.hid (And.intro c0 (And.intro c1 (And.intro c2 (And.intro d0 (And.intro d1 d2)))))
          have g0 := cell_regrown c0; have g1 := cell_regrown c1; have g2 := cell_regrown c2
          have k0 := cell_regrown d0; have k1 := cell_regrown d1; have k2 := cell_regrown d2
          obtain ⟨b, hb⟩ : ∃ b, ltE x y = b := ⟨_, rfl⟩
          have HB := Lib.hid hb
          have HE : ∀ d os, Calls Try.prog 102 #[.agg #[.int .i64 (x).rid, .int .i64 (x).due, .slice (x).A (x).n (x).c], .agg #[.int .i64 (y).rid, .int .i64 (y).due, .slice (y).A (y).n (y).c]] (grow (redrawn wr d) os) fun e w'' => e = .returned (.int .i64 (cmpI x.due y.due)) ∧ ∃ p : Regrown, w'' = grow (redrawn wr p.d) p.os :=
            fun d os => Calls.regrown_of (C_Late1 x y _)
          have hcl : decide (cmpI x.due y.due < 0) = b := by rw [cmpI_lt]; exact hb
          have HML := Lib.hid hml
          have HY := Lib.hid hy
          have HPOS := Lib.hid hpos
          clear c0 c1 c2 d0 d1 d2 ho hg hml a1 a2 hb hy hpos
          go_wp2
          (refine wp_region_quiet_below (by kernel_rfl) (by kernel_rfl) ?_; (repeat (go_big_quiet_step (exact HE _ _))); refine wpQuiet_nil ?_; intro _ hw'; obtain ⟨⟨dq, osq⟩, hw''⟩ := hw'; subst hw'')
          clear g0 g1 g2 k0 k1 k2 HE
          cases b
          · have HP := Lib.hid (show posE ltE p x k = q + 1 from HPOS.out.trans (posE_no (by rw [HY.out]; exact HB.out)))
            go_wp2
            go_roundw
            case rel => exact ⟨k + 1, by omega, by go_num, by omega, by rw [HNEXT.out.1, HNEXT.out.2, HP.out]; exact HO.out.below (below_regrown _ _ _), grown_below HG.out (below_regrown _ _ _)⟩
            case measure => simp [intOf]; omega
          · have HP := Lib.hid (show posE ltE p x k = posE ltE p x q from HPOS.out.trans (posE_yes (by rw [HY.out]; exact HB.out)))
            obtain ⟨w5, hw5⟩ : ∃ w5, w5 = grow (redrawn wr dq) osq := ⟨_, rfl⟩
            have O5 := Lib.hid (show OE base w5 (.slice (some ⟨g, 0, none⟩) n cap) (insAt p (q + 1) x ++ rest) by rw [hw5]; exact HO.out.below (below_regrown _ _ _))
            have G5 := Lib.hid (show w.grownBy w5 (some g) by rw [hw5]; exact grown_below HG.out (below_regrown _ _ _))
            rw [← hw5]
            have hkp : q < p.length := by rw [HPL.out]; omega
            have S := swap_ins (rest := rest) (x := x) hkp
            have a1 : atE (insAt p (q + 1) x ++ rest) q = y := by rw [atE_app_left (by rw [insAt_len, HPL.out]; omega), insAt_before (by omega) (by omega)]; exact HY.out
            have a2 : atE (insAt p (q + 1) x ++ rest) (q + 1) = x := by rw [atE_app_left (by rw [insAt_len, HPL.out]; omega), insAt_here (by omega)]
            rw [a1, a2] at S
            obtain ⟨c0, c1, c2⟩ := OE.cells O5.out (j := q) (by rw [HML.out]; omega)
            obtain ⟨d0, d1, d2⟩ := OE.cells O5.out (j := q + 1) (by rw [HML.out]; omega)
            rw [a1] at c0 c1 c2
            rw [a2] at d0 d1 d2
            have fz := OE.frozen O5.out
            have f0 := fz (q * 3); have f1 := fz (q * 3 + 1); have f2 := fz (q * 3 + 2)
            have e0 := fz ((q + 1) * 3); have e1 := fz ((q + 1) * 3 + 1); have e2 := fz ((q + 1) * 3 + 2)
            have hset : ∀ W, OE base W (.slice (some ⟨g, 0, none⟩) n cap) (insAt p (q + 1) x ++ rest) → OE base ((((((W.setCell ⟨g, (q + 1) * 3, none⟩ (.int .i64 y.rid)).setCell ⟨g, (q + 1) * 3 + 1, none⟩ (.int .i64 y.due)).setCell ⟨g, (q + 1) * 3 + 2, none⟩ (.slice y.A y.n y.c)).setCell ⟨g, q * 3, none⟩ (.int .i64 x.rid)).setCell ⟨g, q * 3 + 1, none⟩ (.int .i64 x.due)).setCell ⟨g, q * 3 + 2, none⟩ (.slice x.A x.n x.c)) (.slice (some ⟨g, 0, none⟩) n cap) (insAt p q x ++ rest) := fun W hW => by
              have hl := HML.out
              rw [← hl] at hW
              have h1 := OE.set hW (j := q + 1) (by omega) y
              have hl2 : (insAt p (q + 1) x ++ rest).length = ((insAt p (q + 1) x ++ rest).set (q + 1) y).length := by rw [List.length_set]
              rw [hl2] at h1
              have h2 := OE.set h1 (j := q) (by rw [← hl2]; omega) x
              rw [S, ← hl2, hl] at h2
              exact h2
            have HSET := Lib.hid hset
            clear S a1 a2 hw5 fz hkp hcl hset
            go_wp2
            go_region
            all_goals
              go_wp2
              go_roundw
              case rel => exact ⟨q, rfl, by omega, OE.drew (HSET.out w5 O5.out), HP.out, by (repeat (first | with_reducible exact World.grownBy.refl _ _ | with_reducible refine only_drewN ?_ _ | with_reducible refine only_drew ?_ | with_reducible refine only_alloc ?_ _ | with_reducible refine only_setCell ?_ (by first | exact Or.inl rfl | (refine Or.inr ?_; simp; done) | (refine Or.inr ?_; omega)) _)); exact G5.out⟩
              case measure => simp [intOf]
    · have hal : srtE ltE (l.take k) ++ l.drop k = srtE ltE l := by
        rw [List.take_of_length_le (by rw [HLN.out]; omega), List.drop_eq_nil_of_le (by rw [HLN.out]; omega), List.append_nil]
      rw [hal] at ho
      have HO := Lib.hid ho
      have HG := Lib.hid hg
      clear ho hal hg
      go_wp2
      go_end0
      exact ⟨rfl, HO.out, HG.out⟩
end Go.Proofs.Ytcdffikambbleaa
