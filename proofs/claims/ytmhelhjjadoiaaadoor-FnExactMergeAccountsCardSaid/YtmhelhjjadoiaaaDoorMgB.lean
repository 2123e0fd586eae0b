/- The library's insertion sort at looks. No condition but those stated. -/
import Derived.Test.YtmhelhjjadoiaaaDoorMgA
namespace Go.Proofs.YtmhelhjjadoiaaaDoor
set_option linter.unusedVariables false
set_option linter.unusedSimpArgs false
open Go.RowKit Go.Sort
/-- Sorted from a up to i but for what stands at j, which is not greater than what follows it. -/
def SrtJ (F : Nat → Lk) (a i j : Nat) : Prop := ∀ p q, a ≤ p → p < q → q ≤ i → q ≠ j → (F p).tick ≤ (F q).tick
theorem SrtJ.start {F : Nat → Lk} {a i : Nat} (h : SrtF Lk.tick F a i) : SrtJ F a i i := fun p q hp hq hi hn => h p q hp (by omega) (by omega)
theorem SrtJ.swap {F : Nat → Lk} {a i j : Nat} (h : SrtJ F a i (j + 1)) (ha : a ≤ j) (hi : j + 1 ≤ i) (hlt : (F (j + 1)).tick < (F j).tick) : SrtJ (swp1 F j (j + 1)) a i j := by
  intro p q hp hpq hq hn
  unfold swp1
  by_cases q1 : q = j + 1
  · subst q1
    rw [if_neg hn, if_pos rfl]
    by_cases p1 : p = j
    · rw [if_pos p1]; omega
    · rw [if_neg p1, if_neg (by omega)]
      exact h p j hp (by omega) (by omega) (by omega)
  · rw [if_neg hn, if_neg q1]
    by_cases p1 : p = j
    · rw [if_pos p1]
      exact h (j + 1) q (by omega) (by omega) hq q1
    · rw [if_neg p1]
      by_cases p2 : p = j + 1
      · rw [if_pos p2]
        exact h j q ha (by omega) hq q1
      · rw [if_neg p2]
        exact h p q hp hpq hq q1
theorem SrtJ.low {F : Nat → Lk} {a i : Nat} (h : SrtJ F a i a) : SrtF Lk.tick F a (i + 1) := fun p q hp hq hi => by
  by_cases e : p = q
  · subst e; exact Int.le_refl _
  · exact h p q hp (by omega) (by omega) (by omega)
theorem SrtJ.done {F : Nat → Lk} {a i j : Nat} (h : SrtJ F a i (j + 1)) (ha : a ≤ j) (hle : ¬ (F (j + 1)).tick < (F j).tick) : SrtF Lk.tick F a (i + 1) := fun p q hp hq hi => by
  by_cases e : p = q
  · subst e; exact Int.le_refl _
  · by_cases e2 : q = j + 1
    · subst e2
      by_cases e3 : p = j
      · subst e3; omega
      · have := h p j hp (by omega) (by omega) (by omega)
        omega
    · exact h p q hp (by omega) (by omega) e2
/-- What a sort of the part from a up to b keeps. -/
structure KeepF (F G : Nat → Lk) (a b n : Nat) : Prop where
  pe : (seg G 0 n).Perm (seg F 0 n)
  ou : ∀ i, ¬ (a ≤ i ∧ i < b) → G i = F i
theorem KeepF.refl (F : Nat → Lk) (a b n : Nat) : KeepF F F a b n := ⟨List.Perm.refl _, fun _ _ => rfl⟩
theorem KeepF.swap {F G : Nat → Lk} {a b n j : Nat} (h : KeepF F G a b n) (ha : a ≤ j) (hb : j + 1 < b) (hn : b ≤ n) : KeepF F (swp1 G j (j + 1)) a b n := by
  refine ⟨?_, fun i hi => ?_⟩
  · rw [swp1_next]
    exact (rot_perm G (by omega) (by omega) (by omega)).trans h.pe
  · unfold swp1
    rw [if_neg (by omega), if_neg (by omega)]
    exact h.ou i hi
set_option maxRecDepth 100000 in
set_option maxHeartbeats 8000000 in
theorem C_insK (base g n cap a b : Nat) (F : Nat → Lk) (w : World) (h : KF base w g n cap F) (hn : n ≤ 1048576) (hab : a ≤ b) (hbn : b ≤ n) :
    Calls Tryd.prog 107 #[.slice (some ⟨g, 0, none⟩) n cap, .int .i64 a, .int .i64 b, .func (.func 76) #[] #[]] w fun e w' =>
      e = .returned (.tuple #[]) ∧ ∃ G, KF base w' g n cap G ∧ SrtF Lk.tick G a b ∧ KeepF F G a b n ∧ w.grownBy w' (some g) := by
  obtain ⟨hcap, hcm⟩ := h.cap
  have HH := Lib.hid h
  clear h
  go_enter Tryd.func107, Tryd.ntmps107
  go_wp2
  go_loopw [8] (fun i wr => ∃ (k : Nat) (G : Nat → Lk), a + 1 ≤ k ∧ i = .int .i64 k ∧ k ≤ max (a + 1) b ∧ KF base wr g n cap G ∧ SrtF Lk.tick G a k ∧ KeepF F G a b n ∧ w.grownBy wr (some g)) (fun i _ => b + 2 - (intOf i).toNat)
  case atStart => exact ⟨a + 1, F, by omega, by go_num, by omega, HH.out, fun p q hp hq hl => (by obtain rfl : p = q := (by omega); exact Int.le_refl _), KeepF.refl _ _ _ _, World.grownBy.refl _ _⟩
  case round =>
    obtain ⟨k, G, hk1, rfl, hkn, ho, hs, hke, hg⟩ := hrel
    by_cases hlt : k < b
    · have HO := Lib.hid ho
      have HG := Lib.hid (And.intro (SrtJ.start hs) (And.intro hke hg))
      clear ho hs hke hg
      go_wp2
      go_loopw [9] (fun i wi => ∃ (j : Nat) (G : Nat → Lk), i = .int .i64 j ∧ a ≤ j ∧ j ≤ k ∧ KF base wi g n cap G ∧ SrtJ G a k j ∧ KeepF F G a b n ∧ w.grownBy wi (some g)) (fun i _ => (intOf i).toNat)
      case atStart => exact ⟨k, G, rfl, by omega, Nat.le_refl _, HO.out, HG.out.1, HG.out.2.1, HG.out.2.2⟩
      case round =>
        clear HO HG
        obtain ⟨j, G, rfl, haj, hjk, ho, hs, hke, hg⟩ := hrel
        by_cases hja : j = a
        · subst hja
          have HO := Lib.hid (And.intro ho (And.intro hs.low (And.intro hke hg)))
          clear ho hs hke hg
          go_wp2
          (refine wp_region_quiet_below (by kernel_rfl) (by kernel_rfl) ?_; (repeat (go_big_quiet_step (fail))); refine wpQuiet_nil ?_; intro _ hw'; obtain ⟨⟨dq, osq⟩, hw''⟩ := hw'; subst hw'')
          go_wp2
          go_roundw
          case rel => exact ⟨k + 1, G, by omega, by go_num, by omega, HO.out.1.below (below_regrown _ _ _), HO.out.2.1, HO.out.2.2.1, grown_belowK HO.out.2.2.2 (below_regrown _ _ _)⟩
          case measure => simp [intOf]; omega
        · obtain ⟨q, rfl⟩ : ∃ q, j = q + 1 := ⟨j - 1, by omega⟩
          obtain ⟨x, hx⟩ : ∃ x, G (q + 1) = x := ⟨_, rfl⟩
          obtain ⟨y, hy⟩ : ∃ y, G q = y := ⟨_, rfl⟩
          obtain ⟨c0, c1, c2, c3, c4⟩ := ho.at_ (show q < n by omega)
          obtain ⟨d0, d1, d2, d3, d4⟩ := ho.at_ (show q + 1 < n by omega)
          rw [hy] at c0 c1 c2 c3 c4
          rw [hx] at d0 d1 d2 d3 d4
          have hq0 : (0 : Int) ≤ (q : Int) := by omega
          have hq1 : (q : Int) < (n : Int) := by omega
          have hq2 : (q : Int) + 1 < (n : Int) := by omega
          have hqa : (a : Int) < (q : Int) + 1 := by omega
          have g0 := cell_regrown c0; have g1 := cell_regrown c1; have g2 := cell_regrown c2; have g3 := cell_regrown c3; have g4 := cell_regrown c4
          have k0 := cell_regrown d0; have k1 := cell_regrown d1; have k2 := cell_regrown d2; have k3 := cell_regrown d3; have k4 := cell_regrown d4
          have HE : ∀ d os, Calls Tryd.prog 76 #[.agg #[.int .i64 (x).tick, .int .i64 (x).who, .int .i64 (x).rid, .int .i64 (x).kind, .string (x).why], .agg #[.int .i64 (y).tick, .int .i64 (y).who, .int .i64 (y).rid, .int .i64 (y).kind, .string (y).why]] (grow (redrawn wr d) os) fun e w'' => e = .returned (.int .i64 (cmpI x.tick y.tick)) ∧ ∃ p : Regrown, w'' = grow (redrawn wr p.d) p.os :=
            fun d os => Calls.regrown_of (C_Mrg1 x y _)
          obtain ⟨bb, hb⟩ : ∃ bb, decide (x.tick < y.tick) = bb := ⟨_, rfl⟩
          have hcl : decide (cmpI x.tick y.tick < 0) = bb := by rw [cmpI_lt]; exact hb
          have HXY := Lib.hid (And.intro hx (And.intro hy hb))
          have HO := Lib.hid ho
          have HS := Lib.hid (And.intro hs (And.intro hke hg))
          clear c0 c1 c2 c3 c4 d0 d1 d2 d3 d4 ho hs hke hg hb hx hy
          go_wp2
          (refine wp_region_quiet_below (by kernel_rfl) (by kernel_rfl) ?_; (repeat (go_big_quiet_step (exact HE _ _))); refine wpQuiet_nil ?_; intro _ hw'; obtain ⟨⟨dq, osq⟩, hw''⟩ := hw'; subst hw'')
          clear g0 g1 g2 g3 g4 k0 k1 k2 k3 k4 HE
          cases bb
          · have hle : ¬ (G (q + 1)).tick < (G q).tick := by rw [HXY.out.1, HXY.out.2.1]; simpa using HXY.out.2.2
            have HD := Lib.hid (HS.out.1.done (by omega) hle)
            clear hle
            go_wp2
            go_roundw
            case rel => exact ⟨k + 1, G, by omega, by go_num, by omega, HO.out.below (below_regrown _ _ _), HD.out, HS.out.2.1, grown_belowK HS.out.2.2 (below_regrown _ _ _)⟩
            case measure => simp [intOf]; omega
          · have hlt2 : (G (q + 1)).tick < (G q).tick := by rw [HXY.out.1, HXY.out.2.1]; simpa using HXY.out.2.2
            have HD := Lib.hid (And.intro (HS.out.1.swap (by omega) (by omega) hlt2) (HS.out.2.1.swap (j := q) (by omega) (by omega) hbn))
            obtain ⟨w5, hw5⟩ : ∃ w5, w5 = grow (redrawn wr dq) osq := ⟨_, rfl⟩
            have O5 := Lib.hid (show KF base w5 g n cap G by rw [hw5]; exact HO.out.below (below_regrown _ _ _))
            have G5 := Lib.hid (show w.grownBy w5 (some g) by rw [hw5]; exact grown_belowK HS.out.2.2 (below_regrown _ _ _))
            rw [← hw5]
            obtain ⟨c0, c1, c2, c3, c4⟩ := O5.out.at_ (show q < n by omega)
            obtain ⟨d0, d1, d2, d3, d4⟩ := O5.out.at_ (show q + 1 < n by omega)
            rw [HXY.out.2.1] at c0 c1 c2 c3 c4
            rw [HXY.out.1] at d0 d1 d2 d3 d4
            have fz := O5.out.frozen
            have f0 := fz (q * 5); have f1 := fz (q * 5 + 1); have f2 := fz (q * 5 + 2); have f3 := fz (q * 5 + 3); have f4 := fz (q * 5 + 4)
            have e0 := fz ((q + 1) * 5); have e1 := fz ((q + 1) * 5 + 1); have e2 := fz ((q + 1) * 5 + 2); have e3 := fz ((q + 1) * 5 + 3); have e4 := fz ((q + 1) * 5 + 4)
            have HSW := Lib.hid (O5.out.swap (p := q) (q := q + 1) (by omega) HXY.out.2.1 HXY.out.1)
            clear hw5 fz hcl hlt2
            go_wp2
            go_region
            all_goals
              go_wp2
              go_roundw
              case rel => exact ⟨q, _, rfl, by omega, by omega, KF.drew HSW.out, HD.out.1, HD.out.2, by (repeat (first | with_reducible exact World.grownBy.refl _ _ | with_reducible refine only_drewN ?_ _ | with_reducible refine only_drew ?_ | with_reducible refine only_alloc ?_ _ | with_reducible refine only_setCell ?_ (by first | exact Or.inl rfl | (refine Or.inr ?_; simp; done) | (refine Or.inr ?_; omega)) _)); exact G5.out⟩
              case measure => simp [intOf]
    · have HO := Lib.hid (And.intro ho (And.intro (hs.sub (Nat.le_refl a) (show b ≤ k by omega)) (And.intro hke hg)))
      clear ho hs hke hg
      go_wp2
      go_end0
      exact ⟨rfl, G, HO.out⟩
end Go.Proofs.YtmhelhjjadoiaaaDoor
