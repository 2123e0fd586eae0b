/- The library's exchanges of runs and rotations at looks. No condition but those stated. -/
import Derived.Test.YtmhelhjjadoiaaaDoorMgB
namespace Go.Proofs.YtmhelhjjadoiaaaDoor
set_option linter.unusedVariables false
set_option linter.unusedSimpArgs false
open Go.RowKit Go.Sort
theorem swpF_next (F : Nat → Lk) {x y i : Nat} (h : x + i < y) : swp1 (swpF F x y i) (y + i) (x + i) = swpF F x y (i + 1) := by
  funext q
  unfold swp1 swpF
  by_cases e : q = y + i
  · subst e
    rw [if_pos rfl, if_neg (show ¬ (x ≤ x + i ∧ x + i < x + i) by omega), if_neg (show ¬ (y ≤ x + i ∧ x + i < y + i) by omega), if_neg (show ¬ (x ≤ y + i ∧ y + i < x + (i + 1)) by omega), if_pos (show y ≤ y + i ∧ y + i < y + (i + 1) by omega), show x + (y + i - y) = x + i by omega]
  · rw [if_neg e]
    by_cases e2 : q = x + i
    · subst e2
      rw [if_pos rfl, if_neg (show ¬ (x ≤ y + i ∧ y + i < x + i) by omega), if_neg (show ¬ (y ≤ y + i ∧ y + i < y + i) by omega), if_pos (show x ≤ x + i ∧ x + i < x + (i + 1) by omega), show y + (x + i - x) = y + i by omega]
    · rw [if_neg e2]
      by_cases c1 : x ≤ q ∧ q < x + i
      · rw [if_pos c1, if_pos (show x ≤ q ∧ q < x + (i + 1) by omega)]
      · rw [if_neg c1, if_neg (show ¬ (x ≤ q ∧ q < x + (i + 1)) by omega)]
        by_cases c2 : y ≤ q ∧ q < y + i
        · rw [if_pos c2, if_pos (show y ≤ q ∧ q < y + (i + 1) by omega)]
        · rw [if_neg c2, if_neg (show ¬ (y ≤ q ∧ q < y + (i + 1)) by omega)]
theorem swpF_zero (F : Nat → Lk) (x y : Nat) : swpF F x y 0 = F := by
  funext q
  unfold swpF
  rw [if_neg (by omega), if_neg (by omega)]
set_option maxRecDepth 100000 in
set_option maxHeartbeats 8000000 in
theorem C_swapK (base g n cap x y k : Nat) (F : Nat → Lk) (w : World) (h : KF base w g n cap F) (hn : n ≤ 1048576) (hxy : x + k ≤ y) (hyn : y + k ≤ n) :
    Calls Tryd.prog 147 #[.slice (some ⟨g, 0, none⟩) n cap, .int .i64 x, .int .i64 y, .int .i64 k, .func (.func 76) #[] #[]] w fun e w' =>
      e = .returned (.tuple #[]) ∧ KF base w' g n cap (swpF F x y k) ∧ w.grownBy w' (some g) := by
  obtain ⟨hcap, hcm⟩ := h.cap
  have HH := Lib.hid h
  clear h
  go_enter Tryd.func147, Tryd.ntmps147
  go_wp2
  go_loopw [10] (fun i wr => ∃ q : Nat, q ≤ k ∧ i = .int .i64 q ∧ KF base wr g n cap (swpF F x y q) ∧ w.grownBy wr (some g)) (fun i _ => k - (intOf i).toNat)
  case atStart => exact ⟨0, Nat.zero_le _, rfl, by rw [swpF_zero]; exact HH.out, World.grownBy.refl _ _⟩
  case round =>
    obtain ⟨q, hq, rfl, ho, hg⟩ := hrel
    by_cases hlt : q < k
    · obtain ⟨G, hG⟩ : ∃ G, swpF F x y q = G := ⟨_, rfl⟩
      have hnx := swpF_next F (x := x) (y := y) (i := q) (by omega)
      rw [hG] at ho hnx
      obtain ⟨u, hu⟩ : ∃ u, G (x + q) = u := ⟨_, rfl⟩
      obtain ⟨v, hv⟩ : ∃ v, G (y + q) = v := ⟨_, rfl⟩
      obtain ⟨c0, c1, c2, c3, c4⟩ := ho.at_ (show x + q < n by omega)
      obtain ⟨d0, d1, d2, d3, d4⟩ := ho.at_ (show y + q < n by omega)
      rw [hu] at c0 c1 c2 c3 c4
      rw [hv] at d0 d1 d2 d3 d4
      have fz := ho.frozen
      have f0 := fz ((x + q) * 5); have f1 := fz ((x + q) * 5 + 1); have f2 := fz ((x + q) * 5 + 2); have f3 := fz ((x + q) * 5 + 3); have f4 := fz ((x + q) * 5 + 4)
      have e0 := fz ((y + q) * 5); have e1 := fz ((y + q) * 5 + 1); have e2 := fz ((y + q) * 5 + 2); have e3 := fz ((y + q) * 5 + 3); have e4 := fz ((y + q) * 5 + 4)
      have b0 : (0 : Int) ≤ (x : Int) + (q : Int) := by omega
      have b1 : (x : Int) + (q : Int) < (n : Int) := by omega
      have b2 : (0 : Int) ≤ (y : Int) + (q : Int) := by omega
      have b3 : (y : Int) + (q : Int) < (n : Int) := by omega
      have t0 : ((x : Int) + (q : Int)).toNat = x + q := by omega
      have t1 : ((y : Int) + (q : Int)).toNat = y + q := by omega
      have HSW := Lib.hid (ho.swap (p := y + q) (q := x + q) (by omega) hv hu)
      have HNX := Lib.hid hnx
      have HG := Lib.hid hg
      clear hG hnx hu hv fz ho hg
      go_wp2
      go_region
      all_goals
        go_wp2
        go_roundw
        case rel => exact ⟨q + 1, by omega, by go_num, by rw [← HNX.out]; exact KF.drew HSW.out, by (repeat (first | with_reducible exact World.grownBy.refl _ _ | with_reducible refine only_drewN ?_ _ | with_reducible refine only_drew ?_ | with_reducible refine only_alloc ?_ _ | with_reducible refine only_setCell ?_ (by first | exact Or.inl rfl | (refine Or.inr ?_; simp; done) | (refine Or.inr ?_; omega)) _)); exact HG.out⟩
        case measure => simp [intOf]; omega
    · obtain rfl : q = k := by omega
      have HO := Lib.hid (And.intro ho hg)
      clear ho hg
      go_wp2
      go_end0
      exact ⟨rfl, HO.out⟩
theorem C_swapKi (base g n cap x y k : Nat) (X Y K : Int) (F : Nat → Lk) (w : World) (h : KF base w g n cap F) (hn : n ≤ 1048576) (hX : X = (x : Int)) (hY : Y = (y : Int)) (hK : K = (k : Int)) (hxy : x + k ≤ y) (hyn : y + k ≤ n) :
    Calls Tryd.prog 147 #[.slice (some ⟨g, 0, none⟩) n cap, .int .i64 X, .int .i64 Y, .int .i64 K, .func (.func 76) #[] #[]] w fun e w' =>
      e = .returned (.tuple #[]) ∧ KF base w' g n cap (swpF F x y k) ∧ w.grownBy w' (some g) := by
  subst hX hY hK
  exact C_swapK base g n cap x y k F w h hn hxy hyn
set_option maxRecDepth 100000 in
set_option maxHeartbeats 8000000 in
theorem C_rotK (base g n cap a m b : Nat) (F : Nat → Lk) (w : World) (h : KF base w g n cap F) (hn : n ≤ 1048576) (ham : a < m) (hmb : m < b) (hbn : b ≤ n) :
    Calls Tryd.prog 125 #[.slice (some ⟨g, 0, none⟩) n cap, .int .i64 a, .int .i64 m, .int .i64 b, .func (.func 76) #[] #[]] w fun e w' =>
      e = .returned (.tuple #[]) ∧ KF base w' g n cap (rotF F a m b) ∧ w.grownBy w' (some g) := by
  have HH := Lib.hid h
  clear h
  go_enter Tryd.func125, Tryd.ntmps125
  go_wp2
  go_loopw [10, 11] (fun p q wr => ∃ (i j : Nat) (G : Nat → Lk), p = .int .i64 i ∧ q = .int .i64 j ∧ 1 ≤ i ∧ 1 ≤ j ∧ i ≤ m - a ∧ j ≤ b - m ∧ KF base wr g n cap G ∧ rotF G (m - i) m (m + j) = rotF F a m b ∧ w.grownBy wr (some g)) (fun p q _ => (intOf p).toNat + (intOf q).toNat)
  case atStart => exact ⟨m - a, b - m, F, by rw [show ((m - a : Nat) : Int) = (m : Int) - (a : Int) by omega], by rw [show ((b - m : Nat) : Int) = (b : Int) - (m : Int) by omega], by omega, by omega, Nat.le_refl _, Nat.le_refl _, HH.out, by rw [show m - (m - a) = a by omega, show m + (b - m) = b by omega], World.grownBy.refl _ _⟩
  case round =>
    obtain ⟨i, j, G, rfl, rfl, hi, hj, hia, hjb, ho, hr, hg⟩ := hrel
    have HO := Lib.hid (And.intro ho (And.intro hr hg))
    clear ho hr hg
    by_cases he : i = j
    · subst he
      have he2 : ((i : Int) != (i : Int)) = false := by simp
      go_wp2_with fail
      refine (C_swapKi base g n cap (m - i) m i _ _ _ G _ HO.out.1 hn (by omega) rfl rfl (by omega) (by omega)).mono ?_; rintro e w1 ⟨rfl, ho1, hg1⟩
      have HO1 := Lib.hid (And.intro ho1 (grown_transK HO.out.2.2 hg1))
      clear ho1 hg1
      go_wp2_with fail
      go_end0
      refine ⟨rfl, ?_, HO1.out.2⟩
      rw [← HO.out.2.1]
      have := rot_swap G (lo := m - i) (m := m) (by omega)
      rw [show m - (m - i) = i by omega] at this
      rw [this]
      exact HO1.out.1
    · have he2 : ((i : Int) != (j : Int)) = true := by rw [bne_iff_ne]; omega
      by_cases hlt : j < i
      · go_wp2_with fail
        refine (C_swapKi base g n cap (m - i) m j _ _ _ G _ HO.out.1 hn (by omega) rfl rfl (by omega) (by omega)).mono ?_; rintro e w1 ⟨rfl, ho1, hg1⟩
        have HO1 := Lib.hid (And.intro ho1 (grown_transK HO.out.2.2 hg1))
        clear ho1 hg1
        go_wp2_with fail
        go_roundw
        case rel => exact ⟨i - j, j, _, by rw [show ((i - j : Nat) : Int) = (i : Int) - (j : Int) by omega], rfl, by omega, by omega, by omega, by omega, HO1.out.1, by rw [show m - (i - j) = m - i + j by omega, ← rot_left G (by omega) hlt]; exact HO.out.2.1, HO1.out.2⟩
        case measure => simp [intOf]; omega
      · go_wp2_with fail
        refine (C_swapKi base g n cap (m - i) (m + j - i) i _ _ _ G _ HO.out.1 hn (by omega) (by omega) rfl (by omega) (by omega)).mono ?_; rintro e w1 ⟨rfl, ho1, hg1⟩
        have HO1 := Lib.hid (And.intro ho1 (grown_transK HO.out.2.2 hg1))
        clear ho1 hg1
        go_wp2_with fail
        go_roundw
        case rel => exact ⟨i, j - i, _, rfl, by rw [show ((j - i : Nat) : Int) = (j : Int) - (i : Int) by omega], by omega, by omega, by omega, by omega, HO1.out.1, by rw [← rot_right G (by omega) (by omega)]; exact HO.out.2.1, HO1.out.2⟩
        case measure => simp [intOf]; omega
end Go.Proofs.YtmhelhjjadoiaaaDoor
