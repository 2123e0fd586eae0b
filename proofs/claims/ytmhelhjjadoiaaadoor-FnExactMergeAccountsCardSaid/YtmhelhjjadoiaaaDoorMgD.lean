/- The library's merging of two sorted runs, at looks. No condition but those stated. -/
import Derived.Test.YtmhelhjjadoiaaaDoorMgC
namespace Go.Proofs.YtmhelhjjadoiaaaDoor
set_option linter.unusedVariables false
set_option linter.unusedSimpArgs false
open Go.RowKit Go.Sort
theorem rot_step1 (F : Nat → Lk) {a k : Nat} (h : a ≤ k) : swp1 (rotF F a (a + 1) (k + 1)) (k + 1) k = rotF F a (a + 1) (k + 1 + 1) := by
  funext q
  unfold swp1 rotF
  by_cases e : q = k + 1
  · subst e
    rw [if_pos rfl, if_pos (by omega), if_neg (by omega), if_pos (by omega), if_neg (by omega)]
    congr 1; omega
  · rw [if_neg e]
    by_cases e2 : q = k
    · subst e2
      rw [if_pos rfl, if_neg (by omega), if_pos (by omega), if_pos (by omega)]
      congr 1; omega
    · rw [if_neg e2]
      by_cases c : a ≤ q ∧ q < k + 1
      · rw [if_pos c, if_pos (by omega), if_pos (by omega), if_pos (by omega)]
      · rw [if_neg c, if_neg (by omega)]
theorem rot_step2 (F : Nat → Lk) {k m : Nat} (h : k + 1 ≤ m) : swp1 (rotF F (k + 1) m (m + 1)) k (k + 1) = rotF F k m (m + 1) := by
  funext q
  unfold swp1 rotF
  by_cases e : q = k
  · subst e
    rw [if_pos rfl, if_pos (by omega), if_pos (by omega), if_pos (by omega), if_pos (by omega)]
    congr 1; omega
  · rw [if_neg e]
    by_cases e2 : q = k + 1
    · subst e2
      rw [if_pos rfl, if_neg (by omega), if_pos (by omega), if_neg (by omega)]
      congr 1; omega
    · rw [if_neg e2]
      by_cases c : k + 1 ≤ q ∧ q < m + 1
      · rw [if_pos c, if_neg (by omega), if_pos (by omega), if_neg (by omega)]
      · rw [if_neg c, if_neg (by omega)]
theorem half_int (x : Nat) : (x : Int) / 2 = ((x / 2 : Nat) : Int) := by omega
set_option maxRecDepth 100000 in
set_option maxHeartbeats 8000000 in
theorem C_symA (base g n cap a b : Nat) (F : Nat → Lk) (w : World) (h : KF base w g n cap F) (hn : n ≤ 1048576) (hab : a + 1 < b) (hbn : b ≤ n) (hs : SrtF Lk.tick F (a + 1) b) :
    Calls Tryd.prog 108 #[.slice (some ⟨g, 0, none⟩) n cap, .int .i64 a, .int .i64 ((a + 1 : Nat) : Int), .int .i64 b, .func (.func 76) #[] #[]] w fun e w' =>
      e = .returned (.tuple #[]) ∧ ∃ G, KF base w' g n cap G ∧ MrgF Lk.tick F G a b n ∧ w.grownBy w' (some g) := by
  obtain ⟨hcap, hcm⟩ := h.cap
  obtain ⟨x, hx⟩ : ∃ x, F a = x := ⟨_, rfl⟩
  obtain ⟨c0, c1, c2, c3, c4⟩ := h.at_ (show a < n by omega)
  rw [hx] at c0 c1 c2 c3 c4
  have HH := Lib.hid (And.intro h (And.intro hs hx))
  clear h hs hx
  have e1 : ((a : Int) + 1 - (a : Int)) = 1 := by omega
  go_enter Tryd.func108, Tryd.ntmps108
  go_wp2
  go_loopw [10, 11] (fun p q wr => ∃ i j : Nat, p = .int .i64 i ∧ q = .int .i64 j ∧ a + 1 ≤ i ∧ i ≤ j ∧ j ≤ b ∧ (a + 1 < i → (F (i - 1)).tick ≤ (F a).tick) ∧ (j < b → (F a).tick ≤ (F j).tick) ∧ Below w.heap.size w wr) (fun p q _ => (intOf q).toNat - (intOf p).toNat)
  case atStart => exact ⟨a + 1, b, rfl, rfl, Nat.le_refl _, by omega, Nat.le_refl _, fun h => absurd h (by omega), fun h => absurd h (by omega), by (repeat (first | with_reducible exact Below.refl _ _ | with_reducible exact below_regrown _ _ _ | with_reducible refine bel_step0 (by assumption) ?_ | with_reducible refine bel_alloc0 ?_ _ | with_reducible refine bel_regrown0 ?_ _ _ | with_reducible refine bel_regrown ?_ (by first | omega | (simp; done) | (simp; omega)) _ _ | with_reducible refine below_drewN ?_ _ | with_reducible refine Below.drew ?_ | with_reducible refine Below.alloc ?_ (by first | omega | (simp; done) | (simp; omega)) _ | with_reducible refine Below.setCell ?_ (by first | omega | (simp; done) | (simp; omega)) _ | with_reducible refine bel_step (by assumption) (by first | omega | (simp; done) | (simp; omega)) ?_ | with_reducible refine bel_grown (by assumption) (by first | omega | (simp; done) | (simp; omega)) (by first | omega | (simp; done) | (simp; omega)) ?_))⟩
  case round =>
    obtain ⟨i, j, rfl, rfl, hi, hij, hj, hlo, hhi, hB⟩ := hrel
    by_cases hlt : i < j
    · obtain ⟨h, hh⟩ : ∃ h : Nat, (i + j) / 2 = h := ⟨_, rfl⟩
      have eh : ((i : Int) + (j : Int)) / 2 = (h : Int) := by omega
      have hh1 : i ≤ h := by omega
      have hh2 : h < j := by omega
      obtain ⟨y, hy⟩ : ∃ y, F h = y := ⟨_, rfl⟩
      obtain ⟨d0, d1, d2, d3, d4⟩ := (HH.out.1.below hB).at_ (show h < n by omega)
      obtain ⟨b0, b1, b2, b3, b4⟩ := (HH.out.1.below hB).at_ (show a < n by omega)
      rw [HH.out.2.2] at b0 b1 b2 b3 b4
      rw [hy] at d0 d1 d2 d3 d4
      have g0 := cell_regrown b0; have g1 := cell_regrown b1; have g2 := cell_regrown b2; have g3 := cell_regrown b3; have g4 := cell_regrown b4
      have k0 := cell_regrown d0; have k1 := cell_regrown d1; have k2 := cell_regrown d2; have k3 := cell_regrown d3; have k4 := cell_regrown d4
      have HE : ∀ d os, Calls Tryd.prog 76 #[.agg #[.int .i64 (y).tick, .int .i64 (y).who, .int .i64 (y).rid, .int .i64 (y).kind, .string (y).why], .agg #[.int .i64 (x).tick, .int .i64 (x).who, .int .i64 (x).rid, .int .i64 (x).kind, .string (x).why]] (grow (redrawn wr d) os) fun e w'' => e = .returned (.int .i64 (cmpI y.tick x.tick)) ∧ ∃ p : Regrown, w'' = grow (redrawn wr p.d) p.os :=
        fun d os => Calls.regrown_of (C_Mrg1 y x _)
      obtain ⟨bb, hb⟩ : ∃ bb, decide (y.tick < x.tick) = bb := ⟨_, rfl⟩
      have hcl : decide (cmpI y.tick x.tick < 0) = bb := by rw [cmpI_lt]; exact hb
      have q1 : (0 : Int) ≤ (h : Int) := by omega
      have q2 : (h : Int) < (n : Int) := by omega
      have q3 : (a : Int) < (n : Int) := by omega
      have q4 : (0 : Int) ≤ (a : Int) := by omega
      have HH2 := Lib.hid (And.intro hlo (And.intro hhi (And.intro hy hb)))
      clear hlo hhi b0 b1 b2 b3 b4 d0 d1 d2 d3 d4 c0 c1 c2 c3 c4 hb hy hh
      go_wp2
      clear eh
      (refine wp_region_quiet_below (by kernel_rfl) (by kernel_rfl) ?_; (repeat (go_big_quiet_step (exact HE _ _))); refine wpQuiet_nil ?_; intro _ hw'; obtain ⟨⟨dq, osq⟩, hw''⟩ := hw'; subst hw'')
      clear g0 g1 g2 g3 g4 k0 k1 k2 k3 k4 HE
      cases bb
      · go_wp2
        go_roundw
        case rel => exact ⟨i, h, rfl, rfl, hi, by omega, by omega, HH2.out.1, fun _ => by rw [HH2.out.2.2.1, HH.out.2.2]; have := HH2.out.2.2.2; simp at this; exact this, by (repeat (first | with_reducible exact Below.refl _ _ | with_reducible exact below_regrown _ _ _ | with_reducible refine bel_step0 (by assumption) ?_ | with_reducible refine bel_alloc0 ?_ _ | with_reducible refine bel_regrown0 ?_ _ _ | with_reducible refine bel_regrown ?_ (by first | omega | (simp; done) | (simp; omega)) _ _ | with_reducible refine below_drewN ?_ _ | with_reducible refine Below.drew ?_ | with_reducible refine Below.alloc ?_ (by first | omega | (simp; done) | (simp; omega)) _ | with_reducible refine Below.setCell ?_ (by first | omega | (simp; done) | (simp; omega)) _ | with_reducible refine bel_step (by assumption) (by first | omega | (simp; done) | (simp; omega)) ?_ | with_reducible refine bel_grown (by assumption) (by first | omega | (simp; done) | (simp; omega)) (by first | omega | (simp; done) | (simp; omega)) ?_))⟩
        case measure => simp [intOf]; omega
      · go_wp2
        go_roundw
        case rel => exact ⟨h + 1, j, by go_num, rfl, by omega, by omega, hj, fun _ => by rw [show h + 1 - 1 = h by omega, HH2.out.2.2.1, HH.out.2.2]; have := HH2.out.2.2.2; simp at this; omega, HH2.out.2.1, by (repeat (first | with_reducible exact Below.refl _ _ | with_reducible exact below_regrown _ _ _ | with_reducible refine bel_step0 (by assumption) ?_ | with_reducible refine bel_alloc0 ?_ _ | with_reducible refine bel_regrown0 ?_ _ _ | with_reducible refine bel_regrown ?_ (by first | omega | (simp; done) | (simp; omega)) _ _ | with_reducible refine below_drewN ?_ _ | with_reducible refine Below.drew ?_ | with_reducible refine Below.alloc ?_ (by first | omega | (simp; done) | (simp; omega)) _ | with_reducible refine Below.setCell ?_ (by first | omega | (simp; done) | (simp; omega)) _ | with_reducible refine bel_step (by assumption) (by first | omega | (simp; done) | (simp; omega)) ?_ | with_reducible refine bel_grown (by assumption) (by first | omega | (simp; done) | (simp; omega)) (by first | omega | (simp; done) | (simp; omega)) ?_))⟩
        case measure => simp [intOf]; omega
    · obtain rfl : i = j := by omega
      have HH2 := Lib.hid (And.intro hlo hhi)
      have HG := Lib.hid (And.intro (HH.out.1.below hB) (show w.grownBy wr (some g) from grown_belowK (World.grownBy.refl _ _) hB))
      clear hlo hhi hB c0 c1 c2 c3 c4
      go_wp2
      go_loopw [13] (fun p wi => ∃ k : Nat, p = .int .i64 k ∧ a ≤ k ∧ k + 1 ≤ i ∧ KF base wi g n cap (rotF F a (a + 1) (k + 1)) ∧ w.grownBy wi (some g)) (fun p _ => i - (intOf p).toNat)
      case atStart => exact ⟨a, rfl, Nat.le_refl _, by omega, by rw [rot_trivR F (by omega)]; exact HG.out.1, HG.out.2⟩
      case round =>
        clear HG
        obtain ⟨k, rfl, hak, hki, ho, hg⟩ := hrel
        by_cases hlt2 : k + 1 < i
        · obtain ⟨G, hG⟩ : ∃ G, rotF F a (a + 1) (k + 1) = G := ⟨_, rfl⟩
          have hnx := rot_step1 F hak
          rw [hG] at ho hnx
          have hpk : (k : Int) < (i : Int) - 1 := by omega
          obtain ⟨u, hu⟩ : ∃ u, G (k) = u := ⟨_, rfl⟩
          obtain ⟨v, hv⟩ : ∃ v, G (k + 1) = v := ⟨_, rfl⟩
          obtain ⟨c0, c1, c2, c3, c4⟩ := ho.at_ (show k < n by omega)
          obtain ⟨d0, d1, d2, d3, d4⟩ := ho.at_ (show k + 1 < n by omega)
          rw [hu] at c0 c1 c2 c3 c4
          rw [hv] at d0 d1 d2 d3 d4
          have fz := ho.frozen
          have f0 := fz ((k) * 5); have f1 := fz ((k) * 5 + 1); have f2 := fz ((k) * 5 + 2); have f3 := fz ((k) * 5 + 3); have f4 := fz ((k) * 5 + 4)
          have e0 := fz ((k + 1) * 5); have e1 := fz ((k + 1) * 5 + 1); have e2 := fz ((k + 1) * 5 + 2); have e3 := fz ((k + 1) * 5 + 3); have e4 := fz ((k + 1) * 5 + 4)
          have b0 : (0 : Int) ≤ (k : Int) := by omega
          have b1 : (k : Int) < (n : Int) := by omega
          have b2 : (0 : Int) ≤ (k : Int) + 1 := by omega
          have b3 : (k : Int) + 1 < (n : Int) := by omega
          have t0 : ((k : Int)).toNat = k := by omega
          have t1 : ((k : Int) + 1).toNat = k + 1 := by omega
          have HSW := Lib.hid (ho.swap (p := k + 1) (q := k) (by omega) hv hu)
          have HNX := Lib.hid hnx
          have HG := Lib.hid hg
          clear hG hnx hu hv fz ho hg
          go_wp2
          go_region
          all_goals
            go_wp2
            go_roundw
          case rel => exact ⟨k + 1, by go_num, by omega, by omega, by rw [← HNX.out]; exact KF.drew HSW.out, by (repeat (first | with_reducible exact World.grownBy.refl _ _ | with_reducible refine only_drewN ?_ _ | with_reducible refine only_drew ?_ | with_reducible refine only_alloc ?_ _ | with_reducible refine only_setCell ?_ (by first | exact Or.inl rfl | (refine Or.inr ?_; simp; done) | (refine Or.inr ?_; omega)) _)); exact HG.out⟩
          case measure => simp [intOf]; omega
        · obtain rfl : k + 1 = i := by omega
          have hpk : ¬ (k : Int) < ((k + 1 : Nat) : Int) - 1 := by omega
          have HO := Lib.hid (And.intro ho hg)
          have HM := Lib.hid (mrg_first HH.out.2.1 hi hj HH2.out.1 HH2.out.2 hbn)
          clear ho hg
          go_wp2
          (try simp only [Exit.inBlock, Exit.then]); refine bodyPost_ret (results_none rfl _ _ _) rfl ?_
          exact ⟨rfl, _, HO.out.1, HM.out, HO.out.2⟩
set_option maxRecDepth 100000 in
set_option maxHeartbeats 8000000 in
theorem C_symB (base g n cap a m : Nat) (F : Nat → Lk) (w : World) (h : KF base w g n cap F) (hn : n ≤ 1048576) (hab : a + 2 ≤ m) (hbn : m + 1 ≤ n) (hs : SrtF Lk.tick F a m) :
    Calls Tryd.prog 108 #[.slice (some ⟨g, 0, none⟩) n cap, .int .i64 a, .int .i64 m, .int .i64 ((m + 1 : Nat) : Int), .func (.func 76) #[] #[]] w fun e w' =>
      e = .returned (.tuple #[]) ∧ ∃ G, KF base w' g n cap G ∧ MrgF Lk.tick F G a (m + 1) n ∧ w.grownBy w' (some g) := by
  obtain ⟨hcap, hcm⟩ := h.cap
  obtain ⟨x, hx⟩ : ∃ x, F m = x := ⟨_, rfl⟩
  have HH := Lib.hid (And.intro h (And.intro hs hx))
  clear h hs hx
  have e0 : ((m : Int) - (a : Int) == 1) = false := by rw [beq_eq_false_iff_ne]; omega
  have e1 : ((m : Int) + 1 - (m : Int)) = 1 := by omega
  go_enter Tryd.func108, Tryd.ntmps108
  go_wp2
  go_loopw [14, 15] (fun p q wr => ∃ i j : Nat, p = .int .i64 i ∧ q = .int .i64 j ∧ a ≤ i ∧ i ≤ j ∧ j ≤ m ∧ (a < i → (F (i - 1)).tick ≤ (F m).tick) ∧ (j < m → (F m).tick ≤ (F j).tick) ∧ Below w.heap.size w wr) (fun p q _ => (intOf q).toNat - (intOf p).toNat)
  case atStart => exact ⟨a, m, rfl, rfl, Nat.le_refl _, by omega, Nat.le_refl _, fun h => absurd h (by omega), fun h => absurd h (by omega), by (repeat (first | with_reducible exact Below.refl _ _ | with_reducible exact below_regrown _ _ _ | with_reducible refine bel_step0 (by assumption) ?_ | with_reducible refine bel_alloc0 ?_ _ | with_reducible refine bel_regrown0 ?_ _ _ | with_reducible refine bel_regrown ?_ (by first | omega | (simp; done) | (simp; omega)) _ _ | with_reducible refine below_drewN ?_ _ | with_reducible refine Below.drew ?_ | with_reducible refine Below.alloc ?_ (by first | omega | (simp; done) | (simp; omega)) _ | with_reducible refine Below.setCell ?_ (by first | omega | (simp; done) | (simp; omega)) _ | with_reducible refine bel_step (by assumption) (by first | omega | (simp; done) | (simp; omega)) ?_ | with_reducible refine bel_grown (by assumption) (by first | omega | (simp; done) | (simp; omega)) (by first | omega | (simp; done) | (simp; omega)) ?_))⟩
  case round =>
    obtain ⟨i, j, rfl, rfl, hi, hij, hj, hlo, hhi, hB⟩ := hrel
    by_cases hlt : i < j
    · obtain ⟨h, hh⟩ : ∃ h : Nat, (i + j) / 2 = h := ⟨_, rfl⟩
      have eh : ((i : Int) + (j : Int)) / 2 = (h : Int) := by omega
      have hh1 : i ≤ h := by omega
      have hh2 : h < j := by omega
      obtain ⟨y, hy⟩ : ∃ y, F h = y := ⟨_, rfl⟩
      obtain ⟨d0, d1, d2, d3, d4⟩ := (HH.out.1.below hB).at_ (show h < n by omega)
      obtain ⟨b0, b1, b2, b3, b4⟩ := (HH.out.1.below hB).at_ (show m < n by omega)
      rw [HH.out.2.2] at b0 b1 b2 b3 b4
      rw [hy] at d0 d1 d2 d3 d4
      have g0 := cell_regrown b0; have g1 := cell_regrown b1; have g2 := cell_regrown b2; have g3 := cell_regrown b3; have g4 := cell_regrown b4
      have k0 := cell_regrown d0; have k1 := cell_regrown d1; have k2 := cell_regrown d2; have k3 := cell_regrown d3; have k4 := cell_regrown d4
      have HE : ∀ d os, Calls Tryd.prog 76 #[.agg #[.int .i64 (x).tick, .int .i64 (x).who, .int .i64 (x).rid, .int .i64 (x).kind, .string (x).why], .agg #[.int .i64 (y).tick, .int .i64 (y).who, .int .i64 (y).rid, .int .i64 (y).kind, .string (y).why]] (grow (redrawn wr d) os) fun e w'' => e = .returned (.int .i64 (cmpI x.tick y.tick)) ∧ ∃ p : Regrown, w'' = grow (redrawn wr p.d) p.os :=
        fun d os => Calls.regrown_of (C_Mrg1 x y _)
      obtain ⟨bb, hb⟩ : ∃ bb, decide (x.tick < y.tick) = bb := ⟨_, rfl⟩
      have hcl : decide (cmpI x.tick y.tick < 0) = bb := by rw [cmpI_lt]; exact hb
      have q1 : (0 : Int) ≤ (h : Int) := by omega
      have q2 : (h : Int) < (n : Int) := by omega
      have q3 : (m : Int) < (n : Int) := by omega
      have q4 : (0 : Int) ≤ (m : Int) := by omega
      have HH2 := Lib.hid (And.intro hlo (And.intro hhi (And.intro hy hb)))
      clear hlo hhi b0 b1 b2 b3 b4 d0 d1 d2 d3 d4 hb hy hh
      go_wp2
      clear eh
      (refine wp_region_quiet_below (by kernel_rfl) (by kernel_rfl) ?_; (repeat (go_big_quiet_step (exact HE _ _))); refine wpQuiet_nil ?_; intro _ hw'; obtain ⟨⟨dq, osq⟩, hw''⟩ := hw'; subst hw'')
      clear g0 g1 g2 g3 g4 k0 k1 k2 k3 k4 HE
      cases bb
      · go_wp2
        go_roundw
        case rel => exact ⟨h + 1, j, by go_num, rfl, by omega, by omega, hj, fun _ => by rw [show h + 1 - 1 = h by omega, HH2.out.2.2.1, HH.out.2.2]; have := HH2.out.2.2.2; simp at this; omega, HH2.out.2.1, by (repeat (first | with_reducible exact Below.refl _ _ | with_reducible exact below_regrown _ _ _ | with_reducible refine bel_step0 (by assumption) ?_ | with_reducible refine bel_alloc0 ?_ _ | with_reducible refine bel_regrown0 ?_ _ _ | with_reducible refine bel_regrown ?_ (by first | omega | (simp; done) | (simp; omega)) _ _ | with_reducible refine below_drewN ?_ _ | with_reducible refine Below.drew ?_ | with_reducible refine Below.alloc ?_ (by first | omega | (simp; done) | (simp; omega)) _ | with_reducible refine Below.setCell ?_ (by first | omega | (simp; done) | (simp; omega)) _ | with_reducible refine bel_step (by assumption) (by first | omega | (simp; done) | (simp; omega)) ?_ | with_reducible refine bel_grown (by assumption) (by first | omega | (simp; done) | (simp; omega)) (by first | omega | (simp; done) | (simp; omega)) ?_))⟩
        case measure => simp [intOf]; omega
      · go_wp2
        go_roundw
        case rel => exact ⟨i, h, rfl, rfl, hi, by omega, by omega, HH2.out.1, fun _ => by rw [HH2.out.2.2.1, HH.out.2.2]; have := HH2.out.2.2.2; simp at this; omega, by (repeat (first | with_reducible exact Below.refl _ _ | with_reducible exact below_regrown _ _ _ | with_reducible refine bel_step0 (by assumption) ?_ | with_reducible refine bel_alloc0 ?_ _ | with_reducible refine bel_regrown0 ?_ _ _ | with_reducible refine bel_regrown ?_ (by first | omega | (simp; done) | (simp; omega)) _ _ | with_reducible refine below_drewN ?_ _ | with_reducible refine Below.drew ?_ | with_reducible refine Below.alloc ?_ (by first | omega | (simp; done) | (simp; omega)) _ | with_reducible refine Below.setCell ?_ (by first | omega | (simp; done) | (simp; omega)) _ | with_reducible refine bel_step (by assumption) (by first | omega | (simp; done) | (simp; omega)) ?_ | with_reducible refine bel_grown (by assumption) (by first | omega | (simp; done) | (simp; omega)) (by first | omega | (simp; done) | (simp; omega)) ?_))⟩
        case measure => simp [intOf]; omega
    · obtain rfl : i = j := by omega
      have HH2 := Lib.hid (And.intro hlo hhi)
      have HG := Lib.hid (And.intro (HH.out.1.below hB) (show w.grownBy wr (some g) from grown_belowK (World.grownBy.refl _ _) hB))
      clear hlo hhi hB
      go_wp2
      go_loopw [17] (fun p wi => ∃ k : Nat, p = .int .i64 k ∧ i ≤ k ∧ k ≤ m ∧ KF base wi g n cap (rotF F k m (m + 1)) ∧ w.grownBy wi (some g)) (fun p _ => (intOf p).toNat)
      case atStart => exact ⟨m, rfl, hj, Nat.le_refl _, by rw [rot_trivL F]; exact HG.out.1, HG.out.2⟩
      case round =>
        clear HG
        obtain ⟨k, rfl, hak, hki, ho, hg⟩ := hrel
        by_cases hlt2 : i < k
        · obtain ⟨k, rfl⟩ : ∃ q, k = q + 1 := ⟨k - 1, by omega⟩
          obtain ⟨G, hG⟩ : ∃ G, rotF F (k + 1) m (m + 1) = G := ⟨_, rfl⟩
          have hnx := rot_step2 F hki
          rw [hG] at ho hnx
          have hpk : (i : Int) < (k : Int) + 1 := by omega
          have hpk2 : (k : Int) + 1 - 1 = (k : Int) := by omega
          obtain ⟨u, hu⟩ : ∃ u, G (k + 1) = u := ⟨_, rfl⟩
          obtain ⟨v, hv⟩ : ∃ v, G (k) = v := ⟨_, rfl⟩
          obtain ⟨c0, c1, c2, c3, c4⟩ := ho.at_ (show k + 1 < n by omega)
          obtain ⟨d0, d1, d2, d3, d4⟩ := ho.at_ (show k < n by omega)
          rw [hu] at c0 c1 c2 c3 c4
          rw [hv] at d0 d1 d2 d3 d4
          have fz := ho.frozen
          have f0 := fz ((k + 1) * 5); have f1 := fz ((k + 1) * 5 + 1); have f2 := fz ((k + 1) * 5 + 2); have f3 := fz ((k + 1) * 5 + 3); have f4 := fz ((k + 1) * 5 + 4)
          have e0 := fz ((k) * 5); have e1 := fz ((k) * 5 + 1); have e2 := fz ((k) * 5 + 2); have e3 := fz ((k) * 5 + 3); have e4 := fz ((k) * 5 + 4)
          have b0 : (0 : Int) ≤ (k : Int) + 1 := by omega
          have b1 : (k : Int) + 1 < (n : Int) := by omega
          have b2 : (0 : Int) ≤ (k : Int) := by omega
          have b3 : (k : Int) < (n : Int) := by omega
          have t0 : ((k : Int) + 1).toNat = k + 1 := by omega
          have t1 : ((k : Int)).toNat = k := by omega
          have HSW := Lib.hid (ho.swap (p := k) (q := k + 1) (by omega) hv hu)
          have HNX := Lib.hid hnx
          have HG := Lib.hid hg
          clear hG hnx hu hv fz ho hg
          go_wp2
          go_region
          all_goals
            go_wp2
            go_roundw
          case rel => exact ⟨k, by go_num, by omega, by omega, by rw [← HNX.out]; exact KF.drew HSW.out, by (repeat (first | with_reducible exact World.grownBy.refl _ _ | with_reducible refine only_drewN ?_ _ | with_reducible refine only_drew ?_ | with_reducible refine only_alloc ?_ _ | with_reducible refine only_setCell ?_ (by first | exact Or.inl rfl | (refine Or.inr ?_; simp; done) | (refine Or.inr ?_; omega)) _)); exact HG.out⟩
          case measure => simp [intOf]
        · obtain rfl : k = i := by omega
          have HO := Lib.hid (And.intro ho hg)
          have HM := Lib.hid (mrg_last HH.out.2.1 hi hj HH2.out.1 HH2.out.2 hbn)
          clear ho hg
          go_wp2
          (try simp only [Exit.inBlock, Exit.then]); refine bodyPost_ret (results_none rfl _ _ _) rfl ?_
          exact ⟨rfl, _, HO.out.1, HM.out, HO.out.2⟩
end Go.Proofs.YtmhelhjjadoiaaaDoor
