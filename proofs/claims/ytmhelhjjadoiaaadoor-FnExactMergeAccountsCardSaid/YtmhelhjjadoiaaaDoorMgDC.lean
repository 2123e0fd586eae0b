/- The library's merging of two sorted runs, at looks. No condition but those stated. -/
import Derived.Test.YtmhelhjjadoiaaaDoorMgD
namespace Go.Proofs.YtmhelhjjadoiaaaDoor
set_option linter.unusedVariables false
set_option linter.unusedSimpArgs false
open Go.RowKit Go.Sort
theorem cut_of {F : Nat → Lk} {a m b mid s s0 r0 : Nat} (ham : a < m) (hmb : m < b) (hmid : mid = (a + b) / 2) (h0 : mid < m ∧ s0 = mid + m - b ∧ r0 = mid ∨ m ≤ mid ∧ s0 = a ∧ r0 = m)
    (hs : s0 ≤ s) (hr : s ≤ r0) (hlo : s0 < s → (F (s - 1)).tick ≤ (F (mid + m - s)).tick) (hhi : s < r0 → (F (mid + m - 1 - s)).tick < (F s).tick) :
    CutF Lk.tick F a m b mid s (mid + m - s) where
  sum := by omega
  as_ := by omega
  sm := by omega
  smid := by omega
  me := by omega
  eb := by omega
  low := fun h1 h2 => hlo (by omega)
  up := fun h1 h2 => by
    have := hhi (by omega)
    rw [show mid + m - s - 1 = mid + m - 1 - s by omega]
    omega
set_option maxRecDepth 100000 in
set_option maxHeartbeats 16000000 in
theorem C_symC (base g n cap a m b : Nat) (F : Nat → Lk) (w : World) (h : KF base w g n cap F) (hn : n ≤ 1048576) (ham : a + 2 ≤ m) (hmb : m + 2 ≤ b) (hbn : b ≤ n) (hs1 : SrtF Lk.tick F a m) (hs2 : SrtF Lk.tick F m b)
    (IH : ∀ (a' m' b' : Nat) (F' : Nat → Lk) (w' : World), b' - a' < b - a → KF base w' g n cap F' → a' < m' → m' < b' → b' ≤ n → SrtF Lk.tick F' a' m' → SrtF Lk.tick F' m' b' →
      Calls Tryd.prog 108 #[.slice (some ⟨g, 0, none⟩) n cap, .int .i64 a', .int .i64 m', .int .i64 b', .func (.func 76) #[] #[]] w' fun e w'' =>
      e = .returned (.tuple #[]) ∧ ∃ G, KF base w'' g n cap G ∧ MrgF Lk.tick F' G a' b' n ∧ w'.grownBy w'' (some g)) :
    Calls Tryd.prog 108 #[.slice (some ⟨g, 0, none⟩) n cap, .int .i64 a, .int .i64 m, .int .i64 b, .func (.func 76) #[] #[]] w fun e w' =>
      e = .returned (.tuple #[]) ∧ ∃ G, KF base w' g n cap G ∧ MrgF Lk.tick F G a b n ∧ w.grownBy w' (some g) := by
  obtain ⟨hcap, hcm⟩ := h.cap
  have HH := Lib.hid (And.intro h (And.intro hs1 hs2))
  have HI := Lib.hid IH
  clear h hs1 hs2 IH
  have e0 : ((m : Int) - (a : Int) == 1) = false := by rw [beq_eq_false_iff_ne]; omega
  have e1 : ((b : Int) - (m : Int) == 1) = false := by rw [beq_eq_false_iff_ne]; omega
  obtain ⟨mid, hmid⟩ : ∃ mid : Nat, mid = (a + b) / 2 := ⟨_, rfl⟩
  have em : ((a : Int) + (b : Int)) / 2 = (mid : Int) := by omega
  have hm1 : a + 2 ≤ mid := by omega
  have hm2 : mid + 2 ≤ b := by omega
  obtain ⟨s0, r0, h0, hs0⟩ : ∃ s0 r0 : Nat, (mid < m ∧ s0 = mid + m - b ∧ r0 = mid ∨ m ≤ mid ∧ s0 = a ∧ r0 = m) ∧ s0 < r0 := by
    by_cases c : mid < m
    · exact ⟨mid + m - b, mid, Or.inl ⟨c, rfl, rfl⟩, by omega⟩
    · exact ⟨a, m, Or.inr ⟨by omega, rfl, rfl⟩, by omega⟩
  have gi : ∀ (w1 w2 : World), w.grownBy w1 (some g) → w1.grownBy w2 (some g) → w.grownBy w2 (some g) := fun _ _ h k => grown_transK h k
  have HT := Lib.hid gi
  clear gi hmid
  have hmid : Hid (mid = (a + b) / 2) := Lib.hid (by omega)
  have es : mid < m → (mid : Int) + (m : Int) - (b : Int) = ((mid + m - b : Nat) : Int) := fun h => by omega
  rcases h0 with ⟨c, c1, c2⟩ | ⟨c, c1, c2⟩
  · have HS := Lib.hid (And.intro c1 c2)
    have HS2 : Hid (mid < m ∧ s0 = mid + m - b ∧ r0 = mid ∨ m ≤ mid ∧ s0 = a ∧ r0 = m) := Lib.hid (by first | exact Or.inl ⟨c, c1, c2⟩ | exact Or.inr ⟨c, c1, c2⟩)
    first | (have es2 := es c) | (have es2 : True := trivial)
    clear c1 c2 es
    go_enter Tryd.func108, Tryd.ntmps108
    go_wp2
    go_loopw [20, 21] (fun p q wr => ∃ s r : Nat, p = .int .i64 s ∧ q = .int .i64 r ∧ s0 ≤ s ∧ s ≤ r ∧ r ≤ r0 ∧ (s0 < s → (F (s - 1)).tick ≤ (F (mid + m - s)).tick) ∧ (r < r0 → (F (mid + m - 1 - r)).tick < (F r).tick) ∧ Below w.heap.size w wr) (fun p q _ => (intOf q).toNat - (intOf p).toNat)
    case atStart => exact ⟨s0, r0, congrArg (Value.int .i64) (by have := HS.out; omega), congrArg (Value.int .i64) (by have := HS.out; omega), Nat.le_refl _, by omega, Nat.le_refl _, fun h => absurd h (by omega), fun h => absurd h (by omega), by (repeat (first | with_reducible exact Below.refl _ _ | with_reducible exact below_regrown _ _ _ | with_reducible refine bel_step0 (by assumption) ?_ | with_reducible refine bel_alloc0 ?_ _ | with_reducible refine bel_regrown0 ?_ _ _ | with_reducible refine bel_regrown ?_ (by first | omega | (simp; done) | (simp; omega)) _ _ | with_reducible refine below_drewN ?_ _ | with_reducible refine Below.drew ?_ | with_reducible refine Below.alloc ?_ (by first | omega | (simp; done) | (simp; omega)) _ | with_reducible refine Below.setCell ?_ (by first | omega | (simp; done) | (simp; omega)) _ | with_reducible refine bel_step (by assumption) (by first | omega | (simp; done) | (simp; omega)) ?_ | with_reducible refine bel_grown (by assumption) (by first | omega | (simp; done) | (simp; omega)) (by first | omega | (simp; done) | (simp; omega)) ?_))⟩
    case round =>
      obtain ⟨s, r, rfl, rfl, hi, hij, hj, hlo, hhi, hB⟩ := hrel
      by_cases hlt : s < r
      · obtain ⟨h, hh⟩ : ∃ h : Nat, (s + r) / 2 = h := ⟨_, rfl⟩
        have eh : ((s : Int) + (r : Int)) / 2 = (h : Int) := by omega
        have hh1 : s ≤ h := by omega
        have hh2 : h < r := by omega
        have hA : mid + m ≤ s0 + b ∧ r0 ≤ m ∧ r0 ≤ mid ∧ a ≤ s0 := by have := HS2.out; have := hmid.out; omega
        obtain ⟨hA1, hA2, hA3, hA4⟩ := hA
        obtain ⟨z, hz⟩ : ∃ z : Nat, mid + m - 1 - h = z := ⟨_, rfl⟩
        have hzn : z < n := by omega
        have ez : (mid : Int) + (m : Int) - 1 - (h : Int) = (z : Int) := by omega
        obtain ⟨x, hx⟩ : ∃ x, F z = x := ⟨_, rfl⟩
        obtain ⟨y, hy⟩ : ∃ y, F h = y := ⟨_, rfl⟩
        obtain ⟨d0, d1, d2, d3, d4⟩ := (HH.out.1.below hB).at_ (show h < n by omega)
        obtain ⟨b0, b1, b2, b3, b4⟩ := (HH.out.1.below hB).at_ hzn
        rw [hx] at b0 b1 b2 b3 b4
        rw [hy] at d0 d1 d2 d3 d4
        have g0 := cell_regrown b0; have g1 := cell_regrown b1; have g2 := cell_regrown b2; have g3 := cell_regrown b3; have g4 := cell_regrown b4
        have k0 := cell_regrown d0; have k1 := cell_regrown d1; have k2 := cell_regrown d2; have k3 := cell_regrown d3; have k4 := cell_regrown d4
        have HE : ∀ d os, Calls Tryd.prog 76 #[.agg #[.int .i64 (x).tick, .int .i64 (x).who, .int .i64 (x).rid, .int .i64 (x).kind, .string (x).why], .agg #[.int .i64 (y).tick, .int .i64 (y).who, .int .i64 (y).rid, .int .i64 (y).kind, .string (y).why]] (grow (redrawn wr d) os) fun e w'' => e = .returned (.int .i64 (cmpI x.tick y.tick)) ∧ ∃ p : Regrown, w'' = grow (redrawn wr p.d) p.os :=
          fun d os => Calls.regrown_of (C_Mrg1 x y _)
        obtain ⟨bb, hb⟩ : ∃ bb, decide (x.tick < y.tick) = bb := ⟨_, rfl⟩
        have hcl : decide (cmpI x.tick y.tick < 0) = bb := by rw [cmpI_lt]; exact hb
        have q1 : (0 : Int) ≤ (h : Int) := by omega
        have q2 : (h : Int) < (n : Int) := by omega
        have q3 : (z : Int) < (n : Int) := by omega
        have q4 : (0 : Int) ≤ (z : Int) := by omega
        have HH2 := Lib.hid (And.intro hlo (And.intro hhi (And.intro hx (And.intro hy (And.intro hb hz)))))
        clear hlo hhi b0 b1 b2 b3 b4 d0 d1 d2 d3 d4 hb hx hy hz hh
        go_wp2
        (refine wp_region_quiet_below (by kernel_rfl) (by kernel_rfl) ?_; (repeat (go_big_quiet_step (exact HE _ _))); refine wpQuiet_nil ?_; intro _ hw'; obtain ⟨⟨dq, osq⟩, hw''⟩ := hw'; subst hw'')
        clear g0 g1 g2 g3 g4 k0 k1 k2 k3 k4 HE
        cases bb
        · go_wp2
          go_roundw
          case rel => exact ⟨h + 1, r, by go_num, rfl, by omega, by omega, hj, fun _ => by rw [show h + 1 - 1 = h by omega, show mid + m - (h + 1) = z by (have := HH2.out.2.2.2.2.2; omega), HH2.out.2.2.1, HH2.out.2.2.2.1]; have := HH2.out.2.2.2.2.1; simp at this; omega, HH2.out.2.1, by (repeat (first | with_reducible exact Below.refl _ _ | with_reducible exact below_regrown _ _ _ | with_reducible refine bel_step0 (by assumption) ?_ | with_reducible refine bel_alloc0 ?_ _ | with_reducible refine bel_regrown0 ?_ _ _ | with_reducible refine bel_regrown ?_ (by first | omega | (simp; done) | (simp; omega)) _ _ | with_reducible refine below_drewN ?_ _ | with_reducible refine Below.drew ?_ | with_reducible refine Below.alloc ?_ (by first | omega | (simp; done) | (simp; omega)) _ | with_reducible refine Below.setCell ?_ (by first | omega | (simp; done) | (simp; omega)) _ | with_reducible refine bel_step (by assumption) (by first | omega | (simp; done) | (simp; omega)) ?_ | with_reducible refine bel_grown (by assumption) (by first | omega | (simp; done) | (simp; omega)) (by first | omega | (simp; done) | (simp; omega)) ?_))⟩
          case measure => simp [intOf]; omega
        · go_wp2
          go_roundw
          case rel => exact ⟨s, h, rfl, rfl, hi, by omega, by omega, HH2.out.1, fun _ => by rw [HH2.out.2.2.2.2.2, HH2.out.2.2.1, HH2.out.2.2.2.1]; have := HH2.out.2.2.2.2.1; simp at this; omega, by (repeat (first | with_reducible exact Below.refl _ _ | with_reducible exact below_regrown _ _ _ | with_reducible refine bel_step0 (by assumption) ?_ | with_reducible refine bel_alloc0 ?_ _ | with_reducible refine bel_regrown0 ?_ _ _ | with_reducible refine bel_regrown ?_ (by first | omega | (simp; done) | (simp; omega)) _ _ | with_reducible refine below_drewN ?_ _ | with_reducible refine Below.drew ?_ | with_reducible refine Below.alloc ?_ (by first | omega | (simp; done) | (simp; omega)) _ | with_reducible refine Below.setCell ?_ (by first | omega | (simp; done) | (simp; omega)) _ | with_reducible refine bel_step (by assumption) (by first | omega | (simp; done) | (simp; omega)) ?_ | with_reducible refine bel_grown (by assumption) (by first | omega | (simp; done) | (simp; omega)) (by first | omega | (simp; done) | (simp; omega)) ?_))⟩
          case measure => simp [intOf]; omega
      · obtain rfl : s = r := by omega
        have hC := cut_of (F := F) (a := a) (b := b) (m := m) (by omega) (by omega) hmid.out HS2.out hi hj hlo hhi
        have hA : mid + m ≤ s0 + b ∧ r0 ≤ m ∧ r0 ≤ mid ∧ a ≤ s0 := by have := HS2.out; have := hmid.out; omega
        obtain ⟨e, he⟩ : ∃ e : Nat, mid + m - s = e := ⟨_, rfl⟩
        have ee : (mid : Int) + (m : Int) - (s : Int) = (e : Int) := by omega
        rw [he] at hC
        obtain ⟨P1, P2, P3, P4, _⟩ := cut_parts HH.out.2.1 HH.out.2.2 hC (by omega) (by omega)
        have hC2 := hC
        obtain ⟨u1, u2, u3, u4, u5, u6, u7, u8⟩ := hC2
        have HC := Lib.hid (And.intro hC (And.intro P1 (And.intro P2 (And.intro P3 P4))))
        have HG := Lib.hid (And.intro (HH.out.1.below hB) (show w.grownBy wr (some g) from grown_belowK (World.grownBy.refl _ _) hB))
        clear hlo hhi hB u7 u8 hC P1 P2 P3 P4 he
        have ways : (s < m ∧ m < e ∧ a < s ∧ e < b) ∨ (s < m ∧ m < e ∧ a < s ∧ e = b) ∨ (s < m ∧ m < e ∧ s = a ∧ e = b) ∨ (s < m ∧ s = mid ∧ e = m) := by omega
        rcases ways with ⟨k1, k2, k3, k4⟩ | ⟨k1, k2, k3, k4⟩ | ⟨k1, k2, k3, k4⟩ | ⟨k1, k2, k3⟩
        · have n1 : ((s : Int) < (m : Int)) := by omega
          have n2 : ((m : Int) < (e : Int)) := by omega
          have n3 : ((a : Int) < (s : Int)) := by omega
          have n4 : ((s : Int) < (mid : Int)) := by omega
          have n5 : ((mid : Int) < (e : Int)) := by omega
          have n6 : ((e : Int) < (b : Int)) := by omega
          clear k1 k2 k3 k4
          go_wp2_with fail
          refine (C_rotK base g n cap s m e F _ HG.out.1 hn (by omega) (by omega) (by omega)).mono ?_; rintro e w1 ⟨rfl, ho1, hg1⟩
          have HG1 := Lib.hid (And.intro ho1 (HT.out _ _ HG.out.2 hg1))
          clear ho1 hg1 HG
          go_wp2_with fail
          refine (HI.out a s mid _ _ (by omega) HG1.out.1 (by omega) (by omega) (by omega) HC.out.2.1 HC.out.2.2.1).mono ?_; rintro e w2 ⟨rfl, G, ho2, hm2, hg2⟩
          have HG2 := Lib.hid (And.intro ho2 (HT.out _ _ HG1.out.2 hg2))
          have HM := Lib.hid hm2
          clear ho2 hg2 hm2 HG1
          go_wp2_with fail
          refine (HI.out mid e b _ _ (by omega) HG2.out.1 (by omega) (by omega) (by omega) (HC.out.2.2.2.1.eq fun i h1 h2 => HM.out.ou i (by omega)) (HC.out.2.2.2.2.eq fun i h1 h2 => HM.out.ou i (by omega))).mono ?_; rintro e w3 ⟨rfl, H, ho3, hm3, hg3⟩
          have HG3 := Lib.hid (And.intro ho3 (HT.out _ _ HG2.out.2 hg3))
          have HM3 := Lib.hid hm3
          clear ho3 hg3 hm3 HG2
          go_wp2_with fail
          go_end0
          exact ⟨rfl, _, HG3.out.1, mrg_halves HH.out.2.1 HH.out.2.2 HC.out.1 (by omega) (by omega) hbn HM.out HM3.out, HG3.out.2⟩
        · have n1 : ((s : Int) < (m : Int)) := by omega
          have n2 : ((m : Int) < (e : Int)) := by omega
          have n3 : ((a : Int) < (s : Int)) := by omega
          have n4 : ((s : Int) < (mid : Int)) := by omega
          have n5 : ((mid : Int) < (e : Int)) := by omega
          have n6 : ¬ ((e : Int) < (b : Int)) := by omega
          clear k1 k2 k3 k4
          go_wp2_with fail
          refine (C_rotK base g n cap s m e F _ HG.out.1 hn (by omega) (by omega) (by omega)).mono ?_; rintro e w1 ⟨rfl, ho1, hg1⟩
          have HG1 := Lib.hid (And.intro ho1 (HT.out _ _ HG.out.2 hg1))
          clear ho1 hg1 HG
          go_wp2_with fail
          refine (HI.out a s mid _ _ (by omega) HG1.out.1 (by omega) (by omega) (by omega) HC.out.2.1 HC.out.2.2.1).mono ?_; rintro e w2 ⟨rfl, G, ho2, hm2, hg2⟩
          have HG2 := Lib.hid (And.intro ho2 (HT.out _ _ HG1.out.2 hg2))
          have HM := Lib.hid hm2
          clear ho2 hg2 hm2 HG1
          have HG3 := HG2
          have HM3 := Lib.hid (MrgF.refl (n := n) (show SrtF Lk.tick _ mid b from SrtF.eq (SrtF.sub HC.out.2.2.2.1 (by omega) (by omega)) fun i h1 h2 => HM.out.ou i (by omega)))
          go_wp2_with fail
          go_end0
          exact ⟨rfl, _, HG3.out.1, mrg_halves HH.out.2.1 HH.out.2.2 HC.out.1 (by omega) (by omega) hbn HM.out HM3.out, HG3.out.2⟩
        · have n1 : ((s : Int) < (m : Int)) := by omega
          have n2 : ((m : Int) < (e : Int)) := by omega
          have n3 : ¬ ((a : Int) < (s : Int)) := by omega
          have n4 : ((s : Int) < (mid : Int)) := by omega
          have n5 : ((mid : Int) < (e : Int)) := by omega
          have n6 : ¬ ((e : Int) < (b : Int)) := by omega
          clear k1 k2 k3 k4
          go_wp2_with fail
          refine (C_rotK base g n cap s m e F _ HG.out.1 hn (by omega) (by omega) (by omega)).mono ?_; rintro e w1 ⟨rfl, ho1, hg1⟩
          have HG1 := Lib.hid (And.intro ho1 (HT.out _ _ HG.out.2 hg1))
          clear ho1 hg1 HG
          have HG2 := HG1
          have HM := Lib.hid (MrgF.refl (n := n) (show SrtF Lk.tick _ a mid from SrtF.sub HC.out.2.2.1 (by omega) (by omega)))
          have HG3 := HG2
          have HM3 := Lib.hid (MrgF.refl (n := n) (show SrtF Lk.tick _ mid b from SrtF.eq (SrtF.sub HC.out.2.2.2.1 (by omega) (by omega)) fun i h1 h2 => HM.out.ou i (by omega)))
          go_wp2_with fail
          go_end0
          exact ⟨rfl, _, HG3.out.1, mrg_halves HH.out.2.1 HH.out.2.2 HC.out.1 (by omega) (by omega) hbn HM.out HM3.out, HG3.out.2⟩
        · have hR : rotF F s m e = F := by rw [k3]; exact rot_trivR F (by omega)
          have hR0 := Lib.hid hR
          rw [hR] at HC
          clear hR
          have n1 : ((s : Int) < (m : Int)) := by omega
          have n2 : ¬ ((m : Int) < (e : Int)) := by omega
          have n3 : ((a : Int) < (s : Int)) := by omega
          have n4 : ¬ ((s : Int) < (mid : Int)) := by omega
          have n5 : ((mid : Int) < (e : Int)) := by omega
          have n6 : ((e : Int) < (b : Int)) := by omega
          clear k1 k2 k3
          have HG1 := HG
          have HG2 := HG1
          have HM := Lib.hid (MrgF.refl (n := n) (show SrtF Lk.tick _ a mid from SrtF.sub HC.out.2.1 (by omega) (by omega)))
          go_wp2_with fail
          refine (HI.out mid e b _ _ (by omega) HG2.out.1 (by omega) (by omega) (by omega) (HC.out.2.2.2.1.eq fun i h1 h2 => HM.out.ou i (by omega)) (HC.out.2.2.2.2.eq fun i h1 h2 => HM.out.ou i (by omega))).mono ?_; rintro e w3 ⟨rfl, H, ho3, hm3, hg3⟩
          have HG3 := Lib.hid (And.intro ho3 (HT.out _ _ HG2.out.2 hg3))
          have HM3 := Lib.hid hm3
          clear ho3 hg3 hm3 HG2
          go_wp2_with fail
          go_end0
          exact ⟨rfl, _, HG3.out.1, mrg_halves HH.out.2.1 HH.out.2.2 HC.out.1 (by omega) (by omega) hbn (by rw [hR0.out]; exact HM.out) HM3.out, HG3.out.2⟩
  · have HS := Lib.hid (And.intro c1 c2)
    have HS2 : Hid (mid < m ∧ s0 = mid + m - b ∧ r0 = mid ∨ m ≤ mid ∧ s0 = a ∧ r0 = m) := Lib.hid (by first | exact Or.inl ⟨c, c1, c2⟩ | exact Or.inr ⟨c, c1, c2⟩)
    first | (have es2 := es c) | (have es2 : True := trivial)
    clear c1 c2 es
    go_enter Tryd.func108, Tryd.ntmps108
    go_wp2
    go_loopw [20, 21] (fun p q wr => ∃ s r : Nat, p = .int .i64 s ∧ q = .int .i64 r ∧ s0 ≤ s ∧ s ≤ r ∧ r ≤ r0 ∧ (s0 < s → (F (s - 1)).tick ≤ (F (mid + m - s)).tick) ∧ (r < r0 → (F (mid + m - 1 - r)).tick < (F r).tick) ∧ Below w.heap.size w wr) (fun p q _ => (intOf q).toNat - (intOf p).toNat)
    case atStart => exact ⟨s0, r0, congrArg (Value.int .i64) (by have := HS.out; omega), congrArg (Value.int .i64) (by have := HS.out; omega), Nat.le_refl _, by omega, Nat.le_refl _, fun h => absurd h (by omega), fun h => absurd h (by omega), by (repeat (first | with_reducible exact Below.refl _ _ | with_reducible exact below_regrown _ _ _ | with_reducible refine bel_step0 (by assumption) ?_ | with_reducible refine bel_alloc0 ?_ _ | with_reducible refine bel_regrown0 ?_ _ _ | with_reducible refine bel_regrown ?_ (by first | omega | (simp; done) | (simp; omega)) _ _ | with_reducible refine below_drewN ?_ _ | with_reducible refine Below.drew ?_ | with_reducible refine Below.alloc ?_ (by first | omega | (simp; done) | (simp; omega)) _ | with_reducible refine Below.setCell ?_ (by first | omega | (simp; done) | (simp; omega)) _ | with_reducible refine bel_step (by assumption) (by first | omega | (simp; done) | (simp; omega)) ?_ | with_reducible refine bel_grown (by assumption) (by first | omega | (simp; done) | (simp; omega)) (by first | omega | (simp; done) | (simp; omega)) ?_))⟩
    case round =>
      obtain ⟨s, r, rfl, rfl, hi, hij, hj, hlo, hhi, hB⟩ := hrel
      by_cases hlt : s < r
      · obtain ⟨h, hh⟩ : ∃ h : Nat, (s + r) / 2 = h := ⟨_, rfl⟩
        have eh : ((s : Int) + (r : Int)) / 2 = (h : Int) := by omega
        have hh1 : s ≤ h := by omega
        have hh2 : h < r := by omega
        have hA : mid + m ≤ s0 + b ∧ r0 ≤ m ∧ r0 ≤ mid ∧ a ≤ s0 := by have := HS2.out; have := hmid.out; omega
        obtain ⟨hA1, hA2, hA3, hA4⟩ := hA
        obtain ⟨z, hz⟩ : ∃ z : Nat, mid + m - 1 - h = z := ⟨_, rfl⟩
        have hzn : z < n := by omega
        have ez : (mid : Int) + (m : Int) - 1 - (h : Int) = (z : Int) := by omega
        obtain ⟨x, hx⟩ : ∃ x, F z = x := ⟨_, rfl⟩
        obtain ⟨y, hy⟩ : ∃ y, F h = y := ⟨_, rfl⟩
        obtain ⟨d0, d1, d2, d3, d4⟩ := (HH.out.1.below hB).at_ (show h < n by omega)
        obtain ⟨b0, b1, b2, b3, b4⟩ := (HH.out.1.below hB).at_ hzn
        rw [hx] at b0 b1 b2 b3 b4
        rw [hy] at d0 d1 d2 d3 d4
        have g0 := cell_regrown b0; have g1 := cell_regrown b1; have g2 := cell_regrown b2; have g3 := cell_regrown b3; have g4 := cell_regrown b4
        have k0 := cell_regrown d0; have k1 := cell_regrown d1; have k2 := cell_regrown d2; have k3 := cell_regrown d3; have k4 := cell_regrown d4
        have HE : ∀ d os, Calls Tryd.prog 76 #[.agg #[.int .i64 (x).tick, .int .i64 (x).who, .int .i64 (x).rid, .int .i64 (x).kind, .string (x).why], .agg #[.int .i64 (y).tick, .int .i64 (y).who, .int .i64 (y).rid, .int .i64 (y).kind, .string (y).why]] (grow (redrawn wr d) os) fun e w'' => e = .returned (.int .i64 (cmpI x.tick y.tick)) ∧ ∃ p : Regrown, w'' = grow (redrawn wr p.d) p.os :=
          fun d os => Calls.regrown_of (C_Mrg1 x y _)
        obtain ⟨bb, hb⟩ : ∃ bb, decide (x.tick < y.tick) = bb := ⟨_, rfl⟩
        have hcl : decide (cmpI x.tick y.tick < 0) = bb := by rw [cmpI_lt]; exact hb
        have q1 : (0 : Int) ≤ (h : Int) := by omega
        have q2 : (h : Int) < (n : Int) := by omega
        have q3 : (z : Int) < (n : Int) := by omega
        have q4 : (0 : Int) ≤ (z : Int) := by omega
        have HH2 := Lib.hid (And.intro hlo (And.intro hhi (And.intro hx (And.intro hy (And.intro hb hz)))))
        clear hlo hhi b0 b1 b2 b3 b4 d0 d1 d2 d3 d4 hb hx hy hz hh
        go_wp2
        (refine wp_region_quiet_below (by kernel_rfl) (by kernel_rfl) ?_; (repeat (go_big_quiet_step (exact HE _ _))); refine wpQuiet_nil ?_; intro _ hw'; obtain ⟨⟨dq, osq⟩, hw''⟩ := hw'; subst hw'')
        clear g0 g1 g2 g3 g4 k0 k1 k2 k3 k4 HE
        cases bb
        · go_wp2
          go_roundw
          case rel => exact ⟨h + 1, r, by go_num, rfl, by omega, by omega, hj, fun _ => by rw [show h + 1 - 1 = h by omega, show mid + m - (h + 1) = z by (have := HH2.out.2.2.2.2.2; omega), HH2.out.2.2.1, HH2.out.2.2.2.1]; have := HH2.out.2.2.2.2.1; simp at this; omega, HH2.out.2.1, by (repeat (first | with_reducible exact Below.refl _ _ | with_reducible exact below_regrown _ _ _ | with_reducible refine bel_step0 (by assumption) ?_ | with_reducible refine bel_alloc0 ?_ _ | with_reducible refine bel_regrown0 ?_ _ _ | with_reducible refine bel_regrown ?_ (by first | omega | (simp; done) | (simp; omega)) _ _ | with_reducible refine below_drewN ?_ _ | with_reducible refine Below.drew ?_ | with_reducible refine Below.alloc ?_ (by first | omega | (simp; done) | (simp; omega)) _ | with_reducible refine Below.setCell ?_ (by first | omega | (simp; done) | (simp; omega)) _ | with_reducible refine bel_step (by assumption) (by first | omega | (simp; done) | (simp; omega)) ?_ | with_reducible refine bel_grown (by assumption) (by first | omega | (simp; done) | (simp; omega)) (by first | omega | (simp; done) | (simp; omega)) ?_))⟩
          case measure => simp [intOf]; omega
        · go_wp2
          go_roundw
          case rel => exact ⟨s, h, rfl, rfl, hi, by omega, by omega, HH2.out.1, fun _ => by rw [HH2.out.2.2.2.2.2, HH2.out.2.2.1, HH2.out.2.2.2.1]; have := HH2.out.2.2.2.2.1; simp at this; omega, by (repeat (first | with_reducible exact Below.refl _ _ | with_reducible exact below_regrown _ _ _ | with_reducible refine bel_step0 (by assumption) ?_ | with_reducible refine bel_alloc0 ?_ _ | with_reducible refine bel_regrown0 ?_ _ _ | with_reducible refine bel_regrown ?_ (by first | omega | (simp; done) | (simp; omega)) _ _ | with_reducible refine below_drewN ?_ _ | with_reducible refine Below.drew ?_ | with_reducible refine Below.alloc ?_ (by first | omega | (simp; done) | (simp; omega)) _ | with_reducible refine Below.setCell ?_ (by first | omega | (simp; done) | (simp; omega)) _ | with_reducible refine bel_step (by assumption) (by first | omega | (simp; done) | (simp; omega)) ?_ | with_reducible refine bel_grown (by assumption) (by first | omega | (simp; done) | (simp; omega)) (by first | omega | (simp; done) | (simp; omega)) ?_))⟩
          case measure => simp [intOf]; omega
      · obtain rfl : s = r := by omega
        have hC := cut_of (F := F) (a := a) (b := b) (m := m) (by omega) (by omega) hmid.out HS2.out hi hj hlo hhi
        have hA : mid + m ≤ s0 + b ∧ r0 ≤ m ∧ r0 ≤ mid ∧ a ≤ s0 := by have := HS2.out; have := hmid.out; omega
        obtain ⟨e, he⟩ : ∃ e : Nat, mid + m - s = e := ⟨_, rfl⟩
        have ee : (mid : Int) + (m : Int) - (s : Int) = (e : Int) := by omega
        rw [he] at hC
        obtain ⟨P1, P2, P3, P4, _⟩ := cut_parts HH.out.2.1 HH.out.2.2 hC (by omega) (by omega)
        have hC2 := hC
        obtain ⟨u1, u2, u3, u4, u5, u6, u7, u8⟩ := hC2
        have HC := Lib.hid (And.intro hC (And.intro P1 (And.intro P2 (And.intro P3 P4))))
        have HG := Lib.hid (And.intro (HH.out.1.below hB) (show w.grownBy wr (some g) from grown_belowK (World.grownBy.refl _ _) hB))
        clear hlo hhi hB u7 u8 hC P1 P2 P3 P4 he
        have ways : (s < m ∧ m < e ∧ a < s ∧ e < b) ∨ (s < m ∧ m < e ∧ s = a ∧ e < b) ∨ (s < m ∧ m < e ∧ s = a ∧ e = b) ∨ (s = m ∧ e = mid ∧ m < mid) ∨ (s = m ∧ e = mid ∧ m = mid) := by omega
        rcases ways with ⟨k1, k2, k3, k4⟩ | ⟨k1, k2, k3, k4⟩ | ⟨k1, k2, k3, k4⟩ | ⟨k1, k2, k3⟩ | ⟨k1, k2, k3⟩
        · have n1 : ((s : Int) < (m : Int)) := by omega
          have n2 : ((m : Int) < (e : Int)) := by omega
          have n3 : ((a : Int) < (s : Int)) := by omega
          have n4 : ((s : Int) < (mid : Int)) := by omega
          have n5 : ((mid : Int) < (e : Int)) := by omega
          have n6 : ((e : Int) < (b : Int)) := by omega
          clear k1 k2 k3 k4
          go_wp2_with fail
          refine (C_rotK base g n cap s m e F _ HG.out.1 hn (by omega) (by omega) (by omega)).mono ?_; rintro e w1 ⟨rfl, ho1, hg1⟩
          have HG1 := Lib.hid (And.intro ho1 (HT.out _ _ HG.out.2 hg1))
          clear ho1 hg1 HG
          go_wp2_with fail
          refine (HI.out a s mid _ _ (by omega) HG1.out.1 (by omega) (by omega) (by omega) HC.out.2.1 HC.out.2.2.1).mono ?_; rintro e w2 ⟨rfl, G, ho2, hm2, hg2⟩
          have HG2 := Lib.hid (And.intro ho2 (HT.out _ _ HG1.out.2 hg2))
          have HM := Lib.hid hm2
          clear ho2 hg2 hm2 HG1
          go_wp2_with fail
          refine (HI.out mid e b _ _ (by omega) HG2.out.1 (by omega) (by omega) (by omega) (HC.out.2.2.2.1.eq fun i h1 h2 => HM.out.ou i (by omega)) (HC.out.2.2.2.2.eq fun i h1 h2 => HM.out.ou i (by omega))).mono ?_; rintro e w3 ⟨rfl, H, ho3, hm3, hg3⟩
          have HG3 := Lib.hid (And.intro ho3 (HT.out _ _ HG2.out.2 hg3))
          have HM3 := Lib.hid hm3
          clear ho3 hg3 hm3 HG2
          go_wp2_with fail
          go_end0
          exact ⟨rfl, _, HG3.out.1, mrg_halves HH.out.2.1 HH.out.2.2 HC.out.1 (by omega) (by omega) hbn HM.out HM3.out, HG3.out.2⟩
        · have n1 : ((s : Int) < (m : Int)) := by omega
          have n2 : ((m : Int) < (e : Int)) := by omega
          have n3 : ¬ ((a : Int) < (s : Int)) := by omega
          have n4 : ((s : Int) < (mid : Int)) := by omega
          have n5 : ((mid : Int) < (e : Int)) := by omega
          have n6 : ((e : Int) < (b : Int)) := by omega
          clear k1 k2 k3 k4
          go_wp2_with fail
          refine (C_rotK base g n cap s m e F _ HG.out.1 hn (by omega) (by omega) (by omega)).mono ?_; rintro e w1 ⟨rfl, ho1, hg1⟩
          have HG1 := Lib.hid (And.intro ho1 (HT.out _ _ HG.out.2 hg1))
          clear ho1 hg1 HG
          have HG2 := HG1
          have HM := Lib.hid (MrgF.refl (n := n) (show SrtF Lk.tick _ a mid from SrtF.sub HC.out.2.2.1 (by omega) (by omega)))
          go_wp2_with fail
          refine (HI.out mid e b _ _ (by omega) HG2.out.1 (by omega) (by omega) (by omega) (HC.out.2.2.2.1.eq fun i h1 h2 => HM.out.ou i (by omega)) (HC.out.2.2.2.2.eq fun i h1 h2 => HM.out.ou i (by omega))).mono ?_; rintro e w3 ⟨rfl, H, ho3, hm3, hg3⟩
          have HG3 := Lib.hid (And.intro ho3 (HT.out _ _ HG2.out.2 hg3))
          have HM3 := Lib.hid hm3
          clear ho3 hg3 hm3 HG2
          go_wp2_with fail
          go_end0
          exact ⟨rfl, _, HG3.out.1, mrg_halves HH.out.2.1 HH.out.2.2 HC.out.1 (by omega) (by omega) hbn HM.out HM3.out, HG3.out.2⟩
        · have n1 : ((s : Int) < (m : Int)) := by omega
          have n2 : ((m : Int) < (e : Int)) := by omega
          have n3 : ¬ ((a : Int) < (s : Int)) := by omega
          have n4 : ((s : Int) < (mid : Int)) := by omega
          have n5 : ((mid : Int) < (e : Int)) := by omega
          have n6 : ¬ ((e : Int) < (b : Int)) := by omega
          clear k1 k2 k3 k4
          go_wp2_with fail
          refine (C_rotK base g n cap s m e F _ HG.out.1 hn (by omega) (by omega) (by omega)).mono ?_; rintro e w1 ⟨rfl, ho1, hg1⟩
          have HG1 := Lib.hid (And.intro ho1 (HT.out _ _ HG.out.2 hg1))
          clear ho1 hg1 HG
          have HG2 := HG1
          have HM := Lib.hid (MrgF.refl (n := n) (show SrtF Lk.tick _ a mid from SrtF.sub HC.out.2.2.1 (by omega) (by omega)))
          have HG3 := HG2
          have HM3 := Lib.hid (MrgF.refl (n := n) (show SrtF Lk.tick _ mid b from SrtF.eq (SrtF.sub HC.out.2.2.2.1 (by omega) (by omega)) fun i h1 h2 => HM.out.ou i (by omega)))
          go_wp2_with fail
          go_end0
          exact ⟨rfl, _, HG3.out.1, mrg_halves HH.out.2.1 HH.out.2.2 HC.out.1 (by omega) (by omega) hbn HM.out HM3.out, HG3.out.2⟩
        · have hR : rotF F s m e = F := by rw [k1]; exact rot_trivL F
          have hR0 := Lib.hid hR
          rw [hR] at HC
          clear hR
          have n1 : ¬ ((s : Int) < (m : Int)) := by omega
          have n2 : ((m : Int) < (e : Int)) := by omega
          have n3 : ((a : Int) < (s : Int)) := by omega
          have n4 : ((s : Int) < (mid : Int)) := by omega
          have n5 : ¬ ((mid : Int) < (e : Int)) := by omega
          have n6 : ((e : Int) < (b : Int)) := by omega
          clear k1 k2 k3
          have HG1 := HG
          go_wp2_with fail
          refine (HI.out a s mid _ _ (by omega) HG1.out.1 (by omega) (by omega) (by omega) HC.out.2.1 HC.out.2.2.1).mono ?_; rintro e w2 ⟨rfl, G, ho2, hm2, hg2⟩
          have HG2 := Lib.hid (And.intro ho2 (HT.out _ _ HG1.out.2 hg2))
          have HM := Lib.hid hm2
          clear ho2 hg2 hm2 HG1
          have HG3 := HG2
          have HM3 := Lib.hid (MrgF.refl (n := n) (show SrtF Lk.tick _ mid b from SrtF.eq (SrtF.sub HC.out.2.2.2.2 (by omega) (by omega)) fun i h1 h2 => HM.out.ou i (by omega)))
          go_wp2_with fail
          go_end0
          exact ⟨rfl, _, HG3.out.1, mrg_halves HH.out.2.1 HH.out.2.2 HC.out.1 (by omega) (by omega) hbn (by rw [hR0.out]; exact HM.out) HM3.out, HG3.out.2⟩
        · have hR : rotF F s m e = F := by rw [k1]; exact rot_trivL F
          have hR0 := Lib.hid hR
          rw [hR] at HC
          clear hR
          have n1 : ¬ ((s : Int) < (m : Int)) := by omega
          have n2 : ¬ ((m : Int) < (e : Int)) := by omega
          have n3 : ((a : Int) < (s : Int)) := by omega
          have n4 : ¬ ((s : Int) < (mid : Int)) := by omega
          have n5 : ¬ ((mid : Int) < (e : Int)) := by omega
          have n6 : ((e : Int) < (b : Int)) := by omega
          clear k1 k2 k3
          have HG1 := HG
          have HG2 := HG1
          have HM := Lib.hid (MrgF.refl (n := n) (show SrtF Lk.tick _ a mid from SrtF.sub HC.out.2.1 (by omega) (by omega)))
          have HG3 := HG2
          have HM3 := Lib.hid (MrgF.refl (n := n) (show SrtF Lk.tick _ mid b from SrtF.eq (SrtF.sub HC.out.2.2.2.2 (by omega) (by omega)) fun i h1 h2 => HM.out.ou i (by omega)))
          go_wp2_with fail
          go_end0
          exact ⟨rfl, _, HG3.out.1, mrg_halves HH.out.2.1 HH.out.2.2 HC.out.1 (by omega) (by omega) hbn (by rw [hR0.out]; exact HM.out) HM3.out, HG3.out.2⟩
end Go.Proofs.YtmhelhjjadoiaaaDoor
