/- Texts of this claim in one: MgDC, MgE, MgF, MgG, MgH, MgI. No condition but those stated. -/
import Derived.Test.YtmhelhjjadoiaaaGreatDoorPackB
import Derived.Lib.AppendZeros
import Derived.Lib.SliceRun
import Derived.Laws.StructEq
import Derived.Shelf.SlicesE.Kit
import Derived.Shelf.SlicesE.Equal
/- The library's merging of two sorted runs, at looks. No condition but those stated. -/
namespace Go.Proofs.YtmhelhjjadoiaaaGreatDoor
set_option linter.unusedVariables false
set_option linter.unusedSimpArgs false
open Go.RowKit Go.Sort
theorem cut_of {F : Nat → Lk} {a m b mid s s0 r0 : Nat} (ham : a < m) (hmb : m < b) (hmid : mid = (a + b) / 2) (h0 : mid < m ∧ s0 = mid + m - b ∧ r0 = mid ∨ m ≤ mid ∧ s0 = a ∧ r0 = m)
    (hs : s0 ≤ s) (hr : s ≤ r0) (hlo : s0 < s → (F (s - 1)).tick ≤ (F (mid + m - s)).tick) (hhi : s < r0 → (F (mid + m - 1 - s)).tick < (F s).tick) :
    CutF Lk.tick F a m b mid s (mid + m - s) where
  sum := by omega
  as_ := by omega
  sm := by omega
  smid := by omega
  me := by omega
  eb := by omega
  low := fun h1 h2 => hlo (by omega)
  up := fun h1 h2 => by
    have := hhi (by omega)
    rw [show mid + m - s - 1 = mid + m - 1 - s by omega]
    omega
set_option maxRecDepth 100000 in
set_option maxHeartbeats 16000000 in
theorem C_symC (base g n cap a m b : Nat) (F : Nat → Lk) (w : World) (h : KF base w g n cap F) (hn : n ≤ 1048576) (ham : a + 2 ≤ m) (hmb : m + 2 ≤ b) (hbn : b ≤ n) (hs1 : SrtF Lk.tick F a m) (hs2 : SrtF Lk.tick F m b)
    (IH : ∀ (a' m' b' : Nat) (F' : Nat → Lk) (w' : World), b' - a' < b - a → KF base w' g n cap F' → a' < m' → m' < b' → b' ≤ n → SrtF Lk.tick F' a' m' → SrtF Lk.tick F' m' b' →
      Calls Tryz.prog 104 #[.slice (some ⟨g, 0, none⟩) n cap, .int .i64 a', .int .i64 m', .int .i64 b', .func (.func 64) #[] #[]] w' fun e w'' =>
      e = .returned (.tuple #[]) ∧ ∃ G, KF base w'' g n cap G ∧ MrgF Lk.tick F' G a' b' n ∧ w'.grownBy w'' (some g)) :
    Calls Tryz.prog 104 #[.slice (some ⟨g, 0, none⟩) n cap, .int .i64 a, .int .i64 m, .int .i64 b, .func (.func 64) #[] #[]] w fun e w' =>
      e = .returned (.tuple #[]) ∧ ∃ G, KF base w' g n cap G ∧ MrgF Lk.tick F G a b n ∧ w.grownBy w' (some g) := by
  obtain ⟨hcap, hcm⟩ := h.cap
  have HH := Lib.hid (And.intro h (And.intro hs1 hs2))
  have HI := Lib.hid IH
  clear h hs1 hs2 IH
  have e0 : ((m : Int) - (a : Int) == 1) = false := by rw [beq_eq_false_iff_ne]; omega
  have e1 : ((b : Int) - (m : Int) == 1) = false := by rw [beq_eq_false_iff_ne]; omega
  obtain ⟨mid, hmid⟩ : ∃ mid : Nat, mid = (a + b) / 2 := ⟨_, rfl⟩
  have em : ((a : Int) + (b : Int)) / 2 = (mid : Int) := by omega
  have hm1 : a + 2 ≤ mid := by omega
  have hm2 : mid + 2 ≤ b := by omega
  obtain ⟨s0, r0, h0, hs0⟩ : ∃ s0 r0 : Nat, (mid < m ∧ s0 = mid + m - b ∧ r0 = mid ∨ m ≤ mid ∧ s0 = a ∧ r0 = m) ∧ s0 < r0 := by
    by_cases c : mid < m
    · exact ⟨mid + m - b, mid, Or.inl ⟨c, rfl, rfl⟩, by omega⟩
    · exact ⟨a, m, Or.inr ⟨by omega, rfl, rfl⟩, by omega⟩
  have gi : ∀ (w1 w2 : World), w.grownBy w1 (some g) → w1.grownBy w2 (some g) → w.grownBy w2 (some g) := fun _ _ h k => grown_transK h k
  have HT := Lib.hid gi
  clear gi hmid
  have hmid : Hid (mid = (a + b) / 2) := Lib.hid (by omega)
  have es : mid < m → (mid : Int) + (m : Int) - (b : Int) = ((mid + m - b : Nat) : Int) := fun h => by omega
  rcases h0 with ⟨c, c1, c2⟩ | ⟨c, c1, c2⟩
  · have HS := Lib.hid (And.intro c1 c2)
    have HS2 : Hid (mid < m ∧ s0 = mid + m - b ∧ r0 = mid ∨ m ≤ mid ∧ s0 = a ∧ r0 = m) := Lib.hid (by first | exact Or.inl ⟨c, c1, c2⟩ | exact Or.inr ⟨c, c1, c2⟩)
    first | (have es2 := es c) | (have es2 : True := trivial)
    clear c1 c2 es
    go_enter Tryz.func104, Tryz.ntmps104
    go_wp2
    go_loopw [20, 21] (fun p q wr => ∃ s r : Nat, p = .int .i64 s ∧ q = .int .i64 r ∧ s0 ≤ s ∧ s ≤ r ∧ r ≤ r0 ∧ (s0 < s → (F (s - 1)).tick ≤ (F (mid + m - s)).tick) ∧ (r < r0 → (F (mid + m - 1 - r)).tick < (F r).tick) ∧ Below w.heap.size w wr) (fun p q _ => (intOf q).toNat - (intOf p).toNat)
    case atStart => exact ⟨s0, r0, congrArg (Value.int .i64) (by have := HS.out; omega), congrArg (Value.int .i64) (by have := HS.out; omega), Nat.le_refl _, by omega, Nat.le_refl _, fun h => absurd h (by omega), fun h => absurd h (by omega), by (repeat (first | with_reducible exact Below.refl _ _ | with_reducible exact below_regrown _ _ _ | with_reducible refine bel_step0 (by assumption) ?_ | with_reducible refine bel_alloc0 ?_ _ | with_reducible refine bel_regrown0 ?_ _ _ | with_reducible refine bel_regrown ?_ (by first | omega | (simp; done) | (simp; omega)) _ _ | with_reducible refine below_drewN ?_ _ | with_reducible refine Below.drew ?_ | with_reducible refine Below.alloc ?_ (by first | omega | (simp; done) | (simp; omega)) _ | with_reducible refine Below.setCell ?_ (by first | omega | (simp; done) | (simp; omega)) _ | with_reducible refine bel_step (by assumption) (by first | omega | (simp; done) | (simp; omega)) ?_ | with_reducible refine bel_grown (by assumption) (by first | omega | (simp; done) | (simp; omega)) (by first | omega | (simp; done) | (simp; omega)) ?_))⟩
    case round =>
      obtain ⟨s, r, rfl, rfl, hi, hij, hj, hlo, hhi, hB⟩ := hrel
      by_cases hlt : s < r
      · obtain ⟨h, hh⟩ : ∃ h : Nat, (s + r) / 2 = h := ⟨_, rfl⟩
        have eh : ((s : Int) + (r : Int)) / 2 = (h : Int) := by omega
        have hh1 : s ≤ h := by omega
        have hh2 : h < r := by omega
        have hA : mid + m ≤ s0 + b ∧ r0 ≤ m ∧ r0 ≤ mid ∧ a ≤ s0 := by have := HS2.out; have := hmid.out; omega
        obtain ⟨hA1, hA2, hA3, hA4⟩ := hA
        obtain ⟨z, hz⟩ : ∃ z : Nat, mid + m - 1 - h = z := ⟨_, rfl⟩
        have hzn : z < n := by omega
        have ez : (mid : Int) + (m : Int) - 1 - (h : Int) = (z : Int) := by omega
        obtain ⟨x, hx⟩ : ∃ x, F z = x := ⟨_, rfl⟩
        obtain ⟨y, hy⟩ : ∃ y, F h = y := ⟨_, rfl⟩
        obtain ⟨d0, d1, d2, d3, d4⟩ := (HH.out.1.below hB).at_ (show h < n by omega)
        obtain ⟨b0, b1, b2, b3, b4⟩ := (HH.out.1.below hB).at_ hzn
        rw [hx] at b0 b1 b2 b3 b4
        rw [hy] at d0 d1 d2 d3 d4
        have g0 := cell_regrown b0; have g1 := cell_regrown b1; have g2 := cell_regrown b2; have g3 := cell_regrown b3; have g4 := cell_regrown b4
        have k0 := cell_regrown d0; have k1 := cell_regrown d1; have k2 := cell_regrown d2; have k3 := cell_regrown d3; have k4 := cell_regrown d4
        have HE : ∀ d os, Calls Tryz.prog 64 #[.agg #[.int .i64 (x).tick, .int .i64 (x).who, .int .i64 (x).rid, .int .i64 (x).kind, .string (x).why], .agg #[.int .i64 (y).tick, .int .i64 (y).who, .int .i64 (y).rid, .int .i64 (y).kind, .string (y).why]] (grow (redrawn wr d) os) fun e w'' => e = .returned (.int .i64 (cmpI x.tick y.tick)) ∧ ∃ p : Regrown, w'' = grow (redrawn wr p.d) p.os :=
          fun d os => Calls.regrown_of (C_Mrg1 x y _)
        obtain ⟨bb, hb⟩ : ∃ bb, decide (x.tick < y.tick) = bb := ⟨_, rfl⟩
        have hcl : decide (cmpI x.tick y.tick < 0) = bb := by rw [cmpI_lt]; exact hb
        have q1 : (0 : Int) ≤ (h : Int) := by omega
        have q2 : (h : Int) < (n : Int) := by omega
        have q3 : (z : Int) < (n : Int) := by omega
        have q4 : (0 : Int) ≤ (z : Int) := by omega
        have HH2 := Lib.hid (And.intro hlo (And.intro hhi (And.intro hx (And.intro hy (And.intro hb hz)))))
        clear hlo hhi b0 b1 b2 b3 b4 d0 d1 d2 d3 d4 hb hx hy hz hh
        go_wp2
        (refine wp_region_quiet_below (by kernel_rfl) (by kernel_rfl) ?_; (repeat (go_big_quiet_step (exact HE _ _))); refine wpQuiet_nil ?_; intro _ hw'; obtain ⟨⟨dq, osq⟩, hw''⟩ := hw'; subst hw'')
        clear g0 g1 g2 g3 g4 k0 k1 k2 k3 k4 HE
        cases bb
        · go_wp2
          go_roundw
          case rel => exact ⟨h + 1, r, by go_num, rfl, by omega, by omega, hj, fun _ => by rw [show h + 1 - 1 = h by omega, show mid + m - (h + 1) = z by (have := HH2.out.2.2.2.2.2; omega), HH2.out.2.2.1, HH2.out.2.2.2.1]; have := HH2.out.2.2.2.2.1; simp at this; omega, HH2.out.2.1, by (repeat (first | with_reducible exact Below.refl _ _ | with_reducible exact below_regrown _ _ _ | with_reducible refine bel_step0 (by assumption) ?_ | with_reducible refine bel_alloc0 ?_ _ | with_reducible refine bel_regrown0 ?_ _ _ | with_reducible refine bel_regrown ?_ (by first | omega | (simp; done) | (simp; omega)) _ _ | with_reducible refine below_drewN ?_ _ | with_reducible refine Below.drew ?_ | with_reducible refine Below.alloc ?_ (by first | omega | (simp; done) | (simp; omega)) _ | with_reducible refine Below.setCell ?_ (by first | omega | (simp; done) | (simp; omega)) _ | with_reducible refine bel_step (by assumption) (by first | omega | (simp; done) | (simp; omega)) ?_ | with_reducible refine bel_grown (by assumption) (by first | omega | (simp; done) | (simp; omega)) (by first | omega | (simp; done) | (simp; omega)) ?_))⟩
          case measure => simp [intOf]; omega
        · go_wp2
          go_roundw
          case rel => exact ⟨s, h, rfl, rfl, hi, by omega, by omega, HH2.out.1, fun _ => by rw [HH2.out.2.2.2.2.2, HH2.out.2.2.1, HH2.out.2.2.2.1]; have := HH2.out.2.2.2.2.1; simp at this; omega, by (repeat (first | with_reducible exact Below.refl _ _ | with_reducible exact below_regrown _ _ _ | with_reducible refine bel_step0 (by assumption) ?_ | with_reducible refine bel_alloc0 ?_ _ | with_reducible refine bel_regrown0 ?_ _ _ | with_reducible refine bel_regrown ?_ (by first | omega | (simp; done) | (simp; omega)) _ _ | with_reducible refine below_drewN ?_ _ | with_reducible refine Below.drew ?_ | with_reducible refine Below.alloc ?_ (by first | omega | (simp; done) | (simp; omega)) _ | with_reducible refine Below.setCell ?_ (by first | omega | (simp; done) | (simp; omega)) _ | with_reducible refine bel_step (by assumption) (by first | omega | (simp; done) | (simp; omega)) ?_ | with_reducible refine bel_grown (by assumption) (by first | omega | (simp; done) | (simp; omega)) (by first | omega | (simp; done) | (simp; omega)) ?_))⟩
          case measure => simp [intOf]; omega
      · obtain rfl : s = r := by omega
        have hC := cut_of (F := F) (a := a) (b := b) (m := m) (by omega) (by omega) hmid.out HS2.out hi hj hlo hhi
        have hA : mid + m ≤ s0 + b ∧ r0 ≤ m ∧ r0 ≤ mid ∧ a ≤ s0 := by have := HS2.out; have := hmid.out; omega
        obtain ⟨e, he⟩ : ∃ e : Nat, mid + m - s = e := ⟨_, rfl⟩
        have ee : (mid : Int) + (m : Int) - (s : Int) = (e : Int) := by omega
        rw [he] at hC
        obtain ⟨P1, P2, P3, P4, _⟩ := cut_parts HH.out.2.1 HH.out.2.2 hC (by omega) (by omega)
        have hC2 := hC
        obtain ⟨u1, u2, u3, u4, u5, u6, u7, u8⟩ := hC2
        have HC := Lib.hid (And.intro hC (And.intro P1 (And.intro P2 (And.intro P3 P4))))
        have HG := Lib.hid (And.intro (HH.out.1.below hB) (show w.grownBy wr (some g) from grown_belowK (World.grownBy.refl _ _) hB))
        clear hlo hhi hB u7 u8 hC P1 P2 P3 P4 he
        have ways : (s < m ∧ m < e ∧ a < s ∧ e < b) ∨ (s < m ∧ m < e ∧ a < s ∧ e = b) ∨ (s < m ∧ m < e ∧ s = a ∧ e = b) ∨ (s < m ∧ s = mid ∧ e = m) := by omega
        rcases ways with ⟨k1, k2, k3, k4⟩ | ⟨k1, k2, k3, k4⟩ | ⟨k1, k2, k3, k4⟩ | ⟨k1, k2, k3⟩
        · have n1 : ((s : Int) < (m : Int)) := by omega
          have n2 : ((m : Int) < (e : Int)) := by omega
          have n3 : ((a : Int) < (s : Int)) := by omega
          have n4 : ((s : Int) < (mid : Int)) := by omega
          have n5 : ((mid : Int) < (e : Int)) := by omega
          have n6 : ((e : Int) < (b : Int)) := by omega
          clear k1 k2 k3 k4
          go_wp2_with fail
          refine (C_rotK base g n cap s m e F _ HG.out.1 hn (by omega) (by omega) (by omega)).mono ?_; rintro e w1 ⟨rfl, ho1, hg1⟩
          have HG1 := Lib.hid (And.intro ho1 (HT.out _ _ HG.out.2 hg1))
          clear ho1 hg1 HG
          go_wp2_with fail
          refine (HI.out a s mid _ _ (by omega) HG1.out.1 (by omega) (by omega) (by omega) HC.out.2.1 HC.out.2.2.1).mono ?_; rintro e w2 ⟨rfl, G, ho2, hm2, hg2⟩
          have HG2 := Lib.hid (And.intro ho2 (HT.out _ _ HG1.out.2 hg2))
          have HM := Lib.hid hm2
          clear ho2 hg2 hm2 HG1
          go_wp2_with fail
          refine (HI.out mid e b _ _ (by omega) HG2.out.1 (by omega) (by omega) (by omega) (HC.out.2.2.2.1.eq fun i h1 h2 => HM.out.ou i (by omega)) (HC.out.2.2.2.2.eq fun i h1 h2 => HM.out.ou i (by omega))).mono ?_; rintro e w3 ⟨rfl, H, ho3, hm3, hg3⟩
          have HG3 := Lib.hid (And.intro ho3 (HT.out _ _ HG2.out.2 hg3))
          have HM3 := Lib.hid hm3
          clear ho3 hg3 hm3 HG2
          go_wp2_with fail
          go_end0
          exact ⟨rfl, _, HG3.out.1, mrg_halves HH.out.2.1 HH.out.2.2 HC.out.1 (by omega) (by omega) hbn HM.out HM3.out, HG3.out.2⟩
        · have n1 : ((s : Int) < (m : Int)) := by omega
          have n2 : ((m : Int) < (e : Int)) := by omega
          have n3 : ((a : Int) < (s : Int)) := by omega
          have n4 : ((s : Int) < (mid : Int)) := by omega
          have n5 : ((mid : Int) < (e : Int)) := by omega
          have n6 : ¬ ((e : Int) < (b : Int)) := by omega
          clear k1 k2 k3 k4
          go_wp2_with fail
          refine (C_rotK base g n cap s m e F _ HG.out.1 hn (by omega) (by omega) (by omega)).mono ?_; rintro e w1 ⟨rfl, ho1, hg1⟩
          have HG1 := Lib.hid (And.intro ho1 (HT.out _ _ HG.out.2 hg1))
          clear ho1 hg1 HG
          go_wp2_with fail
          refine (HI.out a s mid _ _ (by omega) HG1.out.1 (by omega) (by omega) (by omega) HC.out.2.1 HC.out.2.2.1).mono ?_; rintro e w2 ⟨rfl, G, ho2, hm2, hg2⟩
          have HG2 := Lib.hid (And.intro ho2 (HT.out _ _ HG1.out.2 hg2))
          have HM := Lib.hid hm2
          clear ho2 hg2 hm2 HG1
          have HG3 := HG2
          have HM3 := Lib.hid (MrgF.refl (n := n) (show SrtF Lk.tick _ mid b from SrtF.eq (SrtF.sub HC.out.2.2.2.1 (by omega) (by omega)) fun i h1 h2 => HM.out.ou i (by omega)))
          go_wp2_with fail
          go_end0
          exact ⟨rfl, _, HG3.out.1, mrg_halves HH.out.2.1 HH.out.2.2 HC.out.1 (by omega) (by omega) hbn HM.out HM3.out, HG3.out.2⟩
        · have n1 : ((s : Int) < (m : Int)) := by omega
          have n2 : ((m : Int) < (e : Int)) := by omega
          have n3 : ¬ ((a : Int) < (s : Int)) := by omega
          have n4 : ((s : Int) < (mid : Int)) := by omega
          have n5 : ((mid : Int) < (e : Int)) := by omega
          have n6 : ¬ ((e : Int) < (b : Int)) := by omega
          clear k1 k2 k3 k4
          go_wp2_with fail
          refine (C_rotK base g n cap s m e F _ HG.out.1 hn (by omega) (by omega) (by omega)).mono ?_; rintro e w1 ⟨rfl, ho1, hg1⟩
          have HG1 := Lib.hid (And.intro ho1 (HT.out _ _ HG.out.2 hg1))
          clear ho1 hg1 HG
          have HG2 := HG1
          have HM := Lib.hid (MrgF.refl (n := n) (show SrtF Lk.tick _ a mid from SrtF.sub HC.out.2.2.1 (by omega) (by omega)))
          have HG3 := HG2
          have HM3 := Lib.hid (MrgF.refl (n := n) (show SrtF Lk.tick _ mid b from SrtF.eq (SrtF.sub HC.out.2.2.2.1 (by omega) (by omega)) fun i h1 h2 => HM.out.ou i (by omega)))
          go_wp2_with fail
          go_end0
          exact ⟨rfl, _, HG3.out.1, mrg_halves HH.out.2.1 HH.out.2.2 HC.out.1 (by omega) (by omega) hbn HM.out HM3.out, HG3.out.2⟩
        · have hR : rotF F s m e = F := by rw [k3]; exact rot_trivR F (by omega)
          have hR0 := Lib.hid hR
          rw [hR] at HC
          clear hR
          have n1 : ((s : Int) < (m : Int)) := by omega
          have n2 : ¬ ((m : Int) < (e : Int)) := by omega
          have n3 : ((a : Int) < (s : Int)) := by omega
          have n4 : ¬ ((s : Int) < (mid : Int)) := by omega
          have n5 : ((mid : Int) < (e : Int)) := by omega
          have n6 : ((e : Int) < (b : Int)) := by omega
          clear k1 k2 k3
          have HG1 := HG
          have HG2 := HG1
          have HM := Lib.hid (MrgF.refl (n := n) (show SrtF Lk.tick _ a mid from SrtF.sub HC.out.2.1 (by omega) (by omega)))
          go_wp2_with fail
          refine (HI.out mid e b _ _ (by omega) HG2.out.1 (by omega) (by omega) (by omega) (HC.out.2.2.2.1.eq fun i h1 h2 => HM.out.ou i (by omega)) (HC.out.2.2.2.2.eq fun i h1 h2 => HM.out.ou i (by omega))).mono ?_; rintro e w3 ⟨rfl, H, ho3, hm3, hg3⟩
          have HG3 := Lib.hid (And.intro ho3 (HT.out _ _ HG2.out.2 hg3))
          have HM3 := Lib.hid hm3
          clear ho3 hg3 hm3 HG2
          go_wp2_with fail
          go_end0
          exact ⟨rfl, _, HG3.out.1, mrg_halves HH.out.2.1 HH.out.2.2 HC.out.1 (by omega) (by omega) hbn (by rw [hR0.out]; exact HM.out) HM3.out, HG3.out.2⟩
  · have HS := Lib.hid (And.intro c1 c2)
    have HS2 : Hid (mid < m ∧ s0 = mid + m - b ∧ r0 = mid ∨ m ≤ mid ∧ s0 = a ∧ r0 = m) := Lib.hid (by first | exact Or.inl ⟨c, c1, c2⟩ | exact Or.inr ⟨c, c1, c2⟩)
    first | (have es2 := es c) | (have es2 : True := trivial)
    clear c1 c2 es
    go_enter Tryz.func104, Tryz.ntmps104
    go_wp2
    go_loopw [20, 21] (fun p q wr => ∃ s r : Nat, p = .int .i64 s ∧ q = .int .i64 r ∧ s0 ≤ s ∧ s ≤ r ∧ r ≤ r0 ∧ (s0 < s → (F (s - 1)).tick ≤ (F (mid + m - s)).tick) ∧ (r < r0 → (F (mid + m - 1 - r)).tick < (F r).tick) ∧ Below w.heap.size w wr) (fun p q _ => (intOf q).toNat - (intOf p).toNat)
    case atStart => exact ⟨s0, r0, congrArg (Value.int .i64) (by have := HS.out; omega), congrArg (Value.int .i64) (by have := HS.out; omega), Nat.le_refl _, by omega, Nat.le_refl _, fun h => absurd h (by omega), fun h => absurd h (by omega), by (repeat (first | with_reducible exact Below.refl _ _ | with_reducible exact below_regrown _ _ _ | with_reducible refine bel_step0 (by assumption) ?_ | with_reducible refine bel_alloc0 ?_ _ | with_reducible refine bel_regrown0 ?_ _ _ | with_reducible refine bel_regrown ?_ (by first | omega | (simp; done) | (simp; omega)) _ _ | with_reducible refine below_drewN ?_ _ | with_reducible refine Below.drew ?_ | with_reducible refine Below.alloc ?_ (by first | omega | (simp; done) | (simp; omega)) _ | with_reducible refine Below.setCell ?_ (by first | omega | (simp; done) | (simp; omega)) _ | with_reducible refine bel_step (by assumption) (by first | omega | (simp; done) | (simp; omega)) ?_ | with_reducible refine bel_grown (by assumption) (by first | omega | (simp; done) | (simp; omega)) (by first | omega | (simp; done) | (simp; omega)) ?_))⟩
    case round =>
      obtain ⟨s, r, rfl, rfl, hi, hij, hj, hlo, hhi, hB⟩ := hrel
      by_cases hlt : s < r
      · obtain ⟨h, hh⟩ : ∃ h : Nat, (s + r) / 2 = h := ⟨_, rfl⟩
        have eh : ((s : Int) + (r : Int)) / 2 = (h : Int) := by omega
        have hh1 : s ≤ h := by omega
        have hh2 : h < r := by omega
        have hA : mid + m ≤ s0 + b ∧ r0 ≤ m ∧ r0 ≤ mid ∧ a ≤ s0 := by have := HS2.out; have := hmid.out; omega
        obtain ⟨hA1, hA2, hA3, hA4⟩ := hA
        obtain ⟨z, hz⟩ : ∃ z : Nat, mid + m - 1 - h = z := ⟨_, rfl⟩
        have hzn : z < n := by omega
        have ez : (mid : Int) + (m : Int) - 1 - (h : Int) = (z : Int) := by omega
        obtain ⟨x, hx⟩ : ∃ x, F z = x := ⟨_, rfl⟩
        obtain ⟨y, hy⟩ : ∃ y, F h = y := ⟨_, rfl⟩
        obtain ⟨d0, d1, d2, d3, d4⟩ := (HH.out.1.below hB).at_ (show h < n by omega)
        obtain ⟨b0, b1, b2, b3, b4⟩ := (HH.out.1.below hB).at_ hzn
        rw [hx] at b0 b1 b2 b3 b4
        rw [hy] at d0 d1 d2 d3 d4
        have g0 := cell_regrown b0; have g1 := cell_regrown b1; have g2 := cell_regrown b2; have g3 := cell_regrown b3; have g4 := cell_regrown b4
        have k0 := cell_regrown d0; have k1 := cell_regrown d1; have k2 := cell_regrown d2; have k3 := cell_regrown d3; have k4 := cell_regrown d4
        have HE : ∀ d os, Calls Tryz.prog 64 #[.agg #[.int .i64 (x).tick, .int .i64 (x).who, .int .i64 (x).rid, .int .i64 (x).kind, .string (x).why], .agg #[.int .i64 (y).tick, .int .i64 (y).who, .int .i64 (y).rid, .int .i64 (y).kind, .string (y).why]] (grow (redrawn wr d) os) fun e w'' => e = .returned (.int .i64 (cmpI x.tick y.tick)) ∧ ∃ p : Regrown, w'' = grow (redrawn wr p.d) p.os :=
          fun d os => Calls.regrown_of (C_Mrg1 x y _)
        obtain ⟨bb, hb⟩ : ∃ bb, decide (x.tick < y.tick) = bb := ⟨_, rfl⟩
        have hcl : decide (cmpI x.tick y.tick < 0) = bb := by rw [cmpI_lt]; exact hb
        have q1 : (0 : Int) ≤ (h : Int) := by omega
        have q2 : (h : Int) < (n : Int) := by omega
        have q3 : (z : Int) < (n : Int) := by omega
        have q4 : (0 : Int) ≤ (z : Int) := by omega
        have HH2 := Lib.hid (And.intro hlo (And.intro hhi (And.intro hx (And.intro hy (And.intro hb hz)))))
        clear hlo hhi b0 b1 b2 b3 b4 d0 d1 d2 d3 d4 hb hx hy hz hh
        go_wp2
        (refine wp_region_quiet_below (by kernel_rfl) (by kernel_rfl) ?_; (repeat (go_big_quiet_step (exact HE _ _))); refine wpQuiet_nil ?_; intro _ hw'; obtain ⟨⟨dq, osq⟩, hw''⟩ := hw'; subst hw'')
        clear g0 g1 g2 g3 g4 k0 k1 k2 k3 k4 HE
        cases bb
        · go_wp2
          go_roundw
          case rel => exact ⟨h + 1, r, by go_num, rfl, by omega, by omega, hj, fun _ => by rw [show h + 1 - 1 = h by omega, show mid + m - (h + 1) = z by (have := HH2.out.2.2.2.2.2; omega), HH2.out.2.2.1, HH2.out.2.2.2.1]; have := HH2.out.2.2.2.2.1; simp at this; omega, HH2.out.2.1, by (repeat (first | with_reducible exact Below.refl _ _ | with_reducible exact below_regrown _ _ _ | with_reducible refine bel_step0 (by assumption) ?_ | with_reducible refine bel_alloc0 ?_ _ | with_reducible refine bel_regrown0 ?_ _ _ | with_reducible refine bel_regrown ?_ (by first | omega | (simp; done) | (simp; omega)) _ _ | with_reducible refine below_drewN ?_ _ | with_reducible refine Below.drew ?_ | with_reducible refine Below.alloc ?_ (by first | omega | (simp; done) | (simp; omega)) _ | with_reducible refine Below.setCell ?_ (by first | omega | (simp; done) | (simp; omega)) _ | with_reducible refine bel_step (by assumption) (by first | omega | (simp; done) | (simp; omega)) ?_ | with_reducible refine bel_grown (by assumption) (by first | omega | (simp; done) | (simp; omega)) (by first | omega | (simp; done) | (simp; omega)) ?_))⟩
          case measure => simp [intOf]; omega
        · go_wp2
          go_roundw
          case rel => exact ⟨s, h, rfl, rfl, hi, by omega, by omega, HH2.out.1, fun _ => by rw [HH2.out.2.2.2.2.2, HH2.out.2.2.1, HH2.out.2.2.2.1]; have := HH2.out.2.2.2.2.1; simp at this; omega, by (repeat (first | with_reducible exact Below.refl _ _ | with_reducible exact below_regrown _ _ _ | with_reducible refine bel_step0 (by assumption) ?_ | with_reducible refine bel_alloc0 ?_ _ | with_reducible refine bel_regrown0 ?_ _ _ | with_reducible refine bel_regrown ?_ (by first | omega | (simp; done) | (simp; omega)) _ _ | with_reducible refine below_drewN ?_ _ | with_reducible refine Below.drew ?_ | with_reducible refine Below.alloc ?_ (by first | omega | (simp; done) | (simp; omega)) _ | with_reducible refine Below.setCell ?_ (by first | omega | (simp; done) | (simp; omega)) _ | with_reducible refine bel_step (by assumption) (by first | omega | (simp; done) | (simp; omega)) ?_ | with_reducible refine bel_grown (by assumption) (by first | omega | (simp; done) | (simp; omega)) (by first | omega | (simp; done) | (simp; omega)) ?_))⟩
          case measure => simp [intOf]; omega
      · obtain rfl : s = r := by omega
        have hC := cut_of (F := F) (a := a) (b := b) (m := m) (by omega) (by omega) hmid.out HS2.out hi hj hlo hhi
        have hA : mid + m ≤ s0 + b ∧ r0 ≤ m ∧ r0 ≤ mid ∧ a ≤ s0 := by have := HS2.out; have := hmid.out; omega
        obtain ⟨e, he⟩ : ∃ e : Nat, mid + m - s = e := ⟨_, rfl⟩
        have ee : (mid : Int) + (m : Int) - (s : Int) = (e : Int) := by omega
        rw [he] at hC
        obtain ⟨P1, P2, P3, P4, _⟩ := cut_parts HH.out.2.1 HH.out.2.2 hC (by omega) (by omega)
        have hC2 := hC
        obtain ⟨u1, u2, u3, u4, u5, u6, u7, u8⟩ := hC2
        have HC := Lib.hid (And.intro hC (And.intro P1 (And.intro P2 (And.intro P3 P4))))
        have HG := Lib.hid (And.intro (HH.out.1.below hB) (show w.grownBy wr (some g) from grown_belowK (World.grownBy.refl _ _) hB))
        clear hlo hhi hB u7 u8 hC P1 P2 P3 P4 he
        have ways : (s < m ∧ m < e ∧ a < s ∧ e < b) ∨ (s < m ∧ m < e ∧ s = a ∧ e < b) ∨ (s < m ∧ m < e ∧ s = a ∧ e = b) ∨ (s = m ∧ e = mid ∧ m < mid) ∨ (s = m ∧ e = mid ∧ m = mid) := by omega
        rcases ways with ⟨k1, k2, k3, k4⟩ | ⟨k1, k2, k3, k4⟩ | ⟨k1, k2, k3, k4⟩ | ⟨k1, k2, k3⟩ | ⟨k1, k2, k3⟩
        · have n1 : ((s : Int) < (m : Int)) := by omega
          have n2 : ((m : Int) < (e : Int)) := by omega
          have n3 : ((a : Int) < (s : Int)) := by omega
          have n4 : ((s : Int) < (mid : Int)) := by omega
          have n5 : ((mid : Int) < (e : Int)) := by omega
          have n6 : ((e : Int) < (b : Int)) := by omega
          clear k1 k2 k3 k4
          go_wp2_with fail
          refine (C_rotK base g n cap s m e F _ HG.out.1 hn (by omega) (by omega) (by omega)).mono ?_; rintro e w1 ⟨rfl, ho1, hg1⟩
          have HG1 := Lib.hid (And.intro ho1 (HT.out _ _ HG.out.2 hg1))
          clear ho1 hg1 HG
          go_wp2_with fail
          refine (HI.out a s mid _ _ (by omega) HG1.out.1 (by omega) (by omega) (by omega) HC.out.2.1 HC.out.2.2.1).mono ?_; rintro e w2 ⟨rfl, G, ho2, hm2, hg2⟩
          have HG2 := Lib.hid (And.intro ho2 (HT.out _ _ HG1.out.2 hg2))
          have HM := Lib.hid hm2
          clear ho2 hg2 hm2 HG1
          go_wp2_with fail
          refine (HI.out mid e b _ _ (by omega) HG2.out.1 (by omega) (by omega) (by omega) (HC.out.2.2.2.1.eq fun i h1 h2 => HM.out.ou i (by omega)) (HC.out.2.2.2.2.eq fun i h1 h2 => HM.out.ou i (by omega))).mono ?_; rintro e w3 ⟨rfl, H, ho3, hm3, hg3⟩
          have HG3 := Lib.hid (And.intro ho3 (HT.out _ _ HG2.out.2 hg3))
          have HM3 := Lib.hid hm3
          clear ho3 hg3 hm3 HG2
          go_wp2_with fail
          go_end0
          exact ⟨rfl, _, HG3.out.1, mrg_halves HH.out.2.1 HH.out.2.2 HC.out.1 (by omega) (by omega) hbn HM.out HM3.out, HG3.out.2⟩
        · have n1 : ((s : Int) < (m : Int)) := by omega
          have n2 : ((m : Int) < (e : Int)) := by omega
          have n3 : ¬ ((a : Int) < (s : Int)) := by omega
          have n4 : ((s : Int) < (mid : Int)) := by omega
          have n5 : ((mid : Int) < (e : Int)) := by omega
          have n6 : ((e : Int) < (b : Int)) := by omega
          clear k1 k2 k3 k4
          go_wp2_with fail
          refine (C_rotK base g n cap s m e F _ HG.out.1 hn (by omega) (by omega) (by omega)).mono ?_; rintro e w1 ⟨rfl, ho1, hg1⟩
          have HG1 := Lib.hid (And.intro ho1 (HT.out _ _ HG.out.2 hg1))
          clear ho1 hg1 HG
          have HG2 := HG1
          have HM := Lib.hid (MrgF.refl (n := n) (show SrtF Lk.tick _ a mid from SrtF.sub HC.out.2.2.1 (by omega) (by omega)))
          go_wp2_with fail
          refine (HI.out mid e b _ _ (by omega) HG2.out.1 (by omega) (by omega) (by omega) (HC.out.2.2.2.1.eq fun i h1 h2 => HM.out.ou i (by omega)) (HC.out.2.2.2.2.eq fun i h1 h2 => HM.out.ou i (by omega))).mono ?_; rintro e w3 ⟨rfl, H, ho3, hm3, hg3⟩
          have HG3 := Lib.hid (And.intro ho3 (HT.out _ _ HG2.out.2 hg3))
          have HM3 := Lib.hid hm3
          clear ho3 hg3 hm3 HG2
          go_wp2_with fail
          go_end0
          exact ⟨rfl, _, HG3.out.1, mrg_halves HH.out.2.1 HH.out.2.2 HC.out.1 (by omega) (by omega) hbn HM.out HM3.out, HG3.out.2⟩
        · have n1 : ((s : Int) < (m : Int)) := by omega
          have n2 : ((m : Int) < (e : Int)) := by omega
          have n3 : ¬ ((a : Int) < (s : Int)) := by omega
          have n4 : ((s : Int) < (mid : Int)) := by omega
          have n5 : ((mid : Int) < (e : Int)) := by omega
          have n6 : ¬ ((e : Int) < (b : Int)) := by omega
          clear k1 k2 k3 k4
          go_wp2_with fail
          refine (C_rotK base g n cap s m e F _ HG.out.1 hn (by omega) (by omega) (by omega)).mono ?_; rintro e w1 ⟨rfl, ho1, hg1⟩
          have HG1 := Lib.hid (And.intro ho1 (HT.out _ _ HG.out.2 hg1))
          clear ho1 hg1 HG
          have HG2 := HG1
          have HM := Lib.hid (MrgF.refl (n := n) (show SrtF Lk.tick _ a mid from SrtF.sub HC.out.2.2.1 (by omega) (by omega)))
          have HG3 := HG2
          have HM3 := Lib.hid (MrgF.refl (n := n) (show SrtF Lk.tick _ mid b from SrtF.eq (SrtF.sub HC.out.2.2.2.1 (by omega) (by omega)) fun i h1 h2 => HM.out.ou i (by omega)))
          go_wp2_with fail
          go_end0
          exact ⟨rfl, _, HG3.out.1, mrg_halves HH.out.2.1 HH.out.2.2 HC.out.1 (by omega) (by omega) hbn HM.out HM3.out, HG3.out.2⟩
        · have hR : rotF F s m e = F := by rw [k1]; exact rot_trivL F
          have hR0 := Lib.hid hR
          rw [hR] at HC
          clear hR
          have n1 : ¬ ((s : Int) < (m : Int)) := by omega
          have n2 : ((m : Int) < (e : Int)) := by omega
          have n3 : ((a : Int) < (s : Int)) := by omega
          have n4 : ((s : Int) < (mid : Int)) := by omega
          have n5 : ¬ ((mid : Int) < (e : Int)) := by omega
          have n6 : ((e : Int) < (b : Int)) := by omega
          clear k1 k2 k3
          have HG1 := HG
          go_wp2_with fail
          refine (HI.out a s mid _ _ (by omega) HG1.out.1 (by omega) (by omega) (by omega) HC.out.2.1 HC.out.2.2.1).mono ?_; rintro e w2 ⟨rfl, G, ho2, hm2, hg2⟩
          have HG2 := Lib.hid (And.intro ho2 (HT.out _ _ HG1.out.2 hg2))
          have HM := Lib.hid hm2
          clear ho2 hg2 hm2 HG1
          have HG3 := HG2
          have HM3 := Lib.hid (MrgF.refl (n := n) (show SrtF Lk.tick _ mid b from SrtF.eq (SrtF.sub HC.out.2.2.2.2 (by omega) (by omega)) fun i h1 h2 => HM.out.ou i (by omega)))
          go_wp2_with fail
          go_end0
          exact ⟨rfl, _, HG3.out.1, mrg_halves HH.out.2.1 HH.out.2.2 HC.out.1 (by omega) (by omega) hbn (by rw [hR0.out]; exact HM.out) HM3.out, HG3.out.2⟩
        · have hR : rotF F s m e = F := by rw [k1]; exact rot_trivL F
          have hR0 := Lib.hid hR
          rw [hR] at HC
          clear hR
          have n1 : ¬ ((s : Int) < (m : Int)) := by omega
          have n2 : ¬ ((m : Int) < (e : Int)) := by omega
          have n3 : ((a : Int) < (s : Int)) := by omega
          have n4 : ¬ ((s : Int) < (mid : Int)) := by omega
          have n5 : ¬ ((mid : Int) < (e : Int)) := by omega
          have n6 : ((e : Int) < (b : Int)) := by omega
          clear k1 k2 k3
          have HG1 := HG
          have HG2 := HG1
          have HM := Lib.hid (MrgF.refl (n := n) (show SrtF Lk.tick _ a mid from SrtF.sub HC.out.2.1 (by omega) (by omega)))
          have HG3 := HG2
          have HM3 := Lib.hid (MrgF.refl (n := n) (show SrtF Lk.tick _ mid b from SrtF.eq (SrtF.sub HC.out.2.2.2.2 (by omega) (by omega)) fun i h1 h2 => HM.out.ou i (by omega)))
          go_wp2_with fail
          go_end0
          exact ⟨rfl, _, HG3.out.1, mrg_halves HH.out.2.1 HH.out.2.2 HC.out.1 (by omega) (by omega) hbn (by rw [hR0.out]; exact HM.out) HM3.out, HG3.out.2⟩
end Go.Proofs.YtmhelhjjadoiaaaGreatDoor

/- The library's stable sort at looks. No condition but those stated. -/
namespace Go.Proofs.YtmhelhjjadoiaaaGreatDoor
set_option linter.unusedVariables false
set_option linter.unusedSimpArgs false
open Go.RowKit Go.Sort
theorem C_symK (base g n cap : Nat) (hn : n ≤ 1048576) : ∀ (d a m b : Nat) (F : Nat → Lk) (w : World), b - a ≤ d → KF base w g n cap F → a < m → m < b → b ≤ n → SrtF Lk.tick F a m → SrtF Lk.tick F m b →
    Calls Tryz.prog 104 #[.slice (some ⟨g, 0, none⟩) n cap, .int .i64 a, .int .i64 m, .int .i64 b, .func (.func 64) #[] #[]] w fun e w' =>
      e = .returned (.tuple #[]) ∧ ∃ G, KF base w' g n cap G ∧ MrgF Lk.tick F G a b n ∧ w.grownBy w' (some g) := by
  intro d
  induction d with
  | zero => intro a m b F w hd h ham hmb hb; omega
  | succ d ih =>
    intro a m b F w hd h ham hmb hb h1 h2
    by_cases e : m = a + 1
    · subst e
      exact C_symA base g n cap a b F w h hn hmb hb h2
    · by_cases e2 : b = m + 1
      · subst e2
        exact C_symB base g n cap a m F w h hn (by omega) hb h1
      · exact C_symC base g n cap a m b F w h hn (by omega) (by omega) hb h1 h2 fun a' m' b' F' w' hd' => ih a' m' b' F' w' (by omega)
theorem C_insK0 (A : Option Addr) (cap : Nat) (w : World) :
    Calls Tryz.prog 103 #[.slice A 0 cap, .int .i64 0, .int .i64 0, .func (.func 64) #[] #[]] w fun e w' => e = .returned (.tuple #[]) ∧ w = w' := by
  go_enter Tryz.func103, Tryz.ntmps103
  go_wp2
  refine wp_loop_rounds 1 ?_
  rw [rounds_succ]
  go_wp2
  go_end0
  exact ⟨rfl, rfl⟩
theorem C_stableK0 (A : Option Addr) (cap : Nat) (w : World) :
    Calls Tryz.prog 87 #[.slice A 0 cap, .int .i64 0, .func (.func 64) #[] #[]] w fun e w' => e = .returned (.tuple #[]) ∧ w = w' := by
  go_enter Tryz.func87, Tryz.ntmps87
  go_wp2
  refine wp_loop_rounds 1 ?_
  rw [rounds_succ]
  go_wp2_with fail
  refine (C_insK0 A cap w).mono ?_; rintro e w1 ⟨rfl, rfl⟩
  go_wp2
  refine wp_loop_rounds 1 ?_
  rw [rounds_succ]
  go_wp2
  go_end0
  exact ⟨rfl, rfl⟩
/-- What a sort leaves. -/
structure Sorted (F G : Nat → Lk) (n : Nat) : Prop where
  so : SrtF Lk.tick G 0 n
  pe : (seg G 0 n).Perm (seg F 0 n)
set_option maxRecDepth 100000 in
set_option maxHeartbeats 8000000 in
theorem C_stableK1 (base g n cap : Nat) (F : Nat → Lk) (w : World) (h : KF base w g n cap F) (hn : n ≤ 19) :
    Calls Tryz.prog 87 #[.slice (some ⟨g, 0, none⟩) n cap, .int .i64 n, .func (.func 64) #[] #[]] w fun e w' =>
      e = .returned (.tuple #[]) ∧ ∃ G, KF base w' g n cap G ∧ Sorted F G n ∧ w.grownBy w' (some g) := by
  have K := Lib.hid (C_insK base g n cap 0 n F w h (by omega) (by omega) (Nat.le_refl _))
  clear h
  have h1 : ¬ (20 : Int) ≤ (n : Int) := by omega
  have h2 : ¬ (20 : Int) < (n : Int) := by omega
  go_enter Tryz.func87, Tryz.ntmps87
  go_wp2
  refine wp_loop_rounds 1 ?_
  rw [rounds_succ]
  go_wp2_with fail
  refine K.out.mono ?_; rintro e w1 ⟨rfl, G, ho, hs, hk, hg⟩
  have HO := Lib.hid (And.intro ho (And.intro (Sorted.mk hs hk.pe) hg))
  clear ho hs hk hg
  go_wp2
  refine wp_loop_rounds 1 ?_
  rw [rounds_succ]
  go_wp2
  go_end0
  exact ⟨rfl, _, HO.out⟩
set_option maxRecDepth 100000 in
set_option maxHeartbeats 8000000 in
theorem C_stableK2 (base g n cap : Nat) (F : Nat → Lk) (w : World) (h : KF base w g n cap F) (hn1 : 20 ≤ n) (hn : n ≤ 39) :
    Calls Tryz.prog 87 #[.slice (some ⟨g, 0, none⟩) n cap, .int .i64 n, .func (.func 64) #[] #[]] w fun e w' =>
      e = .returned (.tuple #[]) ∧ ∃ G, KF base w' g n cap G ∧ Sorted F G n ∧ w.grownBy w' (some g) := by
  have K := Lib.hid (C_insK base g n cap 0 20 F w h (by omega) (by omega) hn1)
  clear h
  have h1 : (20 : Int) ≤ (n : Int) := by omega
  have h2 : ¬ (40 : Int) ≤ (n : Int) := by omega
  have h3 : ¬ (40 : Int) < (n : Int) := by omega
  go_enter Tryz.func87, Tryz.ntmps87
  go_wp2
  refine wp_loop_rounds 2 ?_
  rw [rounds_succ]
  go_wp2_with fail
  refine K.out.mono ?_; rintro e w1 ⟨rfl, G, ho, hs, hk, hg⟩
  have HO := Lib.hid (And.intro ho (And.intro hs (And.intro hk hg)))
  have K2 := Lib.hid (C_insK base g n cap 20 n G w1 ho (by omega) hn1 (Nat.le_refl _))
  clear ho hs hk hg K
  go_wp2
  rw [rounds_succ]
  go_wp2_with fail
  refine K2.out.mono ?_; rintro e w2 ⟨rfl, H, ho, hs, hk, hg⟩
  have HO2 := Lib.hid (And.intro ho (And.intro (show SrtF Lk.tick H 0 20 from HO.out.2.1.eq fun i _ hi => hk.ou i (by omega)) (And.intro hs (And.intro (hk.pe.trans HO.out.2.2.1.pe) (grown_transK HO.out.2.2.2 hg)))))
  clear ho hs hk hg K2 HO
  by_cases h4 : n = 20
  · subst h4
    go_wp2
    refine wp_loop_rounds 1 ?_
    rw [rounds_succ]
    go_wp2
    go_end0
    exact ⟨rfl, _, HO2.out.1, ⟨HO2.out.2.1, HO2.out.2.2.2.1⟩, HO2.out.2.2.2.2⟩
  · have h5 : (20 : Int) < (n : Int) := by omega
    go_wp2
    refine wp_loop_rounds 2 ?_
    rw [rounds_succ]
    go_wp2
    refine wp_loop_rounds 1 ?_
    rw [rounds_succ]
    go_wp2_with fail
    refine (C_symK base g n cap (by omega) n 0 20 n H _ (by omega) HO2.out.1 (by omega) (by omega) (Nat.le_refl _) HO2.out.2.1 HO2.out.2.2.1).mono ?_; rintro e w3 ⟨rfl, M, ho, hm, hg⟩
    have HO3 := Lib.hid (And.intro ho (And.intro (Sorted.mk hm.so (hm.pe.trans HO2.out.2.2.2.1)) (grown_transK HO2.out.2.2.2.2 hg)))
    clear ho hm hg HO2
    go_wp2
    rw [rounds_succ]
    go_wp2
    go_end0
    exact ⟨rfl, _, HO3.out⟩
theorem seg_atK (l : List Lk) : seg (atK l) 0 l.length = l := by
  apply List.ext_getElem?
  intro i
  by_cases hi : i < l.length
  · simp only [seg, List.getElem?_map, List.getElem?_range hi, Option.map_some, Nat.zero_add]
    rw [atK_get hi, List.getElem?_eq_getElem hi]
  · rw [List.getElem?_eq_none (by rw [seg_len]; omega), List.getElem?_eq_none (by omega)]
theorem C_SortStableK (base : Nat) (v : Value) (l : List Lk) (w : World) (h : OL base w v l) (hn : l.length ≤ 39) :
    Calls Tryz.prog 63 #[v, .func (.func 64) #[] #[]] w fun e w' =>
      e = .returned (.tuple #[]) ∧ ∃ G, OL base w' v (seg G 0 l.length) ∧ SrtF Lk.tick G 0 l.length ∧ (seg G 0 l.length).Perm l ∧ w.grownBy w' v.ownBlock := by
  have key : Calls Tryz.prog 87 #[v, .int .i64 l.length, .func (.func 64) #[] #[]] w fun e w' =>
      e = .returned (.tuple #[]) ∧ ∃ G, OL base w' v (seg G 0 l.length) ∧ SrtF Lk.tick G 0 l.length ∧ (seg G 0 l.length).Perm l ∧ w.grownBy w' v.ownBlock := by
    rcases h.2 with ⟨rfl, h0⟩ | ⟨g, cap, cur, rfl, _⟩
    · obtain rfl : l = [] := List.eq_nil_of_length_eq_zero h0
      refine (C_stableK0 none 0 w).mono ?_
      rintro e w' ⟨rfl, rfl⟩
      exact ⟨rfl, fun _ => zeroK, h, fun i j _ _ hj => absurd hj (by simp), List.Perm.refl _, World.grownBy.refl _ _⟩
    · rcases Nat.eq_zero_or_pos l.length with h0 | h0
      · obtain rfl : l = [] := List.eq_nil_of_length_eq_zero h0
        refine (C_stableK0 _ cap w).mono ?_
        rintro e w' ⟨rfl, rfl⟩
        exact ⟨rfl, fun _ => zeroK, h, fun i j _ _ hj => absurd hj (by simp), List.Perm.refl _, World.grownBy.refl _ _⟩
      · have hk := OL.kf rfl h
        have fin : ∀ {e : Ending} {w' : World}, (e = .returned (.tuple #[]) ∧ ∃ G, KF base w' g l.length cap G ∧ Sorted (atK l) G l.length ∧ w.grownBy w' (some g)) → e = .returned (.tuple #[]) ∧ ∃ G, OL base w' (.slice (some ⟨g, 0, none⟩) l.length cap) (seg G 0 l.length) ∧ SrtF Lk.tick G 0 l.length ∧ (seg G 0 l.length).Perm l ∧ w.grownBy w' (some g) := by
          rintro e w' ⟨rfl, G, k1, k2, k3⟩
          refine ⟨rfl, G, k1.ol, k2.so, ?_, k3⟩
          have := k2.pe
          rw [seg_atK] at this
          exact this
        by_cases h19 : l.length ≤ 19
        · exact (C_stableK1 base g l.length cap (atK l) w hk h19).mono fun e w' hh => fin hh
        · exact (C_stableK2 base g l.length cap (atK l) w hk (by omega) hn).mono fun e w' hh => fin hh
  have K := Lib.hid key
  obtain ⟨A, cap, rfl⟩ := h.form
  clear h key
  go_enter Tryz.func63, Tryz.ntmps63
  go_wp2_with fail
  refine K.out.mono ?_; rintro e w1 ⟨rfl, ho⟩
  have HO := Lib.hid ho
  clear ho
  go_wp2
  go_end0
  exact ⟨rfl, HO.out⟩
end Go.Proofs.YtmhelhjjadoiaaaGreatDoor

/- The library's Grow and Concat at looks. No condition but those stated. -/
namespace Go.Proofs.YtmhelhjjadoiaaaGreatDoor
set_option linter.unusedVariables false
set_option linter.unusedSimpArgs false
open Go.RowKit Go.Sort
theorem C_GrowK (base n : Nat) (w : World) (hn : n ≤ 1048576) (hb : base ≤ w.heap.size) :
    Calls Tryz.prog 86 #[.slice none 0 0, .int .i64 n] w fun e w' => ∃ v', e = .returned v' ∧ OL base w' v' [] ∧ Below w.heap.size w w' := by
  have h0 : ¬ (n : Int) < 0 := by omega
  rcases Nat.eq_zero_or_pos n with hz | hz
  · subst hz
    go_enter Tryz.func86, Tryz.ntmps86
    go_wp2
    go_ret
    exact ⟨_, rfl, OL.nil _ _, by (repeat (first | with_reducible exact Below.refl _ _ | with_reducible exact below_regrown _ _ _ | with_reducible refine bel_step0 (by assumption) ?_ | with_reducible refine bel_alloc0 ?_ _ | with_reducible refine bel_regrown0 ?_ _ _ | with_reducible refine bel_regrown ?_ (by first | omega | (simp; done) | (simp; omega)) _ _ | with_reducible refine below_drewN ?_ _ | with_reducible refine Below.drew ?_ | with_reducible refine Below.alloc ?_ (by first | omega | (simp; done) | (simp; omega)) _ | with_reducible refine Below.setCell ?_ (by first | omega | (simp; done) | (simp; omega)) _ | with_reducible refine bel_step (by assumption) (by first | omega | (simp; done) | (simp; omega)) ?_ | with_reducible refine bel_grown (by assumption) (by first | omega | (simp; done) | (simp; omega)) (by first | omega | (simp; done) | (simp; omega)) ?_))⟩
  · obtain ⟨i0, hi, hz0, hz1, hz2⟩ := info_parts info_look
    have hap := fun ty => Lib.run_append_nil_zeros (P := Tryz.prog) w 24 3 ty 37 i0 _ .i64 .i64 Tryz.underlying24 Tryz.underlying3 hi hz0 n hz (by omega) (by omega) (by rw [hz2]; omega)
    have hcm : grownCap w n 0 37 ≤ maxLen := grownCap_le_maxLen w n 0 _ (by unfold maxLen; omega)
    have hcg := grownCap_ge w n 0 37
    obtain ⟨c, hc⟩ : ∃ c, grownCap w n 0 37 = c := ⟨_, rfl⟩
    obtain ⟨cs, hcs⟩ : ∃ cs, Builtin.zeroCells (Value.agg #[.int .i64 0, .int .i64 0, .int .i64 0, .int .i64 0, .string ByteArray.empty]).cells n ++ Builtin.zeroCells (Value.agg #[.int .i64 0, .int .i64 0, .int .i64 0, .int .i64 0, .string ByteArray.empty]).cells (c - n) = cs := ⟨_, rfl⟩
    rw [hc] at hap hcm hcg
    rw [hcs] at hap
    have hsz : cs.size = c * 5 := by
      rw [← hcs]
      simp only [Array.size_append, Builtin.zeroCells, Array.size_map, Array.size_range, Value.cells]
      show n * 5 + (c - n) * 5 = c * 5
      omega
    have hp : (0 : Int) < (n : Int) := by omega
    have hc0 : 0 ≤ c := by omega
    have HA := Lib.hid hap
    have hO : OL base (w.alloc (.cells cs 37)) (.slice (some ⟨w.heap.size, 0, none⟩) 0 c) [] := ⟨rfl, .inr ⟨w.heap.size, c, cs, rfl, hb, heap_alloc_new _ _, Nat.zero_le _, hcm, hsz, rfl⟩⟩
    have HO := Lib.hid (hO.below (Below.refl _ _).drew)
    clear hO hap hcs hi hz0 hz1 hz2 hc
    go_enter Tryz.func86, Tryz.ntmps86
    go_wp2_with (at_builtin; refine Lib.wpList_append_run _ rfl _ _ _ _ rfl _ _ rfl rfl _ _ (HA.out _) ?_)
    go_ret
    exact ⟨_, rfl, HO.out, by (repeat (first | with_reducible exact Below.refl _ _ | with_reducible exact below_regrown _ _ _ | with_reducible refine bel_step0 (by assumption) ?_ | with_reducible refine bel_alloc0 ?_ _ | with_reducible refine bel_regrown0 ?_ _ _ | with_reducible refine bel_regrown ?_ (by first | omega | (simp; done) | (simp; omega)) _ _ | with_reducible refine below_drewN ?_ _ | with_reducible refine Below.drew ?_ | with_reducible refine Below.alloc ?_ (by first | omega | (simp; done) | (simp; omega)) _ | with_reducible refine Below.setCell ?_ (by first | omega | (simp; done) | (simp; omega)) _ | with_reducible refine bel_step (by assumption) (by first | omega | (simp; done) | (simp; omega)) ?_ | with_reducible refine bel_grown (by assumption) (by first | omega | (simp; done) | (simp; omega)) (by first | omega | (simp; done) | (simp; omega)) ?_))⟩
theorem seg_atK' (l : List Lk) : seg (atK l) 0 l.length = l := seg_atK l
set_option maxRecDepth 100000 in
set_option maxHeartbeats 8000000 in
theorem C_ConcatK (base p : Nat) (A B : Option Addr) (ca cb n m : Nat) (a b : List Lk) (w : World) (hb : base ≤ w.heap.size) (hn : a.length = n) (hm : b.length = m) (hn1 : n ≤ 1000) (hm1 : m ≤ 1000)
    (hA : RK w A a.length (atK a)) (hB : RK w B b.length (atK b)) (c0 : w.cell? ⟨p, 0, none⟩ = some (.slice A n ca)) (c1 : w.cell? ⟨p, 1, none⟩ = some (.slice B m cb)) (cc : Nat) :
    Calls Tryz.prog 62 #[.slice (some ⟨p, 0, none⟩) 2 cc] w fun e w' => ∃ v', e = .returned v' ∧ OL base w' v' (a ++ b) ∧ Below w.heap.size w w' := by
  have HA := Lib.hid (And.intro hA hB)
  have h1 : ¬ ((n : Int) < 0) := by omega
  have h2 : ¬ ((n : Int) + (m : Int) < 0) := by omega
  clear hA hB
  go_enter Tryz.func62, Tryz.ntmps62
  go_wp2
  refine wp_loop_rounds 3 ?_
  rw [rounds_succ]
  go_wp2
  rw [rounds_succ]
  go_wp2
  rw [rounds_succ]
  go_wp2_with fail
  have hp : p < w.heap.size := World.block_lt_of_cell? w _ c0
  have hG : ∀ W : World, W = w → Calls Tryz.prog 86 #[.slice none 0 0, .int .i64 ((n : Int) + (m : Int))] W fun e w' => ∃ v', e = .returned v' ∧ OL w.heap.size w' v' [] ∧ Below w.heap.size w w' := fun W hW => by
    subst hW
    have := C_GrowK W.heap.size (n + m) W (by omega) (Nat.le_refl _)
    rw [show ((n + m : Nat) : Int) = (n : Int) + (m : Int) by omega] at this
    exact this
  refine (hG _ rfl).mono ?_; rintro e w1 ⟨v, rfl, ho, B1⟩
  clear hG
  have d0 := (B1.cell (p := ⟨p, 0, none⟩) hp).trans c0
  have d1 := (B1.cell (p := ⟨p, 1, none⟩) hp).trans c1
  have HO := Lib.hid (And.intro ho (And.intro (HA.out.1.below B1) (And.intro (HA.out.2.below B1) B1)))
  clear ho B1 h1 h2
  go_wp2
  refine wp_loop_rounds 3 ?_
  rw [rounds_succ]
  go_wp2_with (at_builtin; refine wp_appL _ rfl _ _ rfl w.heap.size _ _ rfl HO.out.1 A n ca a hn rfl HO.out.2.1 (by simp; omega) HO.out.2.2.2.size ?_; intro v1 w2 ho1 hg1 hx1)
  have B2 := HO.out.2.2.2.trans ((Below.refl _ w1).grown hg1 HO.out.2.2.2.size (fun k hk => (OL.lt HO.out.1 k hk).1))
  have f0 := (B2.cell (p := ⟨p, 0, none⟩) hp).trans c0
  have f1 := (B2.cell (p := ⟨p, 1, none⟩) hp).trans c1
  have HO2 := Lib.hid (And.intro ho1 (And.intro (HA.out.2.below B2) B2))
  clear ho1 hg1 hx1 B2 d0 d1 HO
  go_wp2
  rw [rounds_succ]
  go_wp2_with (at_builtin; refine wp_appL _ rfl _ _ rfl w.heap.size _ _ rfl HO2.out.1 B m cb b hm rfl HO2.out.2.1 (by simp; omega) HO2.out.2.2.size ?_; intro v2 w3 ho2 hg2 hx2)
  have B3 := HO2.out.2.2.trans ((Below.refl _ w2).grown hg2 HO2.out.2.2.size (fun k hk => (OL.lt HO2.out.1 k hk).1))
  have HO3 := Lib.hid (And.intro ho2 B3)
  clear ho2 hg2 hx2 B3 HO2 f0 f1
  go_wp2
  rw [rounds_succ]
  go_wp2
  go_ret
  exact ⟨_, rfl, OL.mono hb HO3.out.1, HO3.out.2⟩
end Go.Proofs.YtmhelhjjadoiaaaGreatDoor

/- The library's Compact at looks. No condition but those stated. -/
namespace Go.Proofs.YtmhelhjjadoiaaaGreatDoor
set_option linter.unusedVariables false
set_option linter.unusedSimpArgs false
open Go.RowKit Go.Sort
def eqK (x y : Lk) : Bool := x.tick == y.tick && (x.who == y.who && (x.rid == y.rid && (x.kind == y.kind && x.why.toList == y.why.toList)))
set_option maxRecDepth 100000 in
theorem eql_look (x y : Lk) (w : World) : (binOp .eql 37 (.agg #[.int .i64 (x).tick, .int .i64 (x).who, .int .i64 (x).rid, .int .i64 (x).kind, .string (x).why]) (.agg #[.int .i64 (y).tick, .int .i64 (y).who, .int .i64 (y).rid, .int .i64 (y).kind, .string (y).why])).run Tryz.prog w = .ok (.bool (eqK x y)) w := by
  have u3 := Tryz.underlying3
  have us := Tryz.underlying9
  have hS : Tryz.prog.underlying 37 = some (.struct (Tryz.prog.fieldsOf 37)) := by kernel_rfl
  have hp : Tryz.prog.stoodInHeld 37 = false := by kernel_rfl
  rw [run_eql_struct, show (10000 : Nat) = 9999 + 1 from rfl, run_equalIn_agg w 9999 37 _ _ hS hp]
  simp only [Program.fieldsOf, Tryz.underlying37]
  go_simp
  unfold eqK
  cases h1 : (x.tick == y.tick) <;> cases h2 : (x.who == y.who) <;> cases h3 : (x.rid == y.rid) <;> cases h4 : (x.kind == y.kind) <;> cases h5 : (x.why.toList == y.why.toList) <;> simp_all
set_option maxRecDepth 100000 in
theorem neq_look (x y : Lk) (w : World) : (binOp .neq 37 (.agg #[.int .i64 (x).tick, .int .i64 (x).who, .int .i64 (x).rid, .int .i64 (x).kind, .string (x).why]) (.agg #[.int .i64 (y).tick, .int .i64 (y).who, .int .i64 (y).rid, .int .i64 (y).kind, .string (y).why])).run Tryz.prog w = .ok (.bool (!eqK x y)) w := by
  have u3 := Tryz.underlying3
  have us := Tryz.underlying9
  have hS : Tryz.prog.underlying 37 = some (.struct (Tryz.prog.fieldsOf 37)) := by kernel_rfl
  have hp : Tryz.prog.stoodInHeld 37 = false := by kernel_rfl
  rw [run_neq_struct, show (10000 : Nat) = 9999 + 1 from rfl, run_equalIn_agg w 9999 37 _ _ hS hp]
  simp only [Program.fieldsOf, Tryz.underlying37]
  go_simp
  unfold eqK
  cases h1 : (x.tick == y.tick) <;> cases h2 : (x.who == y.who) <;> cases h3 : (x.rid == y.rid) <;> cases h4 : (x.kind == y.kind) <;> cases h5 : (x.why.toList == y.why.toList) <;> simp_all
theorem guard_look (op : BinOp) (a b : Operand) (x y : Lk) (w : World) : (eqGuard op 37 a b (.agg #[.int .i64 (x).tick, .int .i64 (x).who, .int .i64 (x).rid, .int .i64 (x).kind, .string (x).why]) (.agg #[.int .i64 (y).tick, .int .i64 (y).who, .int .i64 (y).rid, .int .i64 (y).kind, .string (y).why])).run Tryz.prog w = .ok () w := run_eqGuard_agg w op 37 a b _ _ (by kernel_rfl)
theorem ddU_all {α : Type} {eqb : α → α → Bool} {F : Nat → α} : ∀ {k : Nat}, (∀ j, 1 ≤ j → j < k → eqb (F j) (F (j - 1)) = false) → ddU eqb F k = seg F 0 k := by
  intro k
  induction k with
  | zero => intro _; rfl
  | succ k ih =>
    intro h
    rw [ddU, ih fun j h1 h2 => h j h1 (by omega), seg_add, Nat.zero_add]
    congr 1
    by_cases e : k = 0
    · subst e; rfl
    · rw [h k (by omega) (by omega)]; simp [seg]
/-- What stands below the writing place and from it on. -/
structure Cpt (F G : Nat → Lk) (k0 k2 kk : Nat) : Prop where
  le : kk + 1 ≤ k0 + k2
  lo : 1 ≤ kk
  dd : ddU eqK F (k0 + k2) = seg G 0 kk
  up : ∀ j, kk ≤ j → G j = F j
theorem Cpt.start {F : Nat → Lk} {k : Nat} (hk : 1 ≤ k) (h : ∀ j, 1 ≤ j → j < k → eqK (F j) (F (j - 1)) = false) (he : eqK (F k) (F (k - 1)) = true) : Cpt F F k 1 k where
  le := Nat.le_refl _
  lo := hk
  dd := by
    rw [ddU, ddU_all h, he]
    simp [show 0 < k by omega]
  up := fun _ _ => rfl
theorem Cpt.keep {F G : Nat → Lk} {k0 k2 kk : Nat} (h : Cpt F G k0 k2 kk) (h0 : 0 < k0 + k2) (he : eqK (F (k0 + k2)) (F (k0 + k2 - 1)) = true) : Cpt F G k0 (k2 + 1) kk where
  le := by have := h.le; omega
  lo := h.lo
  dd := by
    rw [← Nat.add_assoc, ddU, he, h.dd]
    simp [h0]
  up := h.up
theorem Cpt.put {F G : Nat → Lk} {k0 k2 kk : Nat} (h : Cpt F G k0 k2 kk) (h0 : 0 < k0 + k2) (he : eqK (F (k0 + k2)) (F (k0 + k2 - 1)) = false) : Cpt F (upd G kk (F (k0 + k2))) k0 (k2 + 1) (kk + 1) where
  le := by have := h.le; omega
  lo := by omega
  dd := by
    rw [← Nat.add_assoc, ddU, he, h.dd, seg_add, Nat.zero_add]
    have e1 : seg (upd G kk (F (k0 + k2))) 0 kk = seg G 0 kk := seg_congr fun i hi => by unfold upd; rw [if_neg (by omega)]
    rw [e1]
    simp [seg, upd]
  up := fun j hj => by
    unfold upd
    rw [if_neg (by omega)]
    exact h.up j (by omega)
theorem KF.cut {base g n cap k : Nat} {w : World} {F : Nat → Lk} (h : KF base w g n cap F) (hk : k ≤ n) : KF base w g k cap F := by
  obtain ⟨xs, h1, h2⟩ := h
  rcases h1.2 with ⟨h3, _⟩ | ⟨g', cap', cur, e, hb, hg, hnc, hcm, hsz, htk⟩
  · cases h3
  · injection e with e1 e2 e3
    injection e1 with e1
    injection e1 with e1
    subst e1 e3
    refine ⟨xs.take (k * 5), ⟨by rw [List.length_take, h1.1]; omega, .inr ⟨g, cap, cur, rfl, hb, hg, by omega, hcm, hsz, ?_⟩⟩, fun i hi => ?_⟩
    · rw [← htk, List.take_take]
      congr 1; omega
    · rw [List.getElem?_take, if_pos hi]
      exact h2 i (by omega)
theorem KF.cells {base g cap k : Nat} {F : Nat → Lk} : ∀ (vs : List Value) (o : Nat) (w : World), KF base w g k cap F → k * 5 ≤ o → KF base (w.setCells g o vs) g k cap F ∧ w.grownBy (w.setCells g o vs) (some g) := by
  intro vs
  induction vs with
  | nil => intro o w h ho; exact ⟨h, World.grownBy.refl _ _⟩
  | cons u r ih =>
    intro o w h ho
    obtain ⟨xs, h1, h2⟩ := h
    have hs := h1.stored o u
    have hK : KF base (w.setCell ⟨g, o, none⟩ u) g k cap F := ⟨_, hs.1, fun i hi => by rw [List.getElem?_set_ne (by omega)]; exact h2 i hi⟩
    have := ih (o + 1) (w.setCell ⟨g, o, none⟩ u) hK (by omega)
    exact ⟨this.1, grown_transK hs.2 this.2⟩
theorem run_clearK (w : World) (t e : TypeId) (z : Value) (m : Nat) (ht : Tryz.prog.underlying t = some (.slice e)) (hv : ∀ w, (zeroValue e).run Tryz.prog w = .ok z w) (hz : z.cells.size = m) (hz1 : ∀ v ∈ z.cells, v.oneCell' = true) (b o n c : Nat) (hn : 0 < n) (hm : 0 < m)
    (hc : ∀ j, j < n * m → (w.cell? ⟨b, o + j, none⟩).isSome = true) (hf : ∀ j, j < n * m → w.frozen? ⟨b, o + j, none⟩ = false) :
    ∃ vs, ∀ ty, (Builtin.clear_ #[t] ty #[.slice (some ⟨b, o, none⟩) n c]).run Tryz.prog w = .ok (.tuple #[]) (w.setCells b o vs) := by
  have hlen : (Builtin.zeroCells z.cells n).toList.length = n * m := by simp [Builtin.zeroCells, hz]
  have h1 : ∀ v ∈ (Builtin.zeroCells z.cells n).toList, v.oneCell' = true := by
    intro v hv'
    simp only [Builtin.zeroCells, Array.toList_map, List.mem_map] at hv'
    obtain ⟨i, _, rfl⟩ := hv'
    have hlt : i % z.cells.size < z.cells.size := Nat.mod_lt _ (by omega)
    rw [getElem!_pos z.cells _ hlt]
    exact hz1 _ (Array.getElem_mem _)
  have hst := run_storeCells_cells (P := Tryz.prog) b o (Builtin.zeroCells z.cells n).toList 0 w (by rw [hlen]; simpa using hc) (by rw [hlen]; simpa using hf) h1
  simp only [Nat.add_zero] at hst
  obtain ⟨q, rfl⟩ : ∃ q, n = q + 1 := ⟨n - 1, by omega⟩
  exact ⟨(Builtin.zeroCells z.cells (q + 1)).toList, fun ty => by simp [Builtin.clear_, run_underlying ht, hv, hst]⟩
set_option maxRecDepth 100000 in
set_option maxHeartbeats 8000000 in
theorem C_Compact2 (base g n cap : Nat) (F : Nat → Lk) (w : World) (h : KF base w g n cap F) (hn : n ≤ 1048576) (h2 : 2 ≤ n) :
    Calls Tryz.prog 66 #[.slice (some ⟨g, 0, none⟩) n cap] w fun e w' => ∃ v', e = .returned v' ∧ OL base w' v' (ddU eqK F n) ∧ w.grownBy w' (some g) := by
  obtain ⟨hcap, hcm⟩ := h.cap
  have HH := Lib.hid h
  clear h
  have h20 : ¬ (n : Int) < 2 := by omega
  go_enter Tryz.func66, Tryz.ntmps66
  go_wp2
  go_loopw [3] (fun p wr => ∃ k : Nat, p = .int .i64 k ∧ 1 ≤ k ∧ k ≤ n ∧ (∀ j, 1 ≤ j → j < k → eqK (F j) (F (j - 1)) = false) ∧ Below w.heap.size w wr) (fun p _ => n - (intOf p).toNat)
  case atStart => exact ⟨1, by go_num, Nat.le_refl _, by omega, fun j h1 h2 => absurd h2 (by omega), by (repeat (first | with_reducible exact Below.refl _ _ | with_reducible exact below_regrown _ _ _ | with_reducible refine bel_step0 (by assumption) ?_ | with_reducible refine bel_alloc0 ?_ _ | with_reducible refine bel_regrown0 ?_ _ _ | with_reducible refine bel_regrown ?_ (by first | omega | (simp; done) | (simp; omega)) _ _ | with_reducible refine below_drewN ?_ _ | with_reducible refine Below.drew ?_ | with_reducible refine Below.alloc ?_ (by first | omega | (simp; done) | (simp; omega)) _ | with_reducible refine Below.setCell ?_ (by first | omega | (simp; done) | (simp; omega)) _ | with_reducible refine bel_step (by assumption) (by first | omega | (simp; done) | (simp; omega)) ?_ | with_reducible refine bel_grown (by assumption) (by first | omega | (simp; done) | (simp; omega)) (by first | omega | (simp; done) | (simp; omega)) ?_))⟩
  case round =>
    obtain ⟨k, rfl, hk1, hkn, hall, hB⟩ := hrel
    by_cases hlt : k < n
    · obtain ⟨q, rfl⟩ : ∃ q, k = q + 1 := ⟨k - 1, by omega⟩
      obtain ⟨x, hx⟩ : ∃ x, F (q + 1) = x := ⟨_, rfl⟩
      obtain ⟨y, hy⟩ : ∃ y, F q = y := ⟨_, rfl⟩
      have ho := HH.out.below hB
      obtain ⟨d0, d1, d2, d3, d4⟩ := ho.at_ (show q < n by omega)
      obtain ⟨b0, b1, b2, b3, b4⟩ := ho.at_ hlt
      rw [hx] at b0 b1 b2 b3 b4
      rw [hy] at d0 d1 d2 d3 d4
      have g0 := cell_regrown b0; have g1 := cell_regrown b1; have g2 := cell_regrown b2; have g3 := cell_regrown b3; have g4 := cell_regrown b4
      have k0 := cell_regrown d0; have k1 := cell_regrown d1; have k2 := cell_regrown d2; have k3 := cell_regrown d3; have k4 := cell_regrown d4
      have q1 : (0 : Int) ≤ (q : Int) := by omega
      have q2 : (q : Int) < (n : Int) := by omega
      have q3 : (q : Int) + 1 < (n : Int) := by omega
      have q4 : (0 : Int) ≤ (q : Int) + 1 := by omega
      have q5 : (q : Int) + 1 - 1 = (q : Int) := by omega
      obtain ⟨bb, hbb⟩ : ∃ bb, eqK x y = bb := ⟨_, rfl⟩
      have hql : ∀ w', (binOp .eql 37 (.agg #[.int .i64 (x).tick, .int .i64 (x).who, .int .i64 (x).rid, .int .i64 (x).kind, .string (x).why]) (.agg #[.int .i64 (y).tick, .int .i64 (y).who, .int .i64 (y).rid, .int .i64 (y).kind, .string (y).why])).run Tryz.prog w' = .ok (.bool bb) w' := fun w' => by rw [eql_look, hbb]
      have hgl : ∀ op a b w', (eqGuard op 37 a b (.agg #[.int .i64 (x).tick, .int .i64 (x).who, .int .i64 (x).rid, .int .i64 (x).kind, .string (x).why]) (.agg #[.int .i64 (y).tick, .int .i64 (y).who, .int .i64 (y).rid, .int .i64 (y).kind, .string (y).why])).run Tryz.prog w' = .ok () w' := fun op a b w' => guard_look op a b x y w'
      have HA := Lib.hid (And.intro hall (And.intro hx (And.intro hy (And.intro hbb ho))))
      have HB := Lib.hid hB
      clear hall b0 b1 b2 b3 b4 d0 d1 d2 d3 d4 hx hy ho hB hbb
      go_wp2
      (refine wp_region_quiet_below (by kernel_rfl) (by kernel_rfl) ?_; (repeat (go_big_quiet_step (fail))); refine wpQuiet_nil ?_; intro _ hw'; obtain ⟨⟨dq, osq⟩, hw''⟩ := hw'; subst hw'')
      clear g0 g1 g2 g3 g4 k0 k1 k2 k3 k4 hql hgl
      have hB := HB.out
      cases bb
      · go_wp2
        go_roundw
        case rel => exact ⟨q + 1 + 1, by go_num, by omega, by omega, fun j h1 h2 => by
            by_cases e : j = q + 1
            · subst e
              rw [HA.out.2.1, show q + 1 - 1 = q by omega, HA.out.2.2.1]; exact HA.out.2.2.2.1
            · exact HA.out.1 j h1 (by omega), by (repeat (first | with_reducible exact Below.refl _ _ | with_reducible exact below_regrown _ _ _ | with_reducible refine bel_step0 (by assumption) ?_ | with_reducible refine bel_alloc0 ?_ _ | with_reducible refine bel_regrown0 ?_ _ _ | with_reducible refine bel_regrown ?_ (by first | omega | (simp; done) | (simp; omega)) _ _ | with_reducible refine below_drewN ?_ _ | with_reducible refine Below.drew ?_ | with_reducible refine Below.alloc ?_ (by first | omega | (simp; done) | (simp; omega)) _ | with_reducible refine Below.setCell ?_ (by first | omega | (simp; done) | (simp; omega)) _ | with_reducible refine bel_step (by assumption) (by first | omega | (simp; done) | (simp; omega)) ?_ | with_reducible refine bel_grown (by assumption) (by first | omega | (simp; done) | (simp; omega)) (by first | omega | (simp; done) | (simp; omega)) ?_))⟩
        case measure => simp [intOf]; omega
      · have HC := Lib.hid (And.intro (Cpt.start (F := F) hk1 HA.out.1 (by rw [HA.out.2.1, show q + 1 - 1 = q by omega, HA.out.2.2.1]; exact HA.out.2.2.2.1)) (And.intro (show KF base (grow (redrawn wr dq) osq) g n cap F from HA.out.2.2.2.2.below (below_regrown _ _ _)) (show w.grownBy (grow (redrawn wr dq) osq) (some g) from grown_belowK (grown_belowK (World.grownBy.refl _ _) hB) (below_regrown _ _ _))))
        clear HA HB hB
        have s1 : (0 : Int) ≤ (q : Int) + 1 := by omega
        have s2 : (q : Int) + 1 ≤ (n : Int) := by omega
        have s3 : (q : Int) + 1 ≤ (cap : Int) := by omega
        have s4 : ((q : Int) + 1).toNat = q + 1 := by omega
        go_wp2
        go_loopw [3, 5] (fun p r wi => ∃ (kk k2 : Nat) (G : Nat → Lk), p = .int .i64 kk ∧ r = .int .i64 k2 ∧ 1 ≤ k2 ∧ q + 1 + k2 ≤ n ∧ Cpt F G (q + 1) k2 kk ∧ KF base wi g n cap G ∧ w.grownBy wi (some g)) (fun _ r _ => n - (intOf r).toNat)
        case atStart => exact ⟨q + 1, 1, F, rfl, by go_num, Nat.le_refl _, by omega, HC.out.1, HC.out.2.1, HC.out.2.2⟩
        case round =>
          clear HC s1 s2 s3 s4 q1 q2 q3 q4 q5
          obtain ⟨kk, k2, G, rfl, rfl, hk2, hkn2, hC, ho, hg⟩ := hrel
          have hle := hC.le
          have hlo := hC.lo
          obtain ⟨t, rfl⟩ : ∃ t, k2 = t + 1 := ⟨k2 - 1, by omega⟩
          by_cases hlt2 : q + 1 + (t + 1) < n
          · obtain ⟨u, hu⟩ : ∃ u, F (q + 1 + (t + 1)) = u := ⟨_, rfl⟩
            obtain ⟨v, hv⟩ : ∃ v, F (q + 1 + t) = v := ⟨_, rfl⟩
            obtain ⟨bb, hbb⟩ : ∃ bb, eqK u v = bb := ⟨_, rfl⟩
            have hG1 : G (q + 1 + (t + 1)) = u := by rw [hC.up _ (by omega)]; exact hu
            have hG2 : G (q + 1 + t) = v := by rw [hC.up _ (by omega)]; exact hv
            have l1 := ho.at_ hlt2
            have l2 := ho.at_ (show q + 1 + t < n by omega)
            rw [hG1, show (q + 1 + (t + 1)) * 5 = (q + 1) * 5 + (t + 1) * 5 by omega] at l1
            rw [hG2, show (q + 1 + t) * 5 = (q + 1) * 5 + t * 5 by omega] at l2
            obtain ⟨b0, b1, b2, b3, b4⟩ := l1
            obtain ⟨d0, d1, d2, d3, d4⟩ := l2
            have g0 := cell_regrown b0; have g1 := cell_regrown b1; have g2 := cell_regrown b2; have g3 := cell_regrown b3; have g4 := cell_regrown b4
            have k0 := cell_regrown d0; have k1 := cell_regrown d1; have k2 := cell_regrown d2; have k3 := cell_regrown d3; have k4 := cell_regrown d4
            have hql : ∀ w', (binOp .neq 37 (.agg #[.int .i64 (u).tick, .int .i64 (u).who, .int .i64 (u).rid, .int .i64 (u).kind, .string (u).why]) (.agg #[.int .i64 (v).tick, .int .i64 (v).who, .int .i64 (v).rid, .int .i64 (v).kind, .string (v).why])).run Tryz.prog w' = .ok (.bool (!bb)) w' := fun w' => by rw [neq_look, hbb]
            have hgl : ∀ op a b w', (eqGuard op 37 a b (.agg #[.int .i64 (u).tick, .int .i64 (u).who, .int .i64 (u).rid, .int .i64 (u).kind, .string (u).why]) (.agg #[.int .i64 (v).tick, .int .i64 (v).who, .int .i64 (v).rid, .int .i64 (v).kind, .string (v).why])).run Tryz.prog w' = .ok () w' := fun op a b w' => guard_look op a b u v w'
            have q1 : (0 : Int) ≤ (t : Int) := by omega
            have q2 : (t : Int) < ((n - (q + 1) : Nat) : Int) := by omega
            have q3 : (t : Int) + 1 < ((n - (q + 1) : Nat) : Int) := by omega
            have q4 : (0 : Int) ≤ (t : Int) + 1 := by omega
            have q5 : (t : Int) + 1 - 1 = (t : Int) := by omega
            have HC := Lib.hid hC
            have HU := Lib.hid (And.intro hu (And.intro hv hbb))
            have HO := Lib.hid (And.intro ho hg)
            clear b0 b1 b2 b3 b4 d0 d1 d2 d3 d4 hG1 hG2 hu hv hbb hC ho hg
            go_wp2
            (refine wp_region_quiet_below (by kernel_rfl) (by kernel_rfl) ?_; (repeat (go_big_quiet_step (fail))); refine wpQuiet_nil ?_; intro _ hw'; obtain ⟨⟨dq, osq⟩, hw''⟩ := hw'; subst hw'')
            clear g0 g1 g2 g3 g4 k0 k1 k2 k3 k4 hql hgl
            have O2 := Lib.hid (And.intro (HO.out.1.below (below_regrown wr dq osq)) (grown_belowK HO.out.2 (below_regrown wr dq osq)))
            cases bb
            · obtain ⟨w5, hw5⟩ : ∃ w5, w5 = grow (redrawn wr dq) osq := ⟨_, rfl⟩
              rw [← hw5] at O2 ⊢
              have l1 := O2.out.1.at_ hlt2
              rw [HC.out.up _ (by omega), HU.out.1, show (q + 1 + (t + 1)) * 5 = (q + 1) * 5 + (t + 1) * 5 by omega] at l1
              obtain ⟨b0, b1, b2, b3, b4⟩ := l1
              have fz := O2.out.1.frozen
              have f0 := fz (kk * 5); have f1 := fz (kk * 5 + 1); have f2 := fz (kk * 5 + 2); have f3 := fz (kk * 5 + 3); have f4 := fz (kk * 5 + 4)
              have ck := O2.out.1.at_ (show kk < n by omega)
              obtain ⟨c0, c1, c2, c3, c4⟩ := ck
              have p1 : (0 : Int) ≤ (kk : Int) := by omega
              have p2 : (kk : Int) < (n : Int) := by omega
              have HSW := Lib.hid (O2.out.1.set kk u)
              have HP := Lib.hid (HC.out.put (by omega) (by rw [show q + 1 + (t + 1) - 1 = q + 1 + t by omega, HU.out.1, HU.out.2.1]; exact HU.out.2.2))
              clear fz hw5
              go_wp2
              go_roundw
              case rel => exact ⟨kk + 1, t + 1 + 1, _, by go_num, by go_num, by omega, by omega, HP.out, by rw [HU.out.1]; exact HSW.out, by (repeat (first | with_reducible exact World.grownBy.refl _ _ | with_reducible refine only_drewN ?_ _ | with_reducible refine only_drew ?_ | with_reducible refine only_alloc ?_ _ | with_reducible refine only_setCell ?_ (by first | exact Or.inl rfl | (refine Or.inr ?_; simp; done) | (refine Or.inr ?_; omega)) _)); exact O2.out.2⟩
              case measure => simp [intOf]; omega
            · have HP := Lib.hid (HC.out.keep (by omega) (by rw [show q + 1 + (t + 1) - 1 = q + 1 + t by omega, HU.out.1, HU.out.2.1]; exact HU.out.2.2))
              go_wp2
              go_roundw
              case rel => exact ⟨kk, t + 1 + 1, _, rfl, by go_num, by omega, by omega, HP.out, O2.out.1, O2.out.2⟩
              case measure => simp [intOf]; omega
          · have hend : q + 1 + (t + 1) = n := by omega
            obtain ⟨i0, hi, hz0, hz1, hz2⟩ := info_parts info_look
            obtain ⟨vs, hcl⟩ := run_clearK wr 24 37 (.agg #[.int .i64 0, .int .i64 0, .int .i64 0, .int .i64 0, .string ByteArray.empty]) 5 Tryz.underlying24 (fun w => by simp [zeroValue, typeInfo, hi, hz0]) rfl (by intro v hv; simp [Value.cells] at hv; rcases hv with rfl | rfl | rfl | rfl | rfl <;> rfl) g (kk * 5) (n - kk) (cap - kk) (by omega) (by omega)
              (fun j hj => by rw [show kk * 5 + j = (kk + j / 5) * 5 + j % 5 by omega, ho.cell (j := kk + j / 5) (m := j % 5) (by omega) (by omega)]; rfl) (fun j hj => ho.frozen _)
            have hK := KF.cells vs (kk * 5) wr (ho.cut (show kk ≤ n by omega)) (Nat.le_refl _)
            have HE := Lib.hid (And.intro hK.1.ol (And.intro (grown_transK hg hK.2) hC.dd))
            have s1 : (0 : Int) ≤ (kk : Int) := by omega
            have s2 : (kk : Int) ≤ (n : Int) := by omega
            have s3 : (kk : Int) ≤ (cap : Int) := by omega
            have s4 : ¬ ((t : Int) + 1 < ((n - (q + 1) : Nat) : Int)) := by omega
            clear hi hz0 hz1 hz2 hK ho hg hC
            have hend2 := Lib.hid hend
            clear hend
            go_wp2
            go_ret
            refine ⟨_, rfl, ?_, HE.out.2.1⟩
            have := HE.out.2.2
            rw [hend2.out] at this
            rw [this]
            exact HE.out.1
    · obtain rfl : k = n := by omega
      have HE := Lib.hid (And.intro (ddU_all hall) (And.intro (HH.out.below hB).ol (show w.grownBy wr (some g) from grown_belowK (World.grownBy.refl _ _) hB)))
      clear hall hB
      go_wp2
      go_ret
      refine ⟨_, rfl, ?_, HE.out.2.2⟩
      rw [HE.out.1]
      exact HE.out.2.1
end Go.Proofs.YtmhelhjjadoiaaaGreatDoor

/- MergeAccounts: the program. No condition but those stated. -/
namespace Go.Proofs.YtmhelhjjadoiaaaGreatDoor
set_option linter.unusedVariables false
set_option linter.unusedSimpArgs false
open Go.RowKit Go.Sort
instance : Inhabited Lk := ⟨zeroK⟩
theorem eqK_iff (x y : Lk) : eqK x y = true ↔ x = y := by
  constructor
  · intro h
    unfold eqK at h
    simp only [Bool.and_eq_true, beq_iff_eq] at h
    obtain ⟨h1, h2, h3, h4, h5⟩ := h
    obtain ⟨x0, x1, x2, x3, x4⟩ := x
    obtain ⟨y0, y1, y2, y3, y4⟩ := y
    simp only at h1 h2 h3 h4 h5
    rw [ByteArray.toList_eq, ByteArray.toList_eq] at h5
    obtain ⟨⟨x4⟩⟩ := x4
    obtain ⟨⟨y4⟩⟩ := y4
    simp only at h5
    subst h1 h2 h3 h4 h5
    rfl
  · rintro rfl
    unfold eqK
    simp
theorem RK.congr {w : World} {A : Option Addr} {n : Nat} {R S : Nat → Lk} (h : RK w A n R) (e : ∀ j, j < n → R j = S j) : RK w A n S := fun h0 => by
  obtain ⟨b, off, e1, hl, hc⟩ := h h0
  exact ⟨b, off, e1, hl, fun j hj => by rw [← e j hj]; exact hc j hj⟩
/-- The merged account. -/
def mgM (n : Nat) (R : Nat → Lk) (m : Nat) (S : Nat → Lk) : List Lk := mrgL Lk.tick eqK (seg R 0 n) (seg S 0 m)
def mgOk (n : Nat) (R : Nat → Lk) (m : Nat) (S : Nat → Lk) : Bool := accB n R && (accB m S && accB (mgM n R m S).length (atK (mgM n R m S)))
def mgL (n : Nat) (R : Nat → Lk) (m : Nat) (S : Nat → Lk) : List Lk := if mgOk n R m S then mgM n R m S else []
theorem accB_at {n : Nat} {R : Nat → Lk} (h : accB n R = true) : n ≤ 15 ∧ ∀ j, j < n → acc1 R j = true := by
  unfold accB at h
  simp only [Bool.and_eq_true, decide_eq_true_eq] at h
  exact ⟨by omega, fun j hj => allB_iff.1 h.1 j hj⟩
theorem accB_rise {n : Nat} {R : Nat → Lk} (h : accB n R = true) : ∀ i j, i < j → j < n → (R i).tick < (R j).tick := by
  have h1 := (accB_at h).2
  have step : ∀ j, j + 1 < n → (R j).tick < (R (j + 1)).tick := fun j hj => by
    have := h1 (j + 1) hj
    unfold acc1 at this
    simp only [Bool.and_eq_true, Bool.or_eq_true, decide_eq_true_eq, Nat.add_sub_cancel] at this
    rcases this.2 with e | e
    · omega
    · exact e
  intro i j hij
  induction j with
  | zero => omega
  | succ j ih =>
    intro hj
    have s := step j hj
    by_cases e : i = j
    · subst e; exact s
    · have := ih (by omega) (by omega)
      omega
theorem accB_congr {n : Nat} {R S : Nat → Lk} (e : ∀ j, j < n → R j = S j) : accB n R = accB n S := by
  unfold accB
  congr 1
  exact allB_congr fun j hj => by
    unfold acc1
    rw [e j hj]
    by_cases h0 : j = 0
    · subst h0; rfl
    · rw [e (j - 1) (by omega)]
theorem str_seg {n : Nat} {R : Nat → Lk} (h : accB n R = true) : Str Lk.tick (seg R 0 n) := by
  unfold Str seg
  rw [List.pairwise_map]
  refine List.Pairwise.imp_of_mem ?_ (List.pairwise_lt_range (n := n))
  intro a b ha hb hab
  simp only [Nat.zero_add]
  exact accB_rise h a b hab (List.mem_range.1 hb)
theorem str_atK {l : List Lk} (h : accB l.length (atK l) = true) : Str Lk.tick l := by
  have := str_seg h
  rw [seg_atK] at this
  exact this
theorem merged_same {n : Nat} {R : Nat → Lk} {m : Nat} {S G : Nat → Lk} {k : Nat} (hR : accB n R = true) (hs : SrtF Lk.tick G 0 k) (hp : (seg G 0 k).Perm (seg R 0 n ++ seg S 0 m)) :
    ddU eqK G k = mgM n R m S ∨ (accB (ddU eqK G k).length (atK (ddU eqK G k)) = false ∧ accB (mgM n R m S).length (atK (mgM n R m S)) = false) := by
  have hm : ∀ y, (∃ j, j < k ∧ G j = y) ↔ y ∈ seg R 0 n ∨ y ∈ seg S 0 m := fun y => by
    rw [← List.mem_append, ← hp.mem_iff]
    simp [seg]
  rcases mrg_same (key := Lk.tick) (eqb := eqK) eqK_iff (str_seg hR) hs hm with h | ⟨h1, h2⟩
  · exact .inl h
  · refine .inr ⟨?_, ?_⟩
    · cases e : accB (ddU eqK G k).length (atK (ddU eqK G k))
      · rfl
      · exact absurd (str_atK e) h1
    · cases e : accB (mgM n R m S).length (atK (mgM n R m S))
      · rfl
      · exact absurd (str_atK e) h2
theorem C_CompactK (base : Nat) (v : Value) (n : Nat) (G : Nat → Lk) (w : World) (h : OL base w v (seg G 0 n)) (hn : n ≤ 1048576) :
    Calls Tryz.prog 66 #[v] w fun e w' => ∃ v', e = .returned v' ∧ OL base w' v' (ddU eqK G n) ∧ w.grownBy w' v.ownBlock := by
  by_cases h2 : 2 ≤ n
  · have hl : (seg G 0 n).length = n := seg_len G 0 n
    rcases h.2 with ⟨rfl, h0⟩ | ⟨g, cap, cur, e, _⟩
    · omega
    · rw [hl] at e
      subst e
      have hk : KF base w g n cap G := (OL.kf hl h).congr fun i hi => atK_seg hi
      exact C_Compact2 base g n cap G w hk hn h2
  · have hd : ddU eqK G n = seg G 0 n := ddU_all fun j h1 h3 => absurd h3 (by omega)
    obtain ⟨A, cap, rfl⟩ := h.form
    rw [seg_len] at h ⊢
    have HO := Lib.hid h
    have h3 : (n : Int) < 2 := by omega
    rw [hd]
    clear hd h
    go_enter Tryz.func66, Tryz.ntmps66
    go_wp2
    go_ret
    exact ⟨_, rfl, HO.out, World.grownBy.refl _ _⟩
theorem mgL_no1 {n : Nat} {R : Nat → Lk} {m : Nat} {S : Nat → Lk} (h : accB n R = false) : mgOk n R m S = false ∧ mgL n R m S = [] := by
  have : mgOk n R m S = false := by unfold mgOk; rw [h]; rfl
  exact ⟨this, by unfold mgL; rw [this]; rfl⟩
theorem mgL_no2 {n : Nat} {R : Nat → Lk} {m : Nat} {S : Nat → Lk} (h : accB m S = false) : mgOk n R m S = false ∧ mgL n R m S = [] := by
  have : mgOk n R m S = false := by unfold mgOk; rw [h]; simp
  exact ⟨this, by unfold mgL; rw [this]; rfl⟩
theorem mgL_no3 {n : Nat} {R : Nat → Lk} {m : Nat} {S : Nat → Lk} (h : accB (mgM n R m S).length (atK (mgM n R m S)) = false) : mgOk n R m S = false ∧ mgL n R m S = [] := by
  have : mgOk n R m S = false := by unfold mgOk; rw [h]; simp
  exact ⟨this, by unfold mgL; rw [this]; rfl⟩
theorem mgL_yes {n : Nat} {R : Nat → Lk} {m : Nat} {S : Nat → Lk} (h1 : accB n R = true) (h2 : accB m S = true) (h : accB (mgM n R m S).length (atK (mgM n R m S)) = true) : mgOk n R m S = true ∧ mgL n R m S = mgM n R m S := by
  have : mgOk n R m S = true := by unfold mgOk; rw [h1, h2, h]; rfl
  exact ⟨this, by unfold mgL; rw [this]; rfl⟩
set_option maxRecDepth 100000 in
set_option maxHeartbeats 8000000 in
theorem C_MergeI (v u : Value) (n m : Nat) (R S : Nat → Lk) (w : World) (h : LKs w v n R) (k : LKs w u m S) (hs : ∀ j, j < n → (R j).why.size ≤ 9223372036854775807) (ks : ∀ j, j < m → (S j).why.size ≤ 9223372036854775807) :
    Calls Tryz.prog 23 #[v, u] w fun e w' => ∃ v', e = .returned (.tuple #[v', .bool (mgOk n R m S)]) ∧ OL w.heap.size w' v' (mgL n R m S) ∧ Below w.heap.size w w' := by
  have HH := Lib.hid (And.intro h k)
  have HS := Lib.hid (And.intro hs ks)
  obtain ⟨A, ca, rfl, hA, hca, hma⟩ := h
  obtain ⟨B, cb, rfl, hB, hcb, hmb⟩ := k
  have HR := Lib.hid (And.intro hA hB)
  clear hA hB hs ks
  cases hd : accB n R
  · have e0 := mgL_no1 (m := m) (S := S) hd
    rw [e0.1, e0.2]; clear e0
    go_enter Tryz.func23, Tryz.ntmps23
    go_wp2_with fail
    refine (C_IsAccount _ _ _ _ HH.out.1 HS.out.1).mono ?_; rintro e w1 ⟨rfl, hb1⟩; rw [hd]
    go_wp2_with fail
    go_ret2
    exact ⟨_, rfl, OL.nil _ _, hb1⟩
  cases hd2 : accB m S
  · have e0 := mgL_no2 (n := n) (R := R) hd2
    rw [e0.1, e0.2]; clear e0
    go_enter Tryz.func23, Tryz.ntmps23
    go_wp2_with fail
    refine (C_IsAccount _ _ _ _ HH.out.1 HS.out.1).mono ?_; rintro e w1 ⟨rfl, hb1⟩; rw [hd]
    go_wp2_with fail
    refine (C_IsAccount _ _ _ _ (HH.out.2.below hb1) HS.out.2).mono ?_; rintro e w2 ⟨rfl, hb2⟩; rw [hd2]
    go_wp2_with fail
    go_ret2
    exact ⟨_, rfl, OL.nil _ _, bel_step0 hb2 hb1⟩
  have hn := (accB_at hd).1
  have hm := (accB_at hd2).1
  obtain ⟨la, hla⟩ : ∃ la, seg R 0 n = la := ⟨_, rfl⟩
  obtain ⟨lb, hlb⟩ : ∃ lb, seg S 0 m = lb := ⟨_, rfl⟩
  have hna : la.length = n := by rw [← hla, seg_len]
  have hmb2 : lb.length = m := by rw [← hlb, seg_len]
  have HL := Lib.hid (And.intro hla hlb)
  have HR2 : Hid (RK w A la.length (atK la) ∧ RK w B lb.length (atK lb)) := Lib.hid ⟨by rw [hna, ← hla]; exact HR.out.1.congr fun j hj => (atK_seg hj).symm, by rw [hmb2, ← hlb]; exact HR.out.2.congr fun j hj => (atK_seg hj).symm⟩
  clear hla hlb
  go_enter Tryz.func23, Tryz.ntmps23
  go_wp2_with fail
  refine (C_IsAccount _ _ _ _ HH.out.1 HS.out.1).mono ?_; rintro e w1 ⟨rfl, B1⟩; rw [hd]
  go_wp2_with fail
  refine (C_IsAccount _ _ _ _ (HH.out.2.below B1) HS.out.2).mono ?_; rintro e w2 ⟨rfl, hb2⟩; rw [hd2]
  replace B1 := bel_step0 hb2 B1
  clear hb2
  go_wp2_with fail
  have hbs : w.heap.size ≤ w2.heap.size := B1.size
  have B2 : Below w.heap.size w (w2.alloc (.cells #[.slice A n ca, .slice B m cb] 24)) := by (repeat (first | with_reducible exact Below.refl _ _ | with_reducible exact below_regrown _ _ _ | with_reducible refine bel_step0 (by assumption) ?_ | with_reducible refine bel_alloc0 ?_ _ | with_reducible refine bel_regrown0 ?_ _ _ | with_reducible refine bel_regrown ?_ (by first | omega | (simp; done) | (simp; omega)) _ _ | with_reducible refine below_drewN ?_ _ | with_reducible refine Below.drew ?_ | with_reducible refine Below.alloc ?_ (by first | omega | (simp; done) | (simp; omega)) _ | with_reducible refine Below.setCell ?_ (by first | omega | (simp; done) | (simp; omega)) _ | with_reducible refine bel_step (by assumption) (by first | omega | (simp; done) | (simp; omega)) ?_ | with_reducible refine bel_grown (by assumption) (by first | omega | (simp; done) | (simp; omega)) (by first | omega | (simp; done) | (simp; omega)) ?_))
  refine (C_ConcatK w.heap.size w2.heap.size A B ca cb n m la lb _ (by simp; omega) hna hmb2 (by omega) (by omega) (HR2.out.1.below B2) (HR2.out.2.below B2) (cell_new _ _ _ _ _ rfl) (cell_new _ _ _ _ _ rfl) 2).mono ?_; rintro e w3 ⟨v3, rfl, ho3, hb3⟩
  have B3 := bel_step0 hb3 B2
  have hlen : (la ++ lb).length = n + m := by rw [List.length_append, hna, hmb2]
  clear B1 B2 hb3
  go_wp2_with fail
  refine (C_SortStableK w.heap.size v3 (la ++ lb) _ ho3 (by omega)).mono ?_; rintro e w4 ⟨rfl, G, ho4, hs4, hp4, hg4⟩
  have B4 := B3.trans ((Below.refl _ w3).grown hg4 B3.size (fun k hk => (OL.lt ho3 k hk).1))
  rw [hlen] at ho4 hs4 hp4
  clear ho3 hg4 B3
  go_wp2_with fail
  refine (C_CompactK w.heap.size v3 (n + m) G _ ho4 (by omega)).mono ?_; rintro e w5 ⟨v5, rfl, ho5, hg5⟩
  have B5 := B4.trans ((Below.refl _ w4).grown hg5 B4.size (fun k hk => (OL.lt ho4 k hk).1))
  have hms := merged_same (R := R) (m := m) (S := S) hd hs4 (by rw [HL.out.1, HL.out.2]; exact hp4)
  have hmem : ∀ j, j < (ddU eqK G (n + m)).length → (atK (ddU eqK G (n + m)) j).why.size ≤ 9223372036854775807 := fun j hj => by
    have h1 := (mem_ddU (eqb := eqK) eqK_iff (n + m)).1 (atK_mem hj)
    obtain ⟨q, hq, he⟩ := h1
    have h2 : G q ∈ seg G 0 (n + m) := by simp only [seg, List.mem_map, List.mem_range]; exact ⟨q, hq, by rw [Nat.zero_add]⟩
    rw [hp4.mem_iff, ← HL.out.1, ← HL.out.2, List.mem_append] at h2
    rw [← he]
    simp only [seg, List.mem_map, List.mem_range, Nat.zero_add] at h2
    rcases h2 with ⟨i, hi, e⟩ | ⟨i, hi, e⟩
    · rw [← e]; exact HS.out.1 i hi
    · rw [← e]; exact HS.out.2 i hi
  obtain ⟨D, hD⟩ : ∃ D, ddU eqK G (n + m) = D := ⟨_, rfl⟩
  rw [hD] at hms hmem ho5
  have H5 := Lib.hid (And.intro ho5 (And.intro hms (And.intro hmem B5)))
  have HA := Lib.hid (And.intro hd hd2)
  clear ho4 hs4 hp4 hg5 B4 hms hmem ho5 hD hd hd2
  go_wp2_with fail
  refine (C_IsAccount _ _ _ _ H5.out.1.lks H5.out.2.2.1).mono ?_; rintro e w6 ⟨rfl, hb6⟩
  have B6 := bel_step0 hb6 H5.out.2.2.2
  cases hz : accB D.length (atK D)
  · have hq : accB (mgM n R m S).length (atK (mgM n R m S)) = false := by
      rcases H5.out.2.1 with e | ⟨_, e⟩
      · rw [← e]; exact hz
      · exact e
    have e0 := mgL_no3 hq
    have E0 := Lib.hid e0; clear e0 hq
    go_wp2_with fail
    go_ret2
    rw [E0.out.1, E0.out.2]
    exact ⟨_, rfl, OL.nil _ _, B6⟩
  · have hq : D = mgM n R m S := by
      rcases H5.out.2.1 with e | ⟨e, _⟩
      · exact e
      · rw [hz] at e; cases e
    have e0 := mgL_yes HA.out.1 HA.out.2 (by rw [← hq]; exact hz)
    have E0 := Lib.hid (And.intro e0 hq); clear e0 hq
    go_wp2_with fail
    go_ret2
    rw [E0.out.1.1, E0.out.1.2, ← E0.out.2]
    exact ⟨_, rfl, H5.out.1.below hb6, B6⟩
end Go.Proofs.YtmhelhjjadoiaaaGreatDoor

/- MergeAccounts: the reference. No condition but those stated. -/
namespace Go.Proofs.YtmhelhjjadoiaaaGreatDoor
set_option linter.unusedVariables false
set_option linter.unusedSimpArgs false
open Go.RowKit Go.Sort
theorem mg_step (a : List Lk) (S : Nat → Lk) (k : Nat) : mrgL Lk.tick eqK a (seg S 0 (k + 1)) = mIns Lk.tick eqK (mrgL Lk.tick eqK a (seg S 0 k)) (S k) := by
  unfold mrgL
  rw [seg_add, List.foldl_append, Nat.zero_add]
  rfl
theorem mg_keep {l : List Lk} {x : Lk} {j : Nat} (hj : j < l.length) (h1 : ∀ q, q < j → (atK l q).tick < x.tick) (h2 : ¬ (atK l j).tick < x.tick) (he : eqK (atK l j) x = true) : mIns Lk.tick eqK l x = l := by
  have hi : idxI Lk.tick l x = j := idxI_of (by omega) h1 fun _ => h2
  unfold mIns
  rw [hi]
  have he2 : eqK (atE l j) x = true := he
  rw [he2]
  simp [hj]
theorem mg_put {l : List Lk} {x : Lk} {j : Nat} (hj : j ≤ l.length) (h1 : ∀ q, q < j → (atK l q).tick < x.tick) (h2 : j < l.length → ¬ (atK l j).tick < x.tick) (he : j < l.length → eqK (atK l j) x = false) : mIns Lk.tick eqK l x = insAt l j x := by
  have hi : idxI Lk.tick l x = j := idxI_of hj h1 h2
  unfold mIns
  rw [hi]
  by_cases e : j < l.length
  · have he2 : eqK (atE l j) x = false := he e
    rw [he2]; simp
  · simp [e]
theorem atK_take {l : List Lk} {k j : Nat} (h : j < k) : atK (l.take k) j = atK l j := by
  unfold atK
  rw [List.getD_eq_getElem?_getD, List.getD_eq_getElem?_getD, List.getElem?_take_of_lt h]
theorem atK_drop {l : List Lk} {k j : Nat} : atK (l.drop k) j = atK l (k + j) := by
  unfold atK
  rw [List.getD_eq_getElem?_getD, List.getD_eq_getElem?_getD, List.getElem?_drop]
def ML (w : World) (A : Option Addr) (l : List Lk) : Prop := RK w A l.length (atK l)
theorem ML.below {w w' : World} {A : Option Addr} {l : List Lk} (h : ML w A l) (hb : Below w.heap.size w w') : ML w' A l := RK.below hb h
theorem ML.take {w : World} {A : Option Addr} {l : List Lk} (h : ML w A l) (k : Nat) : ML w A (l.take k) := fun h0 => by
  have h1 : (l.take k).length ≤ l.length := by rw [List.length_take]; omega
  obtain ⟨b, off, e, hl, hc⟩ := h (by omega)
  refine ⟨b, off, e, hl, fun j hj => ?_⟩
  rw [List.length_take] at hj
  rw [atK_take (by omega)]
  exact hc j (by omega)
theorem ML.drop {w : World} {b off : Nat} {l : List Lk} (h : ML w (some ⟨b, off, none⟩) l) (k : Nat) : ML w (some ⟨b, off + k * 5, none⟩) (l.drop k) := fun h0 => by
  rw [List.length_drop] at h0
  obtain ⟨b', off', e, hl, hc⟩ := h (by omega)
  injection e with e
  injection e with e1 e2 _
  subst e1 e2
  refine ⟨b, off + k * 5, rfl, hl, fun j hj => ?_⟩
  rw [List.length_drop] at hj
  rw [atK_drop]
  have := hc (k + j) (by omega)
  rw [show off + (k + j) * 5 = off + k * 5 + j * 5 by omega] at this
  exact this
theorem ML.of_nil {w : World} {A : Option Addr} {l : List Lk} (h : l = []) : ML w A l := by subst h; exact fun h0 => absurd h0 (by simp)
theorem OL.ml {base : Nat} {w : World} {A : Option Addr} {n cap : Nat} {l : List Lk} (h : OL base w (.slice A n cap) l) : ML w A l := by
  obtain ⟨A', cap', e, h1, _⟩ := h.lks
  injection e with e1 e2 e3
  subst e1
  exact h1
theorem ml_lit (W : World) (x : Lk) (T : TypeId) : ML (W.alloc (.cells #[.int .i64 x.tick, .int .i64 x.who, .int .i64 x.rid, .int .i64 x.kind, .string x.why] T)) (some ⟨W.heap.size, 0, none⟩) [x] :=
  RK.one (by simp) (lk_lit W x T)
theorem ml_block {w w2 : World} {g : Nat} {x : Lk} (h : ML w (some ⟨g, 0, none⟩) [x]) (hg : w2.heap[g]? = w.heap[g]?) : ML w2 (some ⟨g, 0, none⟩) [x] := fun h0 => by
  obtain ⟨b, off, e, hl, hc⟩ := h h0
  injection e with e
  injection e with e1 e2 _
  subst e1 e2
  refine ⟨g, 0, rfl, ?_, fun j hj => (hc j hj).block hg⟩
  rcases Nat.lt_or_ge g w2.heap.size with h | h
  · exact h
  · rw [Array.getElem?_eq_none h, Array.getElem?_eq_getElem hl] at hg; cases hg
theorem ml_kept1 {w w2 : World} {T T' : TypeId} {x : Lk} (hq : ∀ q, q < ((w.alloc (.cells #[] T)).alloc (.cells #[.int .i64 x.tick, .int .i64 x.who, .int .i64 x.rid, .int .i64 x.kind, .string x.why] T')).heap.size → (Value.slice (some ⟨w.heap.size, 0, none⟩) 0 0).ownBlock ≠ some q → w2.heap[q]? = ((w.alloc (.cells #[] T)).alloc (.cells #[.int .i64 x.tick, .int .i64 x.who, .int .i64 x.rid, .int .i64 x.kind, .string x.why] T')).heap[q]?)
    : ML w2 (some ⟨w.heap.size + 1, 0, none⟩) [x] := by
  have h := ml_lit (w.alloc (.cells #[] T)) x T'
  rw [World.size_alloc] at h
  exact ml_block h (hq (w.heap.size + 1) (by simp) (by simp [Value.ownBlock]))
theorem ml_kept0 {w w2 : World} {T T' : TypeId} {x : Lk} (hq : ∀ q, q < ((w.alloc (.cells #[.int .i64 x.tick, .int .i64 x.who, .int .i64 x.rid, .int .i64 x.kind, .string x.why] T')).alloc (.cells #[] T)).heap.size → (Value.slice (some ⟨w.heap.size + 1, 0, none⟩) 0 0).ownBlock ≠ some q → w2.heap[q]? = ((w.alloc (.cells #[.int .i64 x.tick, .int .i64 x.who, .int .i64 x.rid, .int .i64 x.kind, .string x.why] T')).alloc (.cells #[] T)).heap[q]?)
    : ML w2 (some ⟨w.heap.size, 0, none⟩) [x] := by
  have h := (ml_lit w x T').below ((Below.refl _ _).alloc (Nat.le_refl _) (.cells #[] T))
  exact ml_block h (hq w.heap.size (by simp) (by simp [Value.ownBlock]))
set_option maxRecDepth 100000 in
set_option maxHeartbeats 8000000 in
theorem C_MergeS (v u : Value) (n m : Nat) (R S : Nat → Lk) (w : World) (h : LKs w v n R) (k : LKs w u m S) (hs : ∀ j, j < n → (R j).why.size ≤ 9223372036854775807) (ks : ∀ j, j < m → (S j).why.size ≤ 9223372036854775807) :
    Calls Tryz.prog 24 #[v, u] w fun e w' => ∃ v', e = .returned (.tuple #[v', .bool (mgOk n R m S)]) ∧ OL w.heap.size w' v' (mgL n R m S) ∧ Below w.heap.size w w' := by
  have HH := Lib.hid (And.intro h k)
  have HS := Lib.hid (And.intro hs ks)
  obtain ⟨A, ca, rfl, hA, hca, hma⟩ := h
  obtain ⟨B, cb, rfl, hB, hcb, hmb⟩ := k
  have HR := Lib.hid (And.intro hA hB)
  clear hA hB hs ks
  cases hd : accB n R
  · have E0 := Lib.hid (mgL_no1 (m := m) (S := S) hd)
    go_enter Tryz.func24, Tryz.ntmps24
    go_wp2_with fail
    refine (C_l22Good _ _ _ _ HH.out.1 HS.out.1).mono ?_; rintro e w1 ⟨rfl, hb1⟩; rw [hd]
    go_wp2_with fail
    go_ret2
    rw [E0.out.1, E0.out.2]
    exact ⟨_, rfl, OL.emptyAt rfl hb1.size, by (repeat (first | with_reducible exact Below.refl _ _ | with_reducible exact below_regrown _ _ _ | with_reducible refine bel_step0 (by assumption) ?_ | with_reducible refine bel_alloc0 ?_ _ | with_reducible refine bel_regrown0 ?_ _ _ | with_reducible refine bel_regrown ?_ (by first | omega | (simp; done) | (simp; omega)) _ _ | with_reducible refine below_drewN ?_ _ | with_reducible refine Below.drew ?_ | with_reducible refine Below.alloc ?_ (by first | omega | (simp; done) | (simp; omega)) _ | with_reducible refine Below.setCell ?_ (by first | omega | (simp; done) | (simp; omega)) _ | with_reducible refine bel_step (by assumption) (by first | omega | (simp; done) | (simp; omega)) ?_ | with_reducible refine bel_grown (by assumption) (by first | omega | (simp; done) | (simp; omega)) (by first | omega | (simp; done) | (simp; omega)) ?_))⟩
  cases hd2 : accB m S
  · have E0 := Lib.hid (mgL_no2 (n := n) (R := R) hd2)
    go_enter Tryz.func24, Tryz.ntmps24
    go_wp2_with fail
    refine (C_l22Good _ _ _ _ HH.out.1 HS.out.1).mono ?_; rintro e w1 ⟨rfl, hb1⟩; rw [hd]
    go_wp2_with fail
    refine (C_l22Good _ _ _ _ (HH.out.2.below hb1) HS.out.2).mono ?_; rintro e w2 ⟨rfl, hb2⟩; rw [hd2]
    have hb3 := bel_step0 hb2 hb1
    go_wp2_with fail
    go_ret2
    rw [E0.out.1, E0.out.2]
    exact ⟨_, rfl, OL.emptyAt rfl hb3.size, by (repeat (first | with_reducible exact Below.refl _ _ | with_reducible exact below_regrown _ _ _ | with_reducible refine bel_step0 (by assumption) ?_ | with_reducible refine bel_alloc0 ?_ _ | with_reducible refine bel_regrown0 ?_ _ _ | with_reducible refine bel_regrown ?_ (by first | omega | (simp; done) | (simp; omega)) _ _ | with_reducible refine below_drewN ?_ _ | with_reducible refine Below.drew ?_ | with_reducible refine Below.alloc ?_ (by first | omega | (simp; done) | (simp; omega)) _ | with_reducible refine Below.setCell ?_ (by first | omega | (simp; done) | (simp; omega)) _ | with_reducible refine bel_step (by assumption) (by first | omega | (simp; done) | (simp; omega)) ?_ | with_reducible refine bel_grown (by assumption) (by first | omega | (simp; done) | (simp; omega)) (by first | omega | (simp; done) | (simp; omega)) ?_))⟩
  have hn := (accB_at hd).1
  have hm := (accB_at hd2).1
  obtain ⟨la, hla⟩ : ∃ la, seg R 0 n = la := ⟨_, rfl⟩
  have hna : la.length = n := by rw [← hla, seg_len]
  have HL := Lib.hid hla
  have HR2 : Hid (ML w A la) := Lib.hid (by unfold ML; rw [hna, ← hla]; exact HR.out.1.congr fun j hj => (atK_seg hj).symm)
  have HA := Lib.hid (And.intro hd hd2)
  clear hla
  go_enter Tryz.func24, Tryz.ntmps24
  go_wp2_with fail
  refine (C_l22Good _ _ _ _ HH.out.1 HS.out.1).mono ?_; rintro e w1 ⟨rfl, B1⟩; rw [hd]
  go_wp2_with fail
  refine (C_l22Good _ _ _ _ (HH.out.2.below B1) HS.out.2).mono ?_; rintro e w2 ⟨rfl, hb2⟩; rw [hd2]
  have B2 := bel_step0 hb2 B1
  have hz2 := B2.size
  have B3 := bel_alloc0 B2 (.cells #[] 37)
  have HO3 := Lib.hid (And.intro (show OL w.heap.size (w2.alloc (.cells #[] 37)) (.slice (some ⟨w2.heap.size, 0, none⟩) 0 0) [] from OL.emptyAt rfl hz2) B3)
  clear B1 hb2 B2 hd hd2 B3
  go_wp2_with (at_builtin; refine wp_appL _ rfl _ _ rfl w.heap.size _ _ rfl HO3.out.1 A n ca la hna rfl (HR2.out.below HO3.out.2) (by simp; omega) HO3.out.2.size ?_; intro v1 w3 ho1 hg1 hx1)
  have B4 := HO3.out.2.trans ((Below.refl _ _).grown hg1 HO3.out.2.size (fun k hk => (OL.lt HO3.out.1 k hk).1))
  have X2 := Lib.hid (And.intro ho1 B4)
  clear ho1 hg1 hx1 B4 HO3
  go_loopw [6, 7] (fun o i wr => ∃ (k : Nat) (l : List Lk), k ≤ m ∧ i = .int .i64 k ∧ OL w.heap.size wr o l ∧ l = mrgL Lk.tick eqK (seg R 0 n) (seg S 0 k) ∧ l.length ≤ n + k ∧ Below w.heap.size w wr) (fun _ i _ => m - (intOf i).toNat)
  case atStart => exact ⟨0, la, Nat.zero_le _, rfl, X2.out.1, by rw [HL.out]; rfl, by omega, X2.out.2⟩
  case round =>
    clear X2
    obtain ⟨k, l, hk, rfl, ho, hl, hll, hB⟩ := hrel
    by_cases hlt : k < m
    · obtain ⟨L, hL⟩ : ∃ L, l.length = L := ⟨_, rfl⟩
      obtain ⟨b, off, rfl, hb, hcell⟩ := HR.out.2 (by omega)
      obtain ⟨x, hx⟩ : ∃ x, S k = x := ⟨_, rfl⟩
      have hcx := hcell k hlt
      rw [hx] at hcx
      have G := Lib.hid (fun W (hW : Below w.heap.size w W) => hcx.block (hW.block b hb))
      have hk0 : (0 : Int) ≤ (k : Int) := by omega
      have hk1 : (k : Int) < (m : Int) := by omega
      have HST := Lib.hid (show mrgL Lk.tick eqK (seg R 0 n) (seg S 0 (k + 1)) = mIns Lk.tick eqK l x by rw [mg_step, ← hl, hx])
      have HO := Lib.hid ho
      have HB := Lib.hid hB
      have hzs := hB.size
      obtain ⟨SA, sc, e⟩ := ho.form
      subst e
      have hsc : L ≤ sc ∧ sc ≤ 9223372036854775807 := by
        rcases ho.2 with ⟨e, h0⟩ | ⟨gq, cap', cur, e, _, _, h1, h2, _⟩
        · injection e with e1 e2 e3; omega
        · injection e with e1 e2 e3
          subst e3
          unfold maxLen at h2
          exact ⟨by omega, h2⟩
      rw [hL] at hll HO ⊢
      have HSL := Lib.hid hL
      clear hcell hcx hx hl ho hL hB
      go_wp2
      go_loopw [8] (fun i wi => ∃ j : Nat, i = .int .i64 j ∧ j ≤ L ∧ (∀ q, q < j → (atK l q).tick < x.tick) ∧ OL w.heap.size wi (.slice SA L sc) l ∧ Below w.heap.size w wi) (fun i _ => L - (intOf i).toNat)
      case atStart => exact ⟨0, rfl, Nat.zero_le _, fun q h => absurd h (by omega), HO.out, HB.out⟩
      case round =>
        clear HO HB hzs
        obtain ⟨j, rfl, hjL, hlow, ho, hB⟩ := hrel
        by_cases hjl : j < L
        · have hex : ∃ gq, SA = some ⟨gq, 0, none⟩ := by
            rcases ho.2 with ⟨e, h0⟩ | ⟨gq, cap', cur, e, _⟩
            · have := HSL.out; omega
            · injection e with e1 _ _; exact ⟨gq, e1⟩
          obtain ⟨gq, rfl⟩ := hex
          obtain ⟨y, hy⟩ : ∃ y, atK l j = y := ⟨_, rfl⟩
          have hcy : ∀ W, OL w.heap.size W (.slice (some ⟨gq, 0, none⟩) L sc) l → LkAt W gq (j * 5) y := fun W hW => by
            rw [← hy]
            exact (OL.kf HSL.out hW).at_ hjl
          have HCY := Lib.hid hcy
          obtain ⟨c0, _, _, _, _⟩ := hcy _ ho
          obtain ⟨t0, _, _, _, _⟩ := G.out _ hB
          have g0 := cell_regrown c0
          have gt0 := cell_regrown t0
          have hj0 : (0 : Int) ≤ (j : Int) := by omega
          have hj1 : (j : Int) < (L : Int) := by omega
          have HO := Lib.hid (And.intro ho hB)
          have HLOW := Lib.hid hlow
          have HY := Lib.hid hy
          clear c0 t0 hcy ho hB hlow hy
          by_cases hlt2 : y.tick < x.tick
          · go_wp2
            (refine wp_region_quiet_below (by kernel_rfl) (by kernel_rfl) ?_; (repeat (go_big_quiet_step (fail))); refine wpQuiet_nil ?_; intro _ hw'; obtain ⟨⟨dq, osq⟩, hw''⟩ := hw'; subst hw'')
            go_wp2
            go_roundw
            case rel => exact ⟨j + 1, by go_num, by omega, fun q hq => by
              by_cases e : q = j
              · rw [e, HY.out]; exact hlt2
              · exact HLOW.out q (by omega), HO.out.1.below (below_regrown _ _ _), bel_regrown0 HO.out.2 _ _⟩
            case measure => simp [intOf]; omega
          · cases he : eqK y x
            · have HNEW := Lib.hid (HST.out.trans (mg_put (by rw [HSL.out]; exact hjL) HLOW.out (fun _ => by rw [HY.out]; exact hlt2) (fun _ => by rw [HY.out]; exact he)))
              have hql : ∀ w', (binOp .eql 37 (.agg #[.int .i64 (y).tick, .int .i64 (y).who, .int .i64 (y).rid, .int .i64 (y).kind, .string (y).why]) (.agg #[.int .i64 (x).tick, .int .i64 (x).who, .int .i64 (x).rid, .int .i64 (x).kind, .string (x).why])).run Tryz.prog w' = .ok (.bool false) w' := fun w' => by rw [eql_look, he]
              have hgl : ∀ op a b w', (eqGuard op 37 a b (.agg #[.int .i64 (y).tick, .int .i64 (y).who, .int .i64 (y).rid, .int .i64 (y).kind, .string (y).why]) (.agg #[.int .i64 (x).tick, .int .i64 (x).who, .int .i64 (x).rid, .int .i64 (x).kind, .string (x).why])).run Tryz.prog w' = .ok () w' := fun op a b w' => guard_look op a b y x w'
              clear he HLOW HY
              go_wp2
              (refine wp_region_quiet_below (by kernel_rfl) (by kernel_rfl) ?_; (repeat (go_big_quiet_step (fail))); refine wpQuiet_nil ?_; intro _ hw'; obtain ⟨⟨dq, osq⟩, hw''⟩ := hw'; subst hw'')
              clear g0 gt0
              obtain ⟨w4, hw4⟩ : ∃ w4, w4 = grow (redrawn wr dq) osq := ⟨_, rfl⟩
              have O4 := Lib.hid (show OL w.heap.size w4 (.slice (some (⟨gq, 0, none⟩ : Addr)) L sc) l by rw [hw4]; exact HO.out.1.below (below_regrown _ _ _))
              have B4 := Lib.hid (show Below w.heap.size w w4 by rw [hw4]; exact bel_regrown0 HO.out.2 _ _)
              rw [← hw4]
              clear hw4
              obtain ⟨c0, c1, c2, c3, c4⟩ := HCY.out _ O4.out
              obtain ⟨t0, t1, t2, t3, t4⟩ := G.out _ B4.out
              have g0 := cell_regrown c0; have g1 := cell_regrown c1; have g2 := cell_regrown c2; have g3 := cell_regrown c3; have g4 := cell_regrown c4
              have k0 := cell_regrown t0; have k1 := cell_regrown t1; have k2 := cell_regrown t2; have k3 := cell_regrown t3; have k4 := cell_regrown t4
              clear c0 c1 c2 c3 c4 t0 t1 t2 t3 t4
              go_wp2
              (refine wp_region_quiet_below (by kernel_rfl) (by kernel_rfl) ?_; (repeat (go_big_quiet_step (fail))); refine wpQuiet_nil ?_; intro _ hw'; obtain ⟨⟨dq, osq⟩, hw''⟩ := hw'; subst hw'')
              clear g0 g1 g2 g3 g4 k0 k1 k2 k3 k4 hql hgl
              obtain ⟨w5, hw5⟩ : ∃ w5, w5 = grow (redrawn w4 dq) osq := ⟨_, rfl⟩
              have O5 := Lib.hid (show OL w.heap.size w5 (.slice (some (⟨gq, 0, none⟩ : Addr)) L sc) l by rw [hw5]; exact O4.out.below (below_regrown _ _ _))
              have B5 := Lib.hid (show Below w.heap.size w w5 by rw [hw5]; exact bel_regrown0 B4.out _ _)
              rw [← hw5]
              have hwz := B5.out.size
              have r0 : ∀ W, Below w5.heap.size w5 W → W.cell? ⟨b, off + k * 5, none⟩ = some (.int .i64 x.tick) := fun W hW => (G.out W (bel_step0 hW B5.out)).c0
              have r1 : ∀ W, Below w5.heap.size w5 W → W.cell? ⟨b, off + k * 5 + 1, none⟩ = some (.int .i64 x.who) := fun W hW => (G.out W (bel_step0 hW B5.out)).c1
              have r2 : ∀ W, Below w5.heap.size w5 W → W.cell? ⟨b, off + k * 5 + 2, none⟩ = some (.int .i64 x.rid) := fun W hW => (G.out W (bel_step0 hW B5.out)).c2
              have r3 : ∀ W, Below w5.heap.size w5 W → W.cell? ⟨b, off + k * 5 + 3, none⟩ = some (.int .i64 x.kind) := fun W hW => (G.out W (bel_step0 hW B5.out)).c3
              have r4 : ∀ W, Below w5.heap.size w5 W → W.cell? ⟨b, off + k * 5 + 4, none⟩ = some (.string x.why) := fun W hW => (G.out W (bel_step0 hW B5.out)).c4
              have HTK := Lib.hid (O5.out.ml.take j)
              have HTKL := Lib.hid (show (l.take j).length = j by rw [List.length_take, HSL.out]; omega)
              have hfin : [] ++ l.take j ++ [x] ++ l.drop j = insAt l j x := by unfold insAt; simp
              have HFIN := Lib.hid (And.intro (hfin.trans HNEW.out.symm) (show ([] ++ l.take j ++ [x] ++ l.drop j).length ≤ n + (k + 1) by rw [hfin, insAt_len]; have := HSL.out; omega))
              have hj0 : (0 : Int) ≤ (j : Int) := by omega
              have hj3 : (j : Int) ≤ (sc : Int) := by omega
              have hj4 : (L : Int) ≤ (sc : Int) := by omega
              clear O4 B4 hw5 hfin
              have hk4 : ¬ sc = j := by omega
              have hj1 : (j : Int) ≤ (L : Int) := by omega
              have HDRL := Lib.hid (show (l.drop j).length = L - j by rw [List.length_drop, HSL.out])
              have htl := ML.drop O5.out.ml j
              rw [Nat.zero_add] at htl
              have HTL := Lib.hid htl
              clear htl
              go_wp2
              go_region_held3 (fun W => Below w5.heap.size w5 W) (((repeat (first | with_reducible exact Below.refl _ _ | with_reducible exact below_regrown _ _ _ | with_reducible refine bel_step0 (by assumption) ?_ | with_reducible refine bel_alloc0 ?_ _ | with_reducible refine bel_regrown0 ?_ _ _ | with_reducible refine bel_regrown ?_ (by first | omega | (simp; done) | (simp; omega)) _ _ | with_reducible refine below_drewN ?_ _ | with_reducible refine Below.drew ?_ | with_reducible refine Below.alloc ?_ (by first | omega | (simp; done) | (simp; omega)) _ | with_reducible refine Below.setCell ?_ (by first | omega | (simp; done) | (simp; omega)) _ | with_reducible refine bel_step (by assumption) (by first | omega | (simp; done) | (simp; omega)) ?_ | with_reducible refine bel_grown (by assumption) (by first | omega | (simp; done) | (simp; omega)) (by first | omega | (simp; done) | (simp; omega)) ?_)))) (first | ((refine step_appL _ (by rfl) (.tmp 61) (.tmp 64) (by rfl) w5 _ [] _ (by rfl) (by first | exact OL.emptyAt (by simp) (by simp) | exact OL.alloc (OL.emptyAt (by simp) (by simp)) _) (by (repeat (first | with_reducible exact Below.refl _ _ | with_reducible exact below_regrown _ _ _ | with_reducible refine bel_step0 (by assumption) ?_ | with_reducible refine bel_alloc0 ?_ _ | with_reducible refine bel_regrown0 ?_ _ _ | with_reducible refine bel_regrown ?_ (by first | omega | (simp; done) | (simp; omega)) _ _ | with_reducible refine below_drewN ?_ _ | with_reducible refine Below.drew ?_ | with_reducible refine Below.alloc ?_ (by first | omega | (simp; done) | (simp; omega)) _ | with_reducible refine Below.setCell ?_ (by first | omega | (simp; done) | (simp; omega)) _ | with_reducible refine bel_step (by assumption) (by first | omega | (simp; done) | (simp; omega)) ?_ | with_reducible refine bel_grown (by assumption) (by first | omega | (simp; done) | (simp; omega)) (by first | omega | (simp; done) | (simp; omega)) ?_))) _ _ _ HTKL.out (by rfl) (HTK.out.below (by (repeat (first | with_reducible exact Below.refl _ _ | with_reducible exact below_regrown _ _ _ | with_reducible refine bel_step0 (by assumption) ?_ | with_reducible refine bel_alloc0 ?_ _ | with_reducible refine bel_regrown0 ?_ _ _ | with_reducible refine bel_regrown ?_ (by first | omega | (simp; done) | (simp; omega)) _ _ | with_reducible refine below_drewN ?_ _ | with_reducible refine Below.drew ?_ | with_reducible refine Below.alloc ?_ (by first | omega | (simp; done) | (simp; omega)) _ | with_reducible refine Below.setCell ?_ (by first | omega | (simp; done) | (simp; omega)) _ | with_reducible refine bel_step (by assumption) (by first | omega | (simp; done) | (simp; omega)) ?_ | with_reducible refine bel_grown (by assumption) (by first | omega | (simp; done) | (simp; omega)) (by first | omega | (simp; done) | (simp; omega)) ?_)))) (by simp; omega) ?_; intro v2 w2 ho2 hb2 hq2 hs2; have HQ2 := Lib.hid hq2; clear hq2)) | ((refine step_appL _ (by rfl) (.tmp 65) (.tmp 70) (by rfl) w5 _ _ [x] (by rfl) (by first | exact ho2 | exact OL.alloc ho2 _) (by (repeat (first | with_reducible exact Below.refl _ _ | with_reducible exact below_regrown _ _ _ | with_reducible refine bel_step0 (by assumption) ?_ | with_reducible refine bel_alloc0 ?_ _ | with_reducible refine bel_regrown0 ?_ _ _ | with_reducible refine bel_regrown ?_ (by first | omega | (simp; done) | (simp; omega)) _ _ | with_reducible refine below_drewN ?_ _ | with_reducible refine Below.drew ?_ | with_reducible refine Below.alloc ?_ (by first | omega | (simp; done) | (simp; omega)) _ | with_reducible refine Below.setCell ?_ (by first | omega | (simp; done) | (simp; omega)) _ | with_reducible refine bel_step (by assumption) (by first | omega | (simp; done) | (simp; omega)) ?_ | with_reducible refine bel_grown (by assumption) (by first | omega | (simp; done) | (simp; omega)) (by first | omega | (simp; done) | (simp; omega)) ?_))) _ 1 1 (by rfl) (by rfl) (by first | exact ml_lit _ _ _ | exact ml_kept1 HQ2.out | exact ml_kept0 HQ2.out) (by rw [List.nil_append, HTKL.out]; omega) ?_; intro v3 w3 ho3 hb3 hq3 hs3; clear hq3 hs3)) | ((refine step_appL _ (by rfl) (.tmp 71) (.tmp 74) (by rfl) w5 _ _ _ (by rfl) ho3 (by (repeat (first | with_reducible exact Below.refl _ _ | with_reducible exact below_regrown _ _ _ | with_reducible refine bel_step0 (by assumption) ?_ | with_reducible refine bel_alloc0 ?_ _ | with_reducible refine bel_regrown0 ?_ _ _ | with_reducible refine bel_regrown ?_ (by first | omega | (simp; done) | (simp; omega)) _ _ | with_reducible refine below_drewN ?_ _ | with_reducible refine Below.drew ?_ | with_reducible refine Below.alloc ?_ (by first | omega | (simp; done) | (simp; omega)) _ | with_reducible refine Below.setCell ?_ (by first | omega | (simp; done) | (simp; omega)) _ | with_reducible refine bel_step (by assumption) (by first | omega | (simp; done) | (simp; omega)) ?_ | with_reducible refine bel_grown (by assumption) (by first | omega | (simp; done) | (simp; omega)) (by first | omega | (simp; done) | (simp; omega)) ?_))) _ _ _ HDRL.out (by rfl) ((HTL.out.below (by (repeat (first | with_reducible exact Below.refl _ _ | with_reducible exact below_regrown _ _ _ | with_reducible refine bel_step0 (by assumption) ?_ | with_reducible refine bel_alloc0 ?_ _ | with_reducible refine bel_regrown0 ?_ _ _ | with_reducible refine bel_regrown ?_ (by first | omega | (simp; done) | (simp; omega)) _ _ | with_reducible refine below_drewN ?_ _ | with_reducible refine Below.drew ?_ | with_reducible refine Below.alloc ?_ (by first | omega | (simp; done) | (simp; omega)) _ | with_reducible refine Below.setCell ?_ (by first | omega | (simp; done) | (simp; omega)) _ | with_reducible refine bel_step (by assumption) (by first | omega | (simp; done) | (simp; omega)) ?_ | with_reducible refine bel_grown (by assumption) (by first | omega | (simp; done) | (simp; omega)) (by first | omega | (simp; done) | (simp; omega)) ?_))))) (by rw [List.length_append, List.nil_append, HTKL.out]; simp; omega) ?_; intro v4 w4 ho4 hb4 hq4 hs4; clear hq4 hs4)))
              all_goals
                go_wp2
                go_roundw
                case rel => exact ⟨k + 1, _, by omega, by go_num, OL.mono hwz ho4, HFIN.out.1, HFIN.out.2, bel_step0 hb4 B5.out⟩
                case measure => simp [intOf]; omega
            · have HNEW := Lib.hid (HST.out.trans (mg_keep (by rw [HSL.out]; exact hjl) HLOW.out (by rw [HY.out]; exact hlt2) (by rw [HY.out]; exact he)))
              have hql : ∀ w', (binOp .eql 37 (.agg #[.int .i64 (y).tick, .int .i64 (y).who, .int .i64 (y).rid, .int .i64 (y).kind, .string (y).why]) (.agg #[.int .i64 (x).tick, .int .i64 (x).who, .int .i64 (x).rid, .int .i64 (x).kind, .string (x).why])).run Tryz.prog w' = .ok (.bool true) w' := fun w' => by rw [eql_look, he]
              have hgl : ∀ op a b w', (eqGuard op 37 a b (.agg #[.int .i64 (y).tick, .int .i64 (y).who, .int .i64 (y).rid, .int .i64 (y).kind, .string (y).why]) (.agg #[.int .i64 (x).tick, .int .i64 (x).who, .int .i64 (x).rid, .int .i64 (x).kind, .string (x).why])).run Tryz.prog w' = .ok () w' := fun op a b w' => guard_look op a b y x w'
              clear he HLOW HY
              go_wp2
              (refine wp_region_quiet_below (by kernel_rfl) (by kernel_rfl) ?_; (repeat (go_big_quiet_step (fail))); refine wpQuiet_nil ?_; intro _ hw'; obtain ⟨⟨dq, osq⟩, hw''⟩ := hw'; subst hw'')
              clear g0 gt0
              obtain ⟨w4, hw4⟩ : ∃ w4, w4 = grow (redrawn wr dq) osq := ⟨_, rfl⟩
              have O4 := Lib.hid (show OL w.heap.size w4 (.slice (some (⟨gq, 0, none⟩ : Addr)) L sc) l by rw [hw4]; exact HO.out.1.below (below_regrown _ _ _))
              have B4 := Lib.hid (show Below w.heap.size w w4 by rw [hw4]; exact bel_regrown0 HO.out.2 _ _)
              rw [← hw4]
              clear hw4
              obtain ⟨c0, c1, c2, c3, c4⟩ := HCY.out _ O4.out
              obtain ⟨t0, t1, t2, t3, t4⟩ := G.out _ B4.out
              have g0 := cell_regrown c0; have g1 := cell_regrown c1; have g2 := cell_regrown c2; have g3 := cell_regrown c3; have g4 := cell_regrown c4
              have k0 := cell_regrown t0; have k1 := cell_regrown t1; have k2 := cell_regrown t2; have k3 := cell_regrown t3; have k4 := cell_regrown t4
              clear c0 c1 c2 c3 c4 t0 t1 t2 t3 t4
              go_wp2
              (refine wp_region_quiet_below (by kernel_rfl) (by kernel_rfl) ?_; (repeat (go_big_quiet_step (fail))); refine wpQuiet_nil ?_; intro _ hw'; obtain ⟨⟨dq, osq⟩, hw''⟩ := hw'; subst hw'')
              clear g0 g1 g2 g3 g4 k0 k1 k2 k3 k4 hql hgl
              go_wp2
              go_roundw
              case rel => exact ⟨k + 1, l, by omega, by go_num, O4.out.below (below_regrown _ _ _), HNEW.out.symm, by have := HSL.out; omega, bel_regrown0 B4.out _ _⟩
              case measure => simp [intOf]; omega
        · obtain rfl : L = j := by omega
          have HNEW := Lib.hid (HST.out.trans (mg_put (by rw [HSL.out]; exact hjL) hlow (fun h => absurd h (by rw [HSL.out]; omega)) (fun h => absurd h (by rw [HSL.out]; omega))))
          have HO := Lib.hid (And.intro ho hB)
          clear ho hB hlow
          go_wp2
          (refine wp_region_quiet_below (by kernel_rfl) (by kernel_rfl) ?_; (repeat (go_big_quiet_step (fail))); refine wpQuiet_nil ?_; intro _ hw'; obtain ⟨⟨dq, osq⟩, hw''⟩ := hw'; subst hw'')
          obtain ⟨w4, hw4⟩ : ∃ w4, w4 = grow (redrawn wr dq) osq := ⟨_, rfl⟩
          have O4 := Lib.hid (show OL w.heap.size w4 (.slice SA L sc) l by rw [hw4]; exact HO.out.1.below (below_regrown _ _ _))
          have B4 := Lib.hid (show Below w.heap.size w w4 by rw [hw4]; exact bel_regrown0 HO.out.2 _ _)
          rw [← hw4]
          clear hw4
          go_wp2
          (refine wp_region_quiet_below (by kernel_rfl) (by kernel_rfl) ?_; (repeat (go_big_quiet_step (fail))); refine wpQuiet_nil ?_; intro _ hw'; obtain ⟨⟨dq, osq⟩, hw''⟩ := hw'; subst hw'')
          obtain ⟨w5, hw5⟩ : ∃ w5, w5 = grow (redrawn w4 dq) osq := ⟨_, rfl⟩
          have O5 := Lib.hid (show OL w.heap.size w5 (.slice SA L sc) l by rw [hw5]; exact O4.out.below (below_regrown _ _ _))
          have B5 := Lib.hid (show Below w.heap.size w w5 by rw [hw5]; exact bel_regrown0 B4.out _ _)
          rw [← hw5]
          have hwz := B5.out.size
          have r0 : ∀ W, Below w5.heap.size w5 W → W.cell? ⟨b, off + k * 5, none⟩ = some (.int .i64 x.tick) := fun W hW => (G.out W (bel_step0 hW B5.out)).c0
          have r1 : ∀ W, Below w5.heap.size w5 W → W.cell? ⟨b, off + k * 5 + 1, none⟩ = some (.int .i64 x.who) := fun W hW => (G.out W (bel_step0 hW B5.out)).c1
          have r2 : ∀ W, Below w5.heap.size w5 W → W.cell? ⟨b, off + k * 5 + 2, none⟩ = some (.int .i64 x.rid) := fun W hW => (G.out W (bel_step0 hW B5.out)).c2
          have r3 : ∀ W, Below w5.heap.size w5 W → W.cell? ⟨b, off + k * 5 + 3, none⟩ = some (.int .i64 x.kind) := fun W hW => (G.out W (bel_step0 hW B5.out)).c3
          have r4 : ∀ W, Below w5.heap.size w5 W → W.cell? ⟨b, off + k * 5 + 4, none⟩ = some (.string x.why) := fun W hW => (G.out W (bel_step0 hW B5.out)).c4
          have HTK := Lib.hid (O5.out.ml.take L)
          have HTKL := Lib.hid (show (l.take L).length = L by rw [List.length_take, HSL.out]; omega)
          have hfin : [] ++ l.take L ++ [x] ++ l.drop L = insAt l L x := by unfold insAt; simp
          have HFIN := Lib.hid (And.intro (hfin.trans HNEW.out.symm) (show ([] ++ l.take L ++ [x] ++ l.drop L).length ≤ n + (k + 1) by rw [hfin, insAt_len]; have := HSL.out; omega))
          have hj0 : (0 : Int) ≤ (L : Int) := by omega
          have hj3 : (L : Int) ≤ (sc : Int) := by omega
          have hj4 : (L : Int) ≤ (sc : Int) := by omega
          clear O4 B4 hw5 hfin
          have HDR0 := Lib.hid (show l.drop L = [] from List.drop_eq_nil_of_le (by rw [HSL.out]; exact Nat.le_refl _))
          have HDRL := Lib.hid (show (l.drop L).length = 0 by rw [HDR0.out]; rfl)
          by_cases hcn : sc = L
          · obtain rfl : L = sc := hcn.symm
            clear hcn
            go_wp2
            go_region_held3 (fun W => Below w5.heap.size w5 W) (((repeat (first | with_reducible exact Below.refl _ _ | with_reducible exact below_regrown _ _ _ | with_reducible refine bel_step0 (by assumption) ?_ | with_reducible refine bel_alloc0 ?_ _ | with_reducible refine bel_regrown0 ?_ _ _ | with_reducible refine bel_regrown ?_ (by first | omega | (simp; done) | (simp; omega)) _ _ | with_reducible refine below_drewN ?_ _ | with_reducible refine Below.drew ?_ | with_reducible refine Below.alloc ?_ (by first | omega | (simp; done) | (simp; omega)) _ | with_reducible refine Below.setCell ?_ (by first | omega | (simp; done) | (simp; omega)) _ | with_reducible refine bel_step (by assumption) (by first | omega | (simp; done) | (simp; omega)) ?_ | with_reducible refine bel_grown (by assumption) (by first | omega | (simp; done) | (simp; omega)) (by first | omega | (simp; done) | (simp; omega)) ?_)))) (first | ((refine step_appL _ (by rfl) (.tmp 61) (.tmp 64) (by rfl) w5 _ [] _ (by rfl) (by first | exact OL.emptyAt (by simp) (by simp) | exact OL.alloc (OL.emptyAt (by simp) (by simp)) _) (by (repeat (first | with_reducible exact Below.refl _ _ | with_reducible exact below_regrown _ _ _ | with_reducible refine bel_step0 (by assumption) ?_ | with_reducible refine bel_alloc0 ?_ _ | with_reducible refine bel_regrown0 ?_ _ _ | with_reducible refine bel_regrown ?_ (by first | omega | (simp; done) | (simp; omega)) _ _ | with_reducible refine below_drewN ?_ _ | with_reducible refine Below.drew ?_ | with_reducible refine Below.alloc ?_ (by first | omega | (simp; done) | (simp; omega)) _ | with_reducible refine Below.setCell ?_ (by first | omega | (simp; done) | (simp; omega)) _ | with_reducible refine bel_step (by assumption) (by first | omega | (simp; done) | (simp; omega)) ?_ | with_reducible refine bel_grown (by assumption) (by first | omega | (simp; done) | (simp; omega)) (by first | omega | (simp; done) | (simp; omega)) ?_))) _ _ _ HTKL.out (by rfl) (HTK.out.below (by (repeat (first | with_reducible exact Below.refl _ _ | with_reducible exact below_regrown _ _ _ | with_reducible refine bel_step0 (by assumption) ?_ | with_reducible refine bel_alloc0 ?_ _ | with_reducible refine bel_regrown0 ?_ _ _ | with_reducible refine bel_regrown ?_ (by first | omega | (simp; done) | (simp; omega)) _ _ | with_reducible refine below_drewN ?_ _ | with_reducible refine Below.drew ?_ | with_reducible refine Below.alloc ?_ (by first | omega | (simp; done) | (simp; omega)) _ | with_reducible refine Below.setCell ?_ (by first | omega | (simp; done) | (simp; omega)) _ | with_reducible refine bel_step (by assumption) (by first | omega | (simp; done) | (simp; omega)) ?_ | with_reducible refine bel_grown (by assumption) (by first | omega | (simp; done) | (simp; omega)) (by first | omega | (simp; done) | (simp; omega)) ?_)))) (by simp; omega) ?_; intro v2 w2 ho2 hb2 hq2 hs2; have HQ2 := Lib.hid hq2; clear hq2)) | ((refine step_appL _ (by rfl) (.tmp 65) (.tmp 70) (by rfl) w5 _ _ [x] (by rfl) (by first | exact ho2 | exact OL.alloc ho2 _) (by (repeat (first | with_reducible exact Below.refl _ _ | with_reducible exact below_regrown _ _ _ | with_reducible refine bel_step0 (by assumption) ?_ | with_reducible refine bel_alloc0 ?_ _ | with_reducible refine bel_regrown0 ?_ _ _ | with_reducible refine bel_regrown ?_ (by first | omega | (simp; done) | (simp; omega)) _ _ | with_reducible refine below_drewN ?_ _ | with_reducible refine Below.drew ?_ | with_reducible refine Below.alloc ?_ (by first | omega | (simp; done) | (simp; omega)) _ | with_reducible refine Below.setCell ?_ (by first | omega | (simp; done) | (simp; omega)) _ | with_reducible refine bel_step (by assumption) (by first | omega | (simp; done) | (simp; omega)) ?_ | with_reducible refine bel_grown (by assumption) (by first | omega | (simp; done) | (simp; omega)) (by first | omega | (simp; done) | (simp; omega)) ?_))) _ 1 1 (by rfl) (by rfl) (by first | exact ml_lit _ _ _ | exact ml_kept1 HQ2.out | exact ml_kept0 HQ2.out) (by rw [List.nil_append, HTKL.out]; omega) ?_; intro v3 w3 ho3 hb3 hq3 hs3; clear hq3 hs3)) | ((refine step_appL _ (by rfl) (.tmp 71) (.tmp 74) (by rfl) w5 _ _ _ (by rfl) ho3 (by (repeat (first | with_reducible exact Below.refl _ _ | with_reducible exact below_regrown _ _ _ | with_reducible refine bel_step0 (by assumption) ?_ | with_reducible refine bel_alloc0 ?_ _ | with_reducible refine bel_regrown0 ?_ _ _ | with_reducible refine bel_regrown ?_ (by first | omega | (simp; done) | (simp; omega)) _ _ | with_reducible refine below_drewN ?_ _ | with_reducible refine Below.drew ?_ | with_reducible refine Below.alloc ?_ (by first | omega | (simp; done) | (simp; omega)) _ | with_reducible refine Below.setCell ?_ (by first | omega | (simp; done) | (simp; omega)) _ | with_reducible refine bel_step (by assumption) (by first | omega | (simp; done) | (simp; omega)) ?_ | with_reducible refine bel_grown (by assumption) (by first | omega | (simp; done) | (simp; omega)) (by first | omega | (simp; done) | (simp; omega)) ?_))) _ _ _ HDRL.out (by rfl) ((ML.of_nil HDR0.out)) (by rw [List.length_append, List.nil_append, HTKL.out]; simp; omega) ?_; intro v4 w4 ho4 hb4 hq4 hs4; clear hq4 hs4)))
            all_goals
              go_wp2
              go_roundw
              case rel => exact ⟨k + 1, _, by omega, by go_num, OL.mono hwz ho4, HFIN.out.1, HFIN.out.2, bel_step0 hb4 B5.out⟩
              case measure => simp [intOf]; omega
          · have hex : ∃ gq, SA = some ⟨gq, 0, none⟩ := by
              rcases O5.out.2 with ⟨e, h0⟩ | ⟨gq, cap', cur, e, _⟩
              · injection e with _ e1 e2; rw [HSL.out] at h0; omega
              · injection e with e1 _ _; exact ⟨gq, e1⟩
            obtain ⟨gq, hSA⟩ := hex
            subst hSA
            go_wp2
            go_region_held3 (fun W => Below w5.heap.size w5 W) (((repeat (first | with_reducible exact Below.refl _ _ | with_reducible exact below_regrown _ _ _ | with_reducible refine bel_step0 (by assumption) ?_ | with_reducible refine bel_alloc0 ?_ _ | with_reducible refine bel_regrown0 ?_ _ _ | with_reducible refine bel_regrown ?_ (by first | omega | (simp; done) | (simp; omega)) _ _ | with_reducible refine below_drewN ?_ _ | with_reducible refine Below.drew ?_ | with_reducible refine Below.alloc ?_ (by first | omega | (simp; done) | (simp; omega)) _ | with_reducible refine Below.setCell ?_ (by first | omega | (simp; done) | (simp; omega)) _ | with_reducible refine bel_step (by assumption) (by first | omega | (simp; done) | (simp; omega)) ?_ | with_reducible refine bel_grown (by assumption) (by first | omega | (simp; done) | (simp; omega)) (by first | omega | (simp; done) | (simp; omega)) ?_)))) (first | ((refine step_appL _ (by rfl) (.tmp 61) (.tmp 64) (by rfl) w5 _ [] _ (by rfl) (by first | exact OL.emptyAt (by simp) (by simp) | exact OL.alloc (OL.emptyAt (by simp) (by simp)) _) (by (repeat (first | with_reducible exact Below.refl _ _ | with_reducible exact below_regrown _ _ _ | with_reducible refine bel_step0 (by assumption) ?_ | with_reducible refine bel_alloc0 ?_ _ | with_reducible refine bel_regrown0 ?_ _ _ | with_reducible refine bel_regrown ?_ (by first | omega | (simp; done) | (simp; omega)) _ _ | with_reducible refine below_drewN ?_ _ | with_reducible refine Below.drew ?_ | with_reducible refine Below.alloc ?_ (by first | omega | (simp; done) | (simp; omega)) _ | with_reducible refine Below.setCell ?_ (by first | omega | (simp; done) | (simp; omega)) _ | with_reducible refine bel_step (by assumption) (by first | omega | (simp; done) | (simp; omega)) ?_ | with_reducible refine bel_grown (by assumption) (by first | omega | (simp; done) | (simp; omega)) (by first | omega | (simp; done) | (simp; omega)) ?_))) _ _ _ HTKL.out (by rfl) (HTK.out.below (by (repeat (first | with_reducible exact Below.refl _ _ | with_reducible exact below_regrown _ _ _ | with_reducible refine bel_step0 (by assumption) ?_ | with_reducible refine bel_alloc0 ?_ _ | with_reducible refine bel_regrown0 ?_ _ _ | with_reducible refine bel_regrown ?_ (by first | omega | (simp; done) | (simp; omega)) _ _ | with_reducible refine below_drewN ?_ _ | with_reducible refine Below.drew ?_ | with_reducible refine Below.alloc ?_ (by first | omega | (simp; done) | (simp; omega)) _ | with_reducible refine Below.setCell ?_ (by first | omega | (simp; done) | (simp; omega)) _ | with_reducible refine bel_step (by assumption) (by first | omega | (simp; done) | (simp; omega)) ?_ | with_reducible refine bel_grown (by assumption) (by first | omega | (simp; done) | (simp; omega)) (by first | omega | (simp; done) | (simp; omega)) ?_)))) (by simp; omega) ?_; intro v2 w2 ho2 hb2 hq2 hs2; have HQ2 := Lib.hid hq2; clear hq2)) | ((refine step_appL _ (by rfl) (.tmp 65) (.tmp 70) (by rfl) w5 _ _ [x] (by rfl) (by first | exact ho2 | exact OL.alloc ho2 _) (by (repeat (first | with_reducible exact Below.refl _ _ | with_reducible exact below_regrown _ _ _ | with_reducible refine bel_step0 (by assumption) ?_ | with_reducible refine bel_alloc0 ?_ _ | with_reducible refine bel_regrown0 ?_ _ _ | with_reducible refine bel_regrown ?_ (by first | omega | (simp; done) | (simp; omega)) _ _ | with_reducible refine below_drewN ?_ _ | with_reducible refine Below.drew ?_ | with_reducible refine Below.alloc ?_ (by first | omega | (simp; done) | (simp; omega)) _ | with_reducible refine Below.setCell ?_ (by first | omega | (simp; done) | (simp; omega)) _ | with_reducible refine bel_step (by assumption) (by first | omega | (simp; done) | (simp; omega)) ?_ | with_reducible refine bel_grown (by assumption) (by first | omega | (simp; done) | (simp; omega)) (by first | omega | (simp; done) | (simp; omega)) ?_))) _ 1 1 (by rfl) (by rfl) (by first | exact ml_lit _ _ _ | exact ml_kept1 HQ2.out | exact ml_kept0 HQ2.out) (by rw [List.nil_append, HTKL.out]; omega) ?_; intro v3 w3 ho3 hb3 hq3 hs3; clear hq3 hs3)) | ((refine step_appL _ (by rfl) (.tmp 71) (.tmp 74) (by rfl) w5 _ _ _ (by rfl) ho3 (by (repeat (first | with_reducible exact Below.refl _ _ | with_reducible exact below_regrown _ _ _ | with_reducible refine bel_step0 (by assumption) ?_ | with_reducible refine bel_alloc0 ?_ _ | with_reducible refine bel_regrown0 ?_ _ _ | with_reducible refine bel_regrown ?_ (by first | omega | (simp; done) | (simp; omega)) _ _ | with_reducible refine below_drewN ?_ _ | with_reducible refine Below.drew ?_ | with_reducible refine Below.alloc ?_ (by first | omega | (simp; done) | (simp; omega)) _ | with_reducible refine Below.setCell ?_ (by first | omega | (simp; done) | (simp; omega)) _ | with_reducible refine bel_step (by assumption) (by first | omega | (simp; done) | (simp; omega)) ?_ | with_reducible refine bel_grown (by assumption) (by first | omega | (simp; done) | (simp; omega)) (by first | omega | (simp; done) | (simp; omega)) ?_))) _ _ _ HDRL.out (by rfl) ((ML.of_nil HDR0.out)) (by rw [List.length_append, List.nil_append, HTKL.out]; simp; omega) ?_; intro v4 w4 ho4 hb4 hq4 hs4; clear hq4 hs4)))
            all_goals
              go_wp2
              go_roundw
              case rel => exact ⟨k + 1, _, by omega, by go_num, OL.mono hwz ho4, HFIN.out.1, HFIN.out.2, bel_step0 hb4 B5.out⟩
              case measure => simp [intOf]; omega
    · obtain rfl : k = m := by omega
      have hmem : ∀ j, j < l.length → (atK l j).why.size ≤ 9223372036854775807 := fun j hj => by
        have h1 : atK l j ∈ l := atK_mem hj
        generalize atK l j = z at h1 ⊢
        rw [hl, mem_mrgL eqK_iff] at h1
        simp only [seg, List.mem_map, List.mem_range, Nat.zero_add] at h1
        rcases h1 with ⟨i, hi, e⟩ | ⟨i, hi, e⟩
        · rw [← e]; exact HS.out.1 i hi
        · rw [← e]; exact HS.out.2 i hi
      have hq : l = mgM n R k S := hl
      have HQ := Lib.hid (And.intro hq (And.intro ho (And.intro hmem hB)))
      clear hl hq ho hmem hB
      go_wp2_with fail
      refine (C_l22Good _ _ _ _ HQ.out.2.1.lks HQ.out.2.2.1).mono ?_; rintro e w6 ⟨rfl, hb6⟩
      have B6 := bel_step0 hb6 HQ.out.2.2.2
      have hz6 := B6.size
      cases hz : accB l.length (atK l)
      · have E0 := Lib.hid (mgL_no3 (n := n) (R := R) (m := k) (S := S) (by rw [← HQ.out.1]; exact hz))
        go_wp2_with fail
        go_ret2
        rw [E0.out.1, E0.out.2]
        exact ⟨_, rfl, OL.emptyAt rfl hz6, by (repeat (first | with_reducible exact Below.refl _ _ | with_reducible exact below_regrown _ _ _ | with_reducible refine bel_step0 (by assumption) ?_ | with_reducible refine bel_alloc0 ?_ _ | with_reducible refine bel_regrown0 ?_ _ _ | with_reducible refine bel_regrown ?_ (by first | omega | (simp; done) | (simp; omega)) _ _ | with_reducible refine below_drewN ?_ _ | with_reducible refine Below.drew ?_ | with_reducible refine Below.alloc ?_ (by first | omega | (simp; done) | (simp; omega)) _ | with_reducible refine Below.setCell ?_ (by first | omega | (simp; done) | (simp; omega)) _ | with_reducible refine bel_step (by assumption) (by first | omega | (simp; done) | (simp; omega)) ?_ | with_reducible refine bel_grown (by assumption) (by first | omega | (simp; done) | (simp; omega)) (by first | omega | (simp; done) | (simp; omega)) ?_))⟩
      · have E0 := Lib.hid (mgL_yes HA.out.1 HA.out.2 (by rw [← HQ.out.1]; exact hz))
        go_wp2_with fail
        go_ret2
        rw [E0.out.1, E0.out.2, ← HQ.out.1]
        exact ⟨_, rfl, HQ.out.2.1.below hb6, B6⟩
end Go.Proofs.YtmhelhjjadoiaaaGreatDoor
