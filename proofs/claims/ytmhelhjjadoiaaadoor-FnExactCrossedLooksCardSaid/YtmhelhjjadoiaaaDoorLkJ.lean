/- Crossed looks: the program. No condition but those stated. -/
import Derived.Test.YtmhelhjjadoiaaaDoorLkI
namespace Go.Proofs.YtmhelhjjadoiaaaDoor
set_option linter.unusedVariables false
set_option linter.unusedSimpArgs false
open Go.RowKit Go.Sort
set_option maxHeartbeats 2000000 in
theorem C_areCrossed (x y : Lk) (w : World) :
    Calls Tryd.prog 66 #[.agg #[.int .i64 (x).tick, .int .i64 (x).who, .int .i64 (x).rid, .int .i64 (x).kind, .string (x).why], .agg #[.int .i64 (y).tick, .int .i64 (y).who, .int .i64 (y).rid, .int .i64 (y).kind, .string (y).why]] w fun e w' => e = .returned (.bool (acB x y)) ∧ Below w.heap.size w w' := by
  obtain ⟨x0, x1, x2, x3, x4⟩ := x
  obtain ⟨y0, y1, y2, y3, y4⟩ := y
  simp only
  go_enter Tryd.func66, Tryd.ntmps66
  go_wp2
  all_goals (go_ret; refine ⟨ret_bool ?_, by (repeat (first | with_reducible exact Below.refl _ _ | with_reducible exact below_regrown _ _ _ | with_reducible refine bel_step0 (by assumption) ?_ | with_reducible refine bel_alloc0 ?_ _ | with_reducible refine bel_regrown0 ?_ _ _ | with_reducible refine bel_regrown ?_ (by first | omega | (simp; done) | (simp; omega)) _ _ | with_reducible refine below_drewN ?_ _ | with_reducible refine Below.drew ?_ | with_reducible refine Below.alloc ?_ (by first | omega | (simp; done) | (simp; omega)) _ | with_reducible refine Below.setCell ?_ (by first | omega | (simp; done) | (simp; omega)) _ | with_reducible refine bel_step (by assumption) (by first | omega | (simp; done) | (simp; omega)) ?_ | with_reducible refine bel_grown (by assumption) (by first | omega | (simp; done) | (simp; omega)) (by first | omega | (simp; done) | (simp; omega)) ?_))⟩)
  all_goals (simp_all [acB])
set_option maxHeartbeats 8000000 in
theorem C_CrossedLooksI (v : Value) (n : Nat) (R : Nat → Lk) (z : Int) (w : World) (h : LKs w v n R) (hs : ∀ j, j < n → (R j).why.size ≤ 9223372036854775807) :
    Calls Tryd.prog 30 #[v, .int .i64 z] w fun e w' => ∃ v', e = .returned (.tuple #[v', .bool (clOk n R z)]) ∧ OSS w.heap.size w' v' (clL n R z).length (at_ (clL n R z)) ∧ Below w.heap.size w w' := by
  have HH := Lib.hid h
  have HS := Lib.hid hs
  obtain ⟨A, cap, rfl, hr, hc, hm⟩ := h
  have HR := Lib.hid hr
  clear hr hs
  cases hd : accB n R
  · have e0 : clOk n R z = false := by unfold clOk; rw [hd]; rfl
    have e1 : clL n R z = [] := by unfold clL; rw [e0]; rfl
    rw [e0, e1]; clear e0 e1
    go_enter Tryd.func30, Tryd.ntmps30
    go_wp2_with fail
    refine (C_IsAccount _ _ _ _ HH.out HS.out).mono ?_; rintro e w1 ⟨rfl, hb1⟩; rw [hd]
    go_wp2_with fail
    go_ret2
    exact ⟨_, rfl, OSS.nil _ _ _, hb1⟩
  by_cases hz0 : 0 ≤ z
  case neg =>
    have e0 : clOk n R z = false := by unfold clOk within; rw [decide_eq_false hz0]; simp
    have e1 : clL n R z = [] := by unfold clL; rw [e0]; rfl
    rw [e0, e1]; clear e0 e1
    go_enter Tryd.func30, Tryd.ntmps30
    go_wp2_with fail
    refine (C_IsAccount _ _ _ _ HH.out HS.out).mono ?_; rintro e w1 ⟨rfl, hb1⟩; rw [hd]
    go_wp2_with fail
    go_ret2
    exact ⟨_, rfl, OSS.nil _ _ _, hb1⟩
  by_cases hz1 : z ≤ 1000000
  case neg =>
    have e0 : clOk n R z = false := by unfold clOk within; rw [decide_eq_false hz1]; simp
    have e1 : clL n R z = [] := by unfold clL; rw [e0]; rfl
    rw [e0, e1]; clear e0 e1
    go_enter Tryd.func30, Tryd.ntmps30
    go_wp2_with fail
    refine (C_IsAccount _ _ _ _ HH.out HS.out).mono ?_; rintro e w1 ⟨rfl, hb1⟩; rw [hd]
    go_wp2_with fail
    go_ret2
    exact ⟨_, rfl, OSS.nil _ _ _, hb1⟩
  have hn15 := accB_le hd
  have e0 : clOk n R z = true := by unfold clOk; rw [hd, within_iff.2 ⟨hz0, hz1⟩]; rfl
  have e1 : clL n R z = outC R z n n := by unfold clL; rw [e0]; rfl
  rw [e0, e1]; clear e0 e1
  have HAB := Lib.hid (fun k (hk : k < n) => (accB_bd hd hk).1)
  go_enter Tryd.func30, Tryd.ntmps30
  go_wp2_with fail
  refine (C_IsAccount _ _ _ _ HH.out HS.out).mono ?_; rintro e w1 ⟨rfl, hb1⟩; rw [hd]
  have HB1 := Lib.hid hb1
  clear hb1 hd
  go_wp2_with fail
  go_loopw [6, 7, 8, 9, 23] (fun o _ _ _ i wr => ∃ k : Nat, k ≤ n ∧ i = .int .i64 k ∧ OSS w.heap.size wr o (outC R z n k).length (at_ (outC R z n k)) ∧ Below w.heap.size w wr) (fun _ _ _ _ i _ => n - (intOf i).toNat)
  case atStart => exact ⟨0, Nat.zero_le _, rfl, OSS.nil _ _ _, HB1.out⟩
  case round =>
    obtain ⟨k, hk, rfl, ho, hB⟩ := hrel
    have HO := Lib.hid ho; clear ho
    obtain ⟨wo, rfl⟩ : ∃ wo : World, wo = wr := ⟨_, rfl⟩
    have HBB := Lib.hid hB
    by_cases hlt : k < n
    · obtain ⟨b, off, rfl, hb, hcell⟩ := (HR.out.below hB) (by omega)
      obtain ⟨c0, c1, c2, c3, c4⟩ := hcell k hlt
      have hki : (k : Int) < (n : Int) := by omega
      have hbo := hB.size
      obtain ⟨wl, hwl⟩ : ∃ wl, wl = wo.alloc (.cells #[.int .i64 (R k).tick, .int .i64 (R k).who, .int .i64 (R k).rid, .int .i64 (R k).kind, .string (R k).why] 26) := ⟨_, rfl⟩
      have hbl : Below wo.heap.size wo wl := by rw [hwl]; exact (Below.refl _ _).alloc (Nat.le_refl _) _
      have hxl : LkAt wl wo.heap.size 0 (R k) := by rw [hwl]; exact lk_alloc _ _ _
      have hzl : wo.heap.size < wl.heap.size := by rw [hwl]; simp
      have HWL := Lib.hid hwl
      have HXL := Lib.hid hxl
      have HOL := Lib.hid (HO.out.below hbl)
      have HBL := Lib.hid (bel_step0 hbl HBB.out)
      clear hcell hB hwl hxl hbl
      go_wp2
      rw [← HWL.out]
      clear c0 c1 c2 c3 c4
      go_loopw [6, 9] (fun o i wr => ∃ m : Nat, k + 1 + m ≤ n ∧ i = .int .i64 ((k + 1 + m : Nat) : Int) ∧ OSS w.heap.size wr o (outC R z n k ++ inC R z k m).length (at_ (outC R z n k ++ inC R z k m)) ∧ Below w.heap.size w wr ∧ LkAt wr wo.heap.size 0 (R k) ∧ o.ownBlock ≠ some wo.heap.size ∧ wo.heap.size < wr.heap.size) (fun _ i _ => n - (intOf i).toNat)
      case atStart =>
        refine ⟨0, by omega, by go_num, by simpa [inC] using HOL.out, HBL.out, HXL.out, fun e => ?_, hzl⟩
        obtain ⟨S, h1, _⟩ := HO.out
        have := (h1.lt _ e).2
        omega
      case round =>
        clear HO HBB HOL HBL HXL HWL hzl
        obtain ⟨m, hm2, rfl, ho, hB, hx, hne, hgl⟩ := hrel
        have HO2 := Lib.hid ho
        have HB2 := Lib.hid hB
        have HX := Lib.hid hx
        have HNE := Lib.hid hne
        have hbs := hB.size
        by_cases hml : k + 1 + m < n
        · obtain ⟨b', off', e', hb2, hcell⟩ := (HR.out.below hB) (by omega)
          injection e' with e'; injection e' with e1 e2 _; subst e1 e2
          obtain ⟨d0, d1, d2, d3, d4⟩ := hcell (k + 1 + m) hml
          obtain ⟨x0, x1, x2, x3, x4⟩ := hx
          simp only [Nat.zero_add] at x1 x2 x3 x4
          obtain ⟨t1, t2⟩ := HAB.out k hlt
          obtain ⟨t3, t4⟩ := HAB.out (k + 1 + m) hml
          have hmi : (k : Int) + 1 + (m : Int) < (n : Int) := by omega
          have g0 := cell_regrown d0; have g1 := cell_regrown d1; have g2 := cell_regrown d2; have g3 := cell_regrown d3; have g4 := cell_regrown d4
          have y0 := cell_regrown x0; have y1 := cell_regrown x1; have y2 := cell_regrown x2; have y3 := cell_regrown x3; have y4 := cell_regrown x4
          obtain ⟨p, hp⟩ : ∃ p, acB (R k) (R (k + 1 + m)) = p := ⟨_, rfl⟩
          have HE : ∀ d os, Calls Tryd.prog 66 #[.agg #[.int .i64 (R k).tick, .int .i64 (R k).who, .int .i64 (R k).rid, .int .i64 (R k).kind, .string (R k).why], .agg #[.int .i64 (R (k + 1 + m)).tick, .int .i64 (R (k + 1 + m)).who, .int .i64 (R (k + 1 + m)).rid, .int .i64 (R (k + 1 + m)).kind, .string (R (k + 1 + m)).why]] (grow (redrawn wr d) os) fun e w'' => e = .returned (.bool p) ∧ ∃ p : Regrown, w'' = grow (redrawn wr p.d) p.os :=
            fun d os => Calls.regrown_of ((C_areCrossed _ _ _).mono fun e w' hh => ⟨hh.1.trans (by rw [hp]), hh.2⟩)
          have HP := Lib.hid hp
          clear hcell ho hB hne d0 d1 d2 d3 d4 x0 x1 x2 x3 x4 hp
          cases p
          · have HCR := Lib.hid (show crB (R k) (R (k + 1 + m)) z = false by simp [crB, HP.out])
            go_wp2
            (refine wp_region_quiet_below (by kernel_rfl) (by kernel_rfl) ?_; (repeat (go_big_quiet_step (exact HE _ _))); refine wpQuiet_nil ?_; intro _ hw'; obtain ⟨⟨dq, osq⟩, hw''⟩ := hw'; subst hw'')
            go_wp2
            go_roundw
            case rel => exact ⟨m + 1, by omega, by go_num, by rw [inC_no HCR.out]; exact HO2.out.below (below_regrown _ _ _), by have hB := HB2.out; (repeat (first | with_reducible exact Below.refl _ _ | with_reducible exact below_regrown _ _ _ | with_reducible refine bel_step0 (by assumption) ?_ | with_reducible refine bel_alloc0 ?_ _ | with_reducible refine bel_regrown0 ?_ _ _ | with_reducible refine bel_regrown ?_ (by first | omega | (simp; done) | (simp; omega)) _ _ | with_reducible refine below_drewN ?_ _ | with_reducible refine Below.drew ?_ | with_reducible refine Below.alloc ?_ (by first | omega | (simp; done) | (simp; omega)) _ | with_reducible refine Below.setCell ?_ (by first | omega | (simp; done) | (simp; omega)) _ | with_reducible refine bel_step (by assumption) (by first | omega | (simp; done) | (simp; omega)) ?_ | with_reducible refine bel_grown (by assumption) (by first | omega | (simp; done) | (simp; omega)) (by first | omega | (simp; done) | (simp; omega)) ?_)), HX.out.block ((below_regrown _ _ _).block _ hgl), HNE.out, Nat.lt_of_lt_of_le hgl (below_regrown _ _ _).size⟩
            case measure => simp [intOf]; omega
          · by_cases q5 : (R (k + 1 + m)).tick - (R k).tick ≤ z
            · have HCR := Lib.hid (show crB (R k) (R (k + 1 + m)) z = true by simp [crB, HP.out, q5])
              have hlen : (outC R z n k ++ inC R z k m).length ≤ 1048576 := by
                have h1 := inC_le R z k m
                have h2 := outC_le R z n k
                have h3 := Nat.mul_le_mul (show k ≤ 15 by omega) hn15
                rw [List.length_append]; omega
              go_wp2
              (refine wp_region_quiet_below (by kernel_rfl) (by kernel_rfl) ?_; (repeat (go_big_quiet_step (exact HE _ _))); refine wpQuiet_nil ?_; intro _ hw'; obtain ⟨⟨dq, osq⟩, hw''⟩ := hw'; subst hw'')
              clear g0 g1 g2 g3 g4 y0 y1 y2 y3 y4 HE
              obtain ⟨wx, hwx⟩ : ∃ wx, wx = grow (redrawn wr dq) osq := ⟨_, rfl⟩
              have hbx : Below wr.heap.size wr wx := by rw [hwx]; exact below_regrown _ _ _
              rw [← hwx]
              have HO3 := Lib.hid (HO2.out.below hbx)
              have HB3 := Lib.hid (bel_step0 hbx HB2.out)
              have HX3 := Lib.hid (HX.out.block (hbx.block _ hgl))
              have hgx := Nat.lt_of_lt_of_le hgl hbx.size
              have hbs2 := HB3.out.size
              clear hwx hbx
              go_wp2_with (at_builtin; refine wp_appRow wx rfl (.tmp 54) (.tmp 58) rfl w.heap.size _ _ _ _ _ rfl HO3.out rfl hlen hbs2 ?_; intro v4 w4 ho4 hb4 hk4 hv4; have HO4 := Lib.hid (ho4.congr (snoc_at _ _)); have HB4 := Lib.hid (((HB3.out.alloc (by simpa using hbs2) _).alloc (by simp; omega) _).trans hb4); have HK4 := Lib.hid (And.intro hk4 (And.intro hv4 hb4.size)); clear ho4 hb4 hk4 hv4)
              go_roundw
              case rel =>
                have hblk := HK4.out.1 wo.heap.size hgx HNE.out
                have hz4 := HK4.out.2.2
                simp only [World.size_alloc] at hz4
                refine ⟨m + 1, by omega, by go_num, ?_, HB4.out, HX3.out.block hblk, ?_, by omega⟩
                · have e : outC R z n k ++ inC R z k (m + 1) = (outC R z n k ++ inC R z k m) ++ [[(k : Int), ((k + 1 + m : Nat) : Int)]] := by rw [inC_yes HCR.out, List.append_assoc]
                  rw [e, List.length_append]; exact HO4.out
                · rcases HK4.out.2.1 with h | h
                  · rw [h]; exact HNE.out
                  · rw [h]; intro e; injection e with e; omega
              case measure => simp [intOf]; omega
            · have HCR := Lib.hid (show crB (R k) (R (k + 1 + m)) z = false by simp [crB, q5])
              go_wp2
              (refine wp_region_quiet_below (by kernel_rfl) (by kernel_rfl) ?_; (repeat (go_big_quiet_step (exact HE _ _))); refine wpQuiet_nil ?_; intro _ hw'; obtain ⟨⟨dq, osq⟩, hw''⟩ := hw'; subst hw'')
              go_wp2
              go_roundw
              case rel => exact ⟨m + 1, by omega, by go_num, by rw [inC_no HCR.out]; exact HO2.out.below (below_regrown _ _ _), by have hB := HB2.out; (repeat (first | with_reducible exact Below.refl _ _ | with_reducible exact below_regrown _ _ _ | with_reducible refine bel_step0 (by assumption) ?_ | with_reducible refine bel_alloc0 ?_ _ | with_reducible refine bel_regrown0 ?_ _ _ | with_reducible refine bel_regrown ?_ (by first | omega | (simp; done) | (simp; omega)) _ _ | with_reducible refine below_drewN ?_ _ | with_reducible refine Below.drew ?_ | with_reducible refine Below.alloc ?_ (by first | omega | (simp; done) | (simp; omega)) _ | with_reducible refine Below.setCell ?_ (by first | omega | (simp; done) | (simp; omega)) _ | with_reducible refine bel_step (by assumption) (by first | omega | (simp; done) | (simp; omega)) ?_ | with_reducible refine bel_grown (by assumption) (by first | omega | (simp; done) | (simp; omega)) (by first | omega | (simp; done) | (simp; omega)) ?_)), HX.out.block ((below_regrown _ _ _).block _ hgl), HNE.out, Nat.lt_of_lt_of_le hgl (below_regrown _ _ _).size⟩
              case measure => simp [intOf]; omega
        · obtain rfl : n = k + 1 + m := by omega
          clear hx
          go_wp2
          go_roundw
          case rel => exact ⟨k + 1, by omega, by go_num, by have e : outC R z (k + 1 + m) (k + 1) = outC R z (k + 1 + m) k ++ inC R z k m := (by show outC R z (k + 1 + m) k ++ inC R z k (k + 1 + m - (k + 1)) = _; rw [show k + 1 + m - (k + 1) = m by omega]); rw [e]; exact HO2.out, HB2.out⟩
          case measure => simp [intOf]; omega
    · obtain rfl : k = n := by omega
      go_wp2
      go_ret2
      exact ⟨_, rfl, HO.out, HBB.out⟩
end Go.Proofs.YtmhelhjjadoiaaaDoor
