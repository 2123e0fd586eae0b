/- LateReviews: the reference. No condition but those stated. -/
import Derived.Test.YtcdffikambbleaaRvEE
namespace Go.Proofs.Ytcdffikambbleaa
set_option linter.unusedVariables false
set_option linter.unusedSimpArgs false
open Go.RowKit Go.Sort
theorem RE.of_nil {w : World} {A : Option Addr} {l : List El} (h : l = []) : RE w A l := by subst h; exact RE.nil w A
theorem OE.mono {base base' : Nat} {w : World} {v : Value} {l : List El} (hb : base' ≤ base) (h : OE base w v l) : OE base' w v l := own3.mono hb h
set_option maxRecDepth 100000 in
set_option maxHeartbeats 8000000 in
theorem C_LateReviewsS (v : Value) (n : Nat) (R : Nat → Rv) (day : Int) (w : World) (h : RRs w v n R) :
    Calls Try.prog 58 #[v, .int .i64 day] w fun e w' => ∃ v', e = .returned (.tuple #[v', .bool (lateOk n R day)]) ∧ OI w.heap.size w' v' (late n R day) ∧ Below w.heap.size w w' := by
  have hv := h
  obtain ⟨A, cap, rfl, hr, hc, hm⟩ := h
  have HV := Lib.hid hv; clear hv
  have HR := Lib.hid hr; clear hr
  cases hok : okRs n R
  · have hl : lateOk n R day = false := by unfold lateOk; rw [hok]; rfl
    have hl2 : late n R day = [] := by unfold late; rw [hl]; rfl
    rw [hl, hl2]
    go_enter Try.func58, Try.ntmps58
    go_wp2_with (go_at_call 77; refine (C_l23Good _ _ _ _ (HV.out.below (by (repeat (first | with_reducible exact Below.refl _ _ | with_reducible exact below_regrown _ _ _ | with_reducible refine bel_step0 (by assumption) ?_ | with_reducible refine bel_alloc0 ?_ _ | with_reducible refine bel_regrown0 ?_ _ _ | with_reducible refine bel_regrown ?_ (by first | omega | (simp; done) | (simp; omega)) _ _ | with_reducible refine below_drewN ?_ _ | with_reducible refine Below.drew ?_ | with_reducible refine Below.alloc ?_ (by first | omega | (simp; done) | (simp; omega)) _ | with_reducible refine Below.setCell ?_ (by first | omega | (simp; done) | (simp; omega)) _ | with_reducible refine bel_step (by assumption) (by first | omega | (simp; done) | (simp; omega)) ?_ | with_reducible refine bel_grown (by assumption) (by first | omega | (simp; done) | (simp; omega)) (by first | omega | (simp; done) | (simp; omega)) ?_))))).mono ?_; rintro e w1 ⟨rfl, hb1⟩; simp only [hok])
    go_ret2
    exact ⟨_, rfl, (OI.empty (Nat.le_refl _)).below hb1, by (repeat (first | with_reducible exact Below.refl _ _ | with_reducible exact below_regrown _ _ _ | with_reducible refine bel_step0 (by assumption) ?_ | with_reducible refine bel_alloc0 ?_ _ | with_reducible refine bel_regrown0 ?_ _ _ | with_reducible refine bel_regrown ?_ (by first | omega | (simp; done) | (simp; omega)) _ _ | with_reducible refine below_drewN ?_ _ | with_reducible refine Below.drew ?_ | with_reducible refine Below.alloc ?_ (by first | omega | (simp; done) | (simp; omega)) _ | with_reducible refine Below.setCell ?_ (by first | omega | (simp; done) | (simp; omega)) _ | with_reducible refine bel_step (by assumption) (by first | omega | (simp; done) | (simp; omega)) ?_ | with_reducible refine bel_grown (by assumption) (by first | omega | (simp; done) | (simp; omega)) (by first | omega | (simp; done) | (simp; omega)) ?_))⟩
  cases hd : within day 0 20000
  · have hl : lateOk n R day = false := by unfold lateOk; rw [hok, hd]; rfl
    have hl2 : late n R day = [] := by unfold late; rw [hl]; rfl
    rw [hl, hl2]
    go_enter Try.func58, Try.ntmps58
    go_wp2_with (first | (go_at_call 77; refine (C_l23Good _ _ _ _ (HV.out.below (by (repeat (first | with_reducible exact Below.refl _ _ | with_reducible exact below_regrown _ _ _ | with_reducible refine bel_step0 (by assumption) ?_ | with_reducible refine bel_alloc0 ?_ _ | with_reducible refine bel_regrown0 ?_ _ _ | with_reducible refine bel_regrown ?_ (by first | omega | (simp; done) | (simp; omega)) _ _ | with_reducible refine below_drewN ?_ _ | with_reducible refine Below.drew ?_ | with_reducible refine Below.alloc ?_ (by first | omega | (simp; done) | (simp; omega)) _ | with_reducible refine Below.setCell ?_ (by first | omega | (simp; done) | (simp; omega)) _ | with_reducible refine bel_step (by assumption) (by first | omega | (simp; done) | (simp; omega)) ?_ | with_reducible refine bel_grown (by assumption) (by first | omega | (simp; done) | (simp; omega)) (by first | omega | (simp; done) | (simp; omega)) ?_))))).mono ?_; rintro e w1 ⟨rfl, hb1⟩; simp only [hok]) | (go_at_call 100; refine (C_l2Day _ _).mono ?_; rintro e w2 ⟨rfl, rfl⟩; simp only [hd]))
    go_ret2
    exact ⟨_, rfl, (OI.empty (Nat.le_refl _)).below hb1, by (repeat (first | with_reducible exact Below.refl _ _ | with_reducible exact below_regrown _ _ _ | with_reducible refine bel_step0 (by assumption) ?_ | with_reducible refine bel_alloc0 ?_ _ | with_reducible refine bel_regrown0 ?_ _ _ | with_reducible refine bel_regrown ?_ (by first | omega | (simp; done) | (simp; omega)) _ _ | with_reducible refine below_drewN ?_ _ | with_reducible refine Below.drew ?_ | with_reducible refine Below.alloc ?_ (by first | omega | (simp; done) | (simp; omega)) _ | with_reducible refine Below.setCell ?_ (by first | omega | (simp; done) | (simp; omega)) _ | with_reducible refine bel_step (by assumption) (by first | omega | (simp; done) | (simp; omega)) ?_ | with_reducible refine bel_grown (by assumption) (by first | omega | (simp; done) | (simp; omega)) (by first | omega | (simp; done) | (simp; omega)) ?_))⟩
  have hl : lateOk n R day = true := by unfold lateOk; rw [hok, hd]; rfl
  have hl2 : late n R day = (srtE ltP (lateP R day n)).map (·.1) := by unfold late; rw [hl]; rfl
  rw [hl, hl2]
  have hn10 := okRs_le hok
  clear hl hl2
  go_enter Try.func58, Try.ntmps58
  go_wp2_with (first | (go_at_call 77; refine (C_l23Good _ _ _ _ (HV.out.below (by (repeat (first | with_reducible exact Below.refl _ _ | with_reducible exact below_regrown _ _ _ | with_reducible refine bel_step0 (by assumption) ?_ | with_reducible refine bel_alloc0 ?_ _ | with_reducible refine bel_regrown0 ?_ _ _ | with_reducible refine bel_regrown ?_ (by first | omega | (simp; done) | (simp; omega)) _ _ | with_reducible refine below_drewN ?_ _ | with_reducible refine Below.drew ?_ | with_reducible refine Below.alloc ?_ (by first | omega | (simp; done) | (simp; omega)) _ | with_reducible refine Below.setCell ?_ (by first | omega | (simp; done) | (simp; omega)) _ | with_reducible refine bel_step (by assumption) (by first | omega | (simp; done) | (simp; omega)) ?_ | with_reducible refine bel_grown (by assumption) (by first | omega | (simp; done) | (simp; omega)) (by first | omega | (simp; done) | (simp; omega)) ?_))))).mono ?_; rintro e w1 ⟨rfl, hb1⟩; simp only [hok]) | (go_at_call 100; refine (C_l2Day _ _).mono ?_; rintro e w2 ⟨rfl, rfl⟩; simp only [hd]))
  have hO6 : OI w.heap.size w1 (.slice (some ⟨w.heap.size, 0, none⟩) 0 0) [] := (OI.empty (Nat.le_refl _)).below hb1
  have B1 : Below w.heap.size w w1 := by (repeat (first | with_reducible exact Below.refl _ _ | with_reducible exact below_regrown _ _ _ | with_reducible refine bel_step0 (by assumption) ?_ | with_reducible refine bel_alloc0 ?_ _ | with_reducible refine bel_regrown0 ?_ _ _ | with_reducible refine bel_regrown ?_ (by first | omega | (simp; done) | (simp; omega)) _ _ | with_reducible refine below_drewN ?_ _ | with_reducible refine Below.drew ?_ | with_reducible refine Below.alloc ?_ (by first | omega | (simp; done) | (simp; omega)) _ | with_reducible refine Below.setCell ?_ (by first | omega | (simp; done) | (simp; omega)) _ | with_reducible refine bel_step (by assumption) (by first | omega | (simp; done) | (simp; omega)) ?_ | with_reducible refine bel_grown (by assumption) (by first | omega | (simp; done) | (simp; omega)) (by first | omega | (simp; done) | (simp; omega)) ?_))
  obtain ⟨w2, hw2⟩ : ∃ w2, w2 = w1.alloc (.cells #[] 27) := ⟨_, rfl⟩
  obtain ⟨g2, hg2⟩ : ∃ g2, g2 = w1.heap.size := ⟨_, rfl⟩
  have hz1 := B1.size
  have O2 : OE w.heap.size w2 (.slice (some ⟨g2, 0, none⟩) 0 0) [] := by rw [hw2, hg2]; exact OE.emptyAt rfl hz1
  have X2 := Lib.hid (And.intro (show OI w.heap.size w2 (.slice (some ⟨w.heap.size, 0, none⟩) 0 0) [] by rw [hw2]; exact hO6.alloc _) (And.intro O2 (show Below w.heap.size w w2 by rw [hw2]; exact bel_alloc0 B1 _)))
  rw [← hw2, ← hg2]
  clear hb1 hok hd hO6 B1 hw2 hg2 O2 hz1
  go_loopw [7, 8] (fun o i wr => ∃ (k : Nat) (s : List El), k ≤ n ∧ i = .int .i64 k ∧ OE w.heap.size wr o s ∧ s.map El.pr = srtE ltP (lateP R day k) ∧ OI w.heap.size wr (.slice (some ⟨w.heap.size, 0, none⟩) 0 0) [] ∧ Below w.heap.size w wr) (fun _ i _ => n - (intOf i).toNat)
  case atStart => exact ⟨0, [], Nat.zero_le _, rfl, X2.out.2.1, rfl, X2.out.1, X2.out.2.2⟩
  case round =>
    clear X2
    obtain ⟨k, s, hk, rfl, ho, hsp, ho6, hB⟩ := hrel
    have hsl : s.length ≤ k := by
      have h1 : (s.map El.pr).length = (lateP R day k).length := by rw [hsp, srtE_len]
      rw [List.length_map] at h1
      have := lateP_le R day k
      omega
    obtain ⟨L, hL⟩ : ∃ L, s.length = L := ⟨_, rfl⟩
    by_cases hlt : k < n
    · obtain ⟨b, off, rfl, hb, hcell⟩ := HR.out (by omega)
      obtain ⟨sv, hsv, hck0, hck1, hck2⟩ := hcell k hlt; have hsv0 := hsv; obtain ⟨A1, c1, rfl, hsr1, hsc1, hsm1⟩ := hsv0; clear hsr1
      have G := Lib.hid (fun W (hW : Below w.heap.size w W) => And.intro ((hW.cell (p := ⟨b, off + k * 3, none⟩) hb).trans hck0) (And.intro ((hW.cell (p := ⟨b, off + k * 3 + 1, none⟩) hb).trans hck1) ((hW.cell (p := ⟨b, off + k * 3 + 2, none⟩) hb).trans hck2)))
      obtain ⟨hck0, hck1, hck2⟩ := G.out _ hB
      have hk0 : (0 : Int) ≤ (k : Int) := by omega
      have hk1 : (k : Int) < (n : Int) := by omega
      have HB := Lib.hid hB
      have HO := Lib.hid ho
      have HO6 := Lib.hid ho6
      have hzs := hB.size
      have hstep : lateP R day (k + 1) = lateP R day k ++ (if lateB (R k) day then [((R k).rid, (R k).due)] else []) := rfl
      obtain ⟨SA, sc, rfl, hsc2, hsm2, _⟩ := own3.form ho
      rw [hL] at hsl hsc2 HO ⊢
      clear hcell hsv ho ho6
      cases hlb : lateB (R k) day
      · have HST := Lib.hid (show lateP R day (k + 1) = lateP R day k by rw [hstep, hlb]; simp)
        clear hstep
        have hor : ¬ (R k).due < day ∨ ((R k).due < day ∧ ¬ ((R k).n : Int) < 3) := by
          simp only [lateB, Bool.and_eq_false_iff, decide_eq_false_iff_not] at hlb
          omega
        clear hlb
        rcases hor with hor | ⟨hor1, hor2⟩
        all_goals
          go_wp2
          go_roundw
          case rel => exact ⟨k + 1, s, by omega, by go_num, HO.out, by rw [HST.out]; exact hsp, HO6.out, HB.out⟩
          case measure => simp [intOf]; omega
      · have hst : lateP R day (k + 1) = lateP R day k ++ [((R k).rid, (R k).due)] := by rw [hstep, hlb]; simp
        obtain ⟨x, hx⟩ : ∃ x : El, x = ⟨(R k).rid, (R k).due, A1, (R k).n, c1⟩ := ⟨_, rfl⟩
        have hnew : (insAt s (posE ltE s x L) x).map El.pr = srtE ltP (lateP R day (k + 1)) := by
          rw [hst, srtE_snoc, ← hsp]
          unfold insE insAt
          rw [List.map_append, List.map_cons, List.map_take, List.map_drop, posE_map El.pr ltE ltP (fun x y => rfl) s x L (by omega), List.length_map, hL, hx]
          rfl
        have HNEW := Lib.hid hnew
        simp only [lateB, Bool.and_eq_true, decide_eq_true_eq] at hlb
        obtain ⟨hd1, hd2⟩ := hlb
        have hxd : (R k).due = x.due := by rw [hx]
        have hxr : (R k).rid = x.rid := by rw [hx]
        have hxn : (R k).n = x.n := by rw [hx]
        have hxA : A1 = x.A := by rw [hx]
        have hxc : c1 = x.c := by rw [hx]
        rw [hxd] at hck1 hd1 G
        rw [hxr] at hck0 G
        rw [hxn, hxA, hxc] at hck2 G
        rw [hxn] at hd2
        have HSL := Lib.hid hL
        clear hst hstep hnew hsp hx hxd hxr hxn hxA hxc hsc1 hL
        go_wp2
        go_loopw [9] (fun i wi => ∃ j : Nat, i = .int .i64 j ∧ j ≤ L ∧ posE ltE s x L = posE ltE s x j ∧ OE w.heap.size wi (.slice SA L sc) s ∧ OI w.heap.size wi (.slice (some ⟨w.heap.size, 0, none⟩) 0 0) [] ∧ Below w.heap.size w wi) (fun i _ => (intOf i).toNat)
        case atStart => exact ⟨L, rfl, Nat.le_refl _, rfl, HO.out, HO6.out, HB.out⟩
        case round =>
          clear HO HO6 HB hck0 hck1 hck2 hB hzs
          obtain ⟨j, rfl, hjL, hpos, ho, ho6, hB⟩ := hrel
          obtain ⟨t0, t1, t2⟩ := G.out _ hB
          have gt0 := cell_regrown t0; have gt1 := cell_regrown t1; have gt2 := cell_regrown t2
          have HO := Lib.hid ho
          have HO6 := Lib.hid ho6
          have HB := Lib.hid hB
          clear t0 t1 t2 hB ho6
          by_cases hj : 0 < j
          · have hj2 : (0 : Int) < (j : Int) := by omega
            obtain ⟨q, hq⟩ : ∃ q : Nat, (j : Int) - 1 = (q : Int) := ⟨j - 1, by omega⟩
            have hqj : j = q + 1 := by omega
            obtain ⟨A', c', e', _, _, hA'⟩ := own3.form ho
            injection e' with e1 e2 e3
            obtain ⟨g, rfl, _, hgl⟩ := hA' (by rw [HSL.out]; omega)
            subst e1
            obtain ⟨c0, c1, c2⟩ := OE.cells ho (j := q) (by rw [HSL.out]; omega)
            obtain ⟨y, hy⟩ : ∃ y, atE s q = y := ⟨_, rfl⟩
            rw [hy] at c0 c1 c2
            have g0 := cell_regrown c0; have g1 := cell_regrown c1; have g2 := cell_regrown c2
            have hq0 : (0 : Int) ≤ (q : Int) := by omega
            have hq1 : (q : Int) < (L : Int) := by omega
            have hlE : ltE x y = decide (x.due < y.due) := rfl
            by_cases hlt2 : x.due < y.due
            · have HP := Lib.hid (show posE ltE s x L = posE ltE s x q by rw [hpos, hqj]; exact posE_yes (by rw [hy, hlE]; simpa using hlt2))
              clear e2 e3 hA' hqj hpos hy hlE c0 c1 c2
              go_wp2
              (refine wp_region_quiet_below (by kernel_rfl) (by kernel_rfl) ?_; (repeat (go_big_quiet_step (fail))); refine wpQuiet_nil ?_; intro _ hw'; obtain ⟨⟨dq, osq⟩, hw''⟩ := hw'; subst hw'')
              go_wp2
              go_roundw
              case rel => exact ⟨q, rfl, by omega, HP.out, HO.out.below (below_regrown _ _ _), HO6.out.below (below_regrown _ _ _), bel_regrown0 HB.out _ _⟩
              case measure => simp [intOf]; omega
            have HP := Lib.hid (show posE ltE s x L = j by rw [hpos, hqj]; exact posE_no (by rw [hy, hlE]; simpa using hlt2))
            clear e2 e3 hA' hqj hpos hy hlE c0 c1 c2
            go_wp2
            (refine wp_region_quiet_below (by kernel_rfl) (by kernel_rfl) ?_; (repeat (go_big_quiet_step (fail))); refine wpQuiet_nil ?_; intro _ hw'; obtain ⟨⟨dq, osq⟩, hw''⟩ := hw'; subst hw'')
            clear g0 g1 g2 gt0 gt1 gt2 hq hq0 hq1 hj2
            obtain ⟨w5, hw5⟩ : ∃ w5, w5 = grow (redrawn wr dq) osq := ⟨_, rfl⟩
            have O5 := Lib.hid (show OE w.heap.size w5 (.slice (some (⟨g, 0, none⟩ : Addr)) L sc) s by rw [hw5]; exact HO.out.below (below_regrown _ _ _))
            have I5 := Lib.hid (show OI w.heap.size w5 (.slice (some ⟨w.heap.size, 0, none⟩) 0 0) [] by rw [hw5]; exact HO6.out.below (below_regrown _ _ _))
            have B5 := Lib.hid (show Below w.heap.size w w5 by rw [hw5]; exact bel_regrown0 HB.out _ _)
            rw [← hw5]
            have hwz := B5.out.size
            have r0 : ∀ W, Below w5.heap.size w5 W → W.cell? ⟨b, off + k * 3, none⟩ = some (.int .i64 x.rid) := fun W hW => (G.out W (bel_step0 hW B5.out)).1
            have r1 : ∀ W, Below w5.heap.size w5 W → W.cell? ⟨b, off + k * 3 + 1, none⟩ = some (.int .i64 x.due) := fun W hW => (G.out W (bel_step0 hW B5.out)).2.1
            have r2 : ∀ W, Below w5.heap.size w5 W → W.cell? ⟨b, off + k * 3 + 2, none⟩ = some (.slice x.A x.n x.c) := fun W hW => (G.out W (bel_step0 hW B5.out)).2.2
            have HTK := Lib.hid (O5.out.re.take j)
            have HTKL := Lib.hid (show (s.take j).length = j by rw [List.length_take, HSL.out]; omega)
            have HFIN := Lib.hid (show ([] ++ s.take j ++ [x] ++ s.drop j).map El.pr = srtE ltP (lateP R day (k + 1)) by have h := HNEW.out; rw [HP.out] at h; unfold insAt at h; simpa using h)
            have hj0 : (0 : Int) ≤ (j : Int) := by omega
            have hj3 : (j : Int) ≤ (sc : Int) := by omega
            have hj4 : (L : Int) ≤ (sc : Int) := by omega
            clear HO HO6 HB hw5
            by_cases hjl : j < L
            · have hk4 : ¬ sc = j := by omega
              have hj1 : (j : Int) ≤ (L : Int) := by omega
              obtain ⟨A', c', e', _, _, hA'⟩ := own3.form O5.out
              injection e' with e1 e2 e3
              obtain ⟨gq, hgq, _, _⟩ := hA' (by rw [HSL.out]; omega)
              have hSA : (some (⟨g, 0, none⟩ : Addr)) = some ⟨gq, 0, none⟩ := e1.trans hgq
              clear hSA
              have HDRL := Lib.hid (show (s.drop j).length = L - j by rw [List.length_drop, HSL.out])
              have htl := RE.drop O5.out.re j
              rw [Nat.zero_add] at htl
              have HTL := Lib.hid htl
              clear htl e1 e2 e3 hgq hA'
              go_wp2
              go_region_held3 (fun W => Below w5.heap.size w5 W) (((repeat (first | with_reducible exact Below.refl _ _ | with_reducible exact below_regrown _ _ _ | with_reducible refine bel_step0 (by assumption) ?_ | with_reducible refine bel_alloc0 ?_ _ | with_reducible refine bel_regrown0 ?_ _ _ | with_reducible refine bel_regrown ?_ (by first | omega | (simp; done) | (simp; omega)) _ _ | with_reducible refine below_drewN ?_ _ | with_reducible refine Below.drew ?_ | with_reducible refine Below.alloc ?_ (by first | omega | (simp; done) | (simp; omega)) _ | with_reducible refine Below.setCell ?_ (by first | omega | (simp; done) | (simp; omega)) _ | with_reducible refine bel_step (by assumption) (by first | omega | (simp; done) | (simp; omega)) ?_ | with_reducible refine bel_grown (by assumption) (by first | omega | (simp; done) | (simp; omega)) (by first | omega | (simp; done) | (simp; omega)) ?_)))) (first | ((refine step_appE _ (by rfl) (.tmp 64) (.tmp 67) (by rfl) w5 _ [] _ (by rfl) (by first | exact OE.emptyAt (by simp) (by simp) | exact OE.alloc (OE.emptyAt (by simp) (by simp)) _) (by (repeat (first | with_reducible exact Below.refl _ _ | with_reducible exact below_regrown _ _ _ | with_reducible refine bel_step0 (by assumption) ?_ | with_reducible refine bel_alloc0 ?_ _ | with_reducible refine bel_regrown0 ?_ _ _ | with_reducible refine bel_regrown ?_ (by first | omega | (simp; done) | (simp; omega)) _ _ | with_reducible refine below_drewN ?_ _ | with_reducible refine Below.drew ?_ | with_reducible refine Below.alloc ?_ (by first | omega | (simp; done) | (simp; omega)) _ | with_reducible refine Below.setCell ?_ (by first | omega | (simp; done) | (simp; omega)) _ | with_reducible refine bel_step (by assumption) (by first | omega | (simp; done) | (simp; omega)) ?_ | with_reducible refine bel_grown (by assumption) (by first | omega | (simp; done) | (simp; omega)) (by first | omega | (simp; done) | (simp; omega)) ?_))) _ _ _ HTKL.out (by rfl) (HTK.out.below (by (repeat (first | with_reducible exact Below.refl _ _ | with_reducible exact below_regrown _ _ _ | with_reducible refine bel_step0 (by assumption) ?_ | with_reducible refine bel_alloc0 ?_ _ | with_reducible refine bel_regrown0 ?_ _ _ | with_reducible refine bel_regrown ?_ (by first | omega | (simp; done) | (simp; omega)) _ _ | with_reducible refine below_drewN ?_ _ | with_reducible refine Below.drew ?_ | with_reducible refine Below.alloc ?_ (by first | omega | (simp; done) | (simp; omega)) _ | with_reducible refine Below.setCell ?_ (by first | omega | (simp; done) | (simp; omega)) _ | with_reducible refine bel_step (by assumption) (by first | omega | (simp; done) | (simp; omega)) ?_ | with_reducible refine bel_grown (by assumption) (by first | omega | (simp; done) | (simp; omega)) (by first | omega | (simp; done) | (simp; omega)) ?_)))) (by simp; omega) ?_; intro v2 w2 ho2 hb2 hq2 hs2; have HQ2 := Lib.hid hq2; clear hq2)) | ((refine step_appE _ (by rfl) (.tmp 68) (.tmp 73) (by rfl) w5 _ _ [x] (by rfl) (by first | exact ho2 | exact OE.alloc ho2 _) (by (repeat (first | with_reducible exact Below.refl _ _ | with_reducible exact below_regrown _ _ _ | with_reducible refine bel_step0 (by assumption) ?_ | with_reducible refine bel_alloc0 ?_ _ | with_reducible refine bel_regrown0 ?_ _ _ | with_reducible refine bel_regrown ?_ (by first | omega | (simp; done) | (simp; omega)) _ _ | with_reducible refine below_drewN ?_ _ | with_reducible refine Below.drew ?_ | with_reducible refine Below.alloc ?_ (by first | omega | (simp; done) | (simp; omega)) _ | with_reducible refine Below.setCell ?_ (by first | omega | (simp; done) | (simp; omega)) _ | with_reducible refine bel_step (by assumption) (by first | omega | (simp; done) | (simp; omega)) ?_ | with_reducible refine bel_grown (by assumption) (by first | omega | (simp; done) | (simp; omega)) (by first | omega | (simp; done) | (simp; omega)) ?_))) _ 1 1 (by rfl) (by rfl) (by first | exact re_lit _ _ _ | exact re_kept1 HQ2.out | exact re_kept0 HQ2.out) (by rw [List.nil_append, HTKL.out]; omega) ?_; intro v3 w3 ho3 hb3 hq3 hs3; clear hq3 hs3)) | ((refine step_appE _ (by rfl) (.tmp 74) (.tmp 77) (by rfl) w5 _ _ _ (by rfl) ho3 (by (repeat (first | with_reducible exact Below.refl _ _ | with_reducible exact below_regrown _ _ _ | with_reducible refine bel_step0 (by assumption) ?_ | with_reducible refine bel_alloc0 ?_ _ | with_reducible refine bel_regrown0 ?_ _ _ | with_reducible refine bel_regrown ?_ (by first | omega | (simp; done) | (simp; omega)) _ _ | with_reducible refine below_drewN ?_ _ | with_reducible refine Below.drew ?_ | with_reducible refine Below.alloc ?_ (by first | omega | (simp; done) | (simp; omega)) _ | with_reducible refine Below.setCell ?_ (by first | omega | (simp; done) | (simp; omega)) _ | with_reducible refine bel_step (by assumption) (by first | omega | (simp; done) | (simp; omega)) ?_ | with_reducible refine bel_grown (by assumption) (by first | omega | (simp; done) | (simp; omega)) (by first | omega | (simp; done) | (simp; omega)) ?_))) _ _ _ HDRL.out (by rfl) ((HTL.out.below (by (repeat (first | with_reducible exact Below.refl _ _ | with_reducible exact below_regrown _ _ _ | with_reducible refine bel_step0 (by assumption) ?_ | with_reducible refine bel_alloc0 ?_ _ | with_reducible refine bel_regrown0 ?_ _ _ | with_reducible refine bel_regrown ?_ (by first | omega | (simp; done) | (simp; omega)) _ _ | with_reducible refine below_drewN ?_ _ | with_reducible refine Below.drew ?_ | with_reducible refine Below.alloc ?_ (by first | omega | (simp; done) | (simp; omega)) _ | with_reducible refine Below.setCell ?_ (by first | omega | (simp; done) | (simp; omega)) _ | with_reducible refine bel_step (by assumption) (by first | omega | (simp; done) | (simp; omega)) ?_ | with_reducible refine bel_grown (by assumption) (by first | omega | (simp; done) | (simp; omega)) (by first | omega | (simp; done) | (simp; omega)) ?_))))) (by rw [List.length_append, List.nil_append, HTKL.out]; simp; omega) ?_; intro v4 w4 ho4 hb4 hq4 hs4; clear hq4 hs4)))
              all_goals
                go_wp2
                go_roundw
                case rel => exact ⟨k + 1, _, by omega, by go_num, OE.mono hwz ho4, HFIN.out, I5.out.below hb4, bel_step0 hb4 B5.out⟩
                case measure => simp [intOf]; omega
            · obtain rfl : L = j := by omega
              have HDR0 := Lib.hid (show s.drop L = [] from List.drop_eq_nil_of_le (by rw [HSL.out]; exact Nat.le_refl _))
              have HDRL := Lib.hid (show (s.drop L).length = 0 by rw [HDR0.out]; rfl)
              by_cases hcn : sc = L
              · obtain rfl : L = sc := hcn.symm
                clear hcn
                go_wp2
                go_region_held3 (fun W => Below w5.heap.size w5 W) (((repeat (first | with_reducible exact Below.refl _ _ | with_reducible exact below_regrown _ _ _ | with_reducible refine bel_step0 (by assumption) ?_ | with_reducible refine bel_alloc0 ?_ _ | with_reducible refine bel_regrown0 ?_ _ _ | with_reducible refine bel_regrown ?_ (by first | omega | (simp; done) | (simp; omega)) _ _ | with_reducible refine below_drewN ?_ _ | with_reducible refine Below.drew ?_ | with_reducible refine Below.alloc ?_ (by first | omega | (simp; done) | (simp; omega)) _ | with_reducible refine Below.setCell ?_ (by first | omega | (simp; done) | (simp; omega)) _ | with_reducible refine bel_step (by assumption) (by first | omega | (simp; done) | (simp; omega)) ?_ | with_reducible refine bel_grown (by assumption) (by first | omega | (simp; done) | (simp; omega)) (by first | omega | (simp; done) | (simp; omega)) ?_)))) (first | ((refine step_appE _ (by rfl) (.tmp 64) (.tmp 67) (by rfl) w5 _ [] _ (by rfl) (by first | exact OE.emptyAt (by simp) (by simp) | exact OE.alloc (OE.emptyAt (by simp) (by simp)) _) (by (repeat (first | with_reducible exact Below.refl _ _ | with_reducible exact below_regrown _ _ _ | with_reducible refine bel_step0 (by assumption) ?_ | with_reducible refine bel_alloc0 ?_ _ | with_reducible refine bel_regrown0 ?_ _ _ | with_reducible refine bel_regrown ?_ (by first | omega | (simp; done) | (simp; omega)) _ _ | with_reducible refine below_drewN ?_ _ | with_reducible refine Below.drew ?_ | with_reducible refine Below.alloc ?_ (by first | omega | (simp; done) | (simp; omega)) _ | with_reducible refine Below.setCell ?_ (by first | omega | (simp; done) | (simp; omega)) _ | with_reducible refine bel_step (by assumption) (by first | omega | (simp; done) | (simp; omega)) ?_ | with_reducible refine bel_grown (by assumption) (by first | omega | (simp; done) | (simp; omega)) (by first | omega | (simp; done) | (simp; omega)) ?_))) _ _ _ HTKL.out (by rfl) (HTK.out.below (by (repeat (first | with_reducible exact Below.refl _ _ | with_reducible exact below_regrown _ _ _ | with_reducible refine bel_step0 (by assumption) ?_ | with_reducible refine bel_alloc0 ?_ _ | with_reducible refine bel_regrown0 ?_ _ _ | with_reducible refine bel_regrown ?_ (by first | omega | (simp; done) | (simp; omega)) _ _ | with_reducible refine below_drewN ?_ _ | with_reducible refine Below.drew ?_ | with_reducible refine Below.alloc ?_ (by first | omega | (simp; done) | (simp; omega)) _ | with_reducible refine Below.setCell ?_ (by first | omega | (simp; done) | (simp; omega)) _ | with_reducible refine bel_step (by assumption) (by first | omega | (simp; done) | (simp; omega)) ?_ | with_reducible refine bel_grown (by assumption) (by first | omega | (simp; done) | (simp; omega)) (by first | omega | (simp; done) | (simp; omega)) ?_)))) (by simp; omega) ?_; intro v2 w2 ho2 hb2 hq2 hs2; have HQ2 := Lib.hid hq2; clear hq2)) | ((refine step_appE _ (by rfl) (.tmp 68) (.tmp 73) (by rfl) w5 _ _ [x] (by rfl) (by first | exact ho2 | exact OE.alloc ho2 _) (by (repeat (first | with_reducible exact Below.refl _ _ | with_reducible exact below_regrown _ _ _ | with_reducible refine bel_step0 (by assumption) ?_ | with_reducible refine bel_alloc0 ?_ _ | with_reducible refine bel_regrown0 ?_ _ _ | with_reducible refine bel_regrown ?_ (by first | omega | (simp; done) | (simp; omega)) _ _ | with_reducible refine below_drewN ?_ _ | with_reducible refine Below.drew ?_ | with_reducible refine Below.alloc ?_ (by first | omega | (simp; done) | (simp; omega)) _ | with_reducible refine Below.setCell ?_ (by first | omega | (simp; done) | (simp; omega)) _ | with_reducible refine bel_step (by assumption) (by first | omega | (simp; done) | (simp; omega)) ?_ | with_reducible refine bel_grown (by assumption) (by first | omega | (simp; done) | (simp; omega)) (by first | omega | (simp; done) | (simp; omega)) ?_))) _ 1 1 (by rfl) (by rfl) (by first | exact re_lit _ _ _ | exact re_kept1 HQ2.out | exact re_kept0 HQ2.out) (by rw [List.nil_append, HTKL.out]; omega) ?_; intro v3 w3 ho3 hb3 hq3 hs3; clear hq3 hs3)) | ((refine step_appE _ (by rfl) (.tmp 74) (.tmp 77) (by rfl) w5 _ _ _ (by rfl) ho3 (by (repeat (first | with_reducible exact Below.refl _ _ | with_reducible exact below_regrown _ _ _ | with_reducible refine bel_step0 (by assumption) ?_ | with_reducible refine bel_alloc0 ?_ _ | with_reducible refine bel_regrown0 ?_ _ _ | with_reducible refine bel_regrown ?_ (by first | omega | (simp; done) | (simp; omega)) _ _ | with_reducible refine below_drewN ?_ _ | with_reducible refine Below.drew ?_ | with_reducible refine Below.alloc ?_ (by first | omega | (simp; done) | (simp; omega)) _ | with_reducible refine Below.setCell ?_ (by first | omega | (simp; done) | (simp; omega)) _ | with_reducible refine bel_step (by assumption) (by first | omega | (simp; done) | (simp; omega)) ?_ | with_reducible refine bel_grown (by assumption) (by first | omega | (simp; done) | (simp; omega)) (by first | omega | (simp; done) | (simp; omega)) ?_))) _ _ _ HDRL.out (by rfl) ((RE.of_nil HDR0.out)) (by rw [List.length_append, List.nil_append, HTKL.out]; simp; omega) ?_; intro v4 w4 ho4 hb4 hq4 hs4; clear hq4 hs4)))
                all_goals
                  go_wp2
                  go_roundw
                  case rel => exact ⟨k + 1, _, by omega, by go_num, OE.mono hwz ho4, HFIN.out, I5.out.below hb4, bel_step0 hb4 B5.out⟩
                  case measure => simp [intOf]; omega
              · have hex : ∃ gq, (some (⟨g, 0, none⟩ : Addr)) = some ⟨gq, 0, none⟩ := by
                  obtain ⟨xs, h1, _⟩ := O5.out
                  rcases h1.2 with ⟨e, h0⟩ | ⟨gq, cap', cur, e, _⟩
                  · injection e with _ e1 e2; rw [HSL.out] at h0; omega
                  · injection e with e1 _ _; exact ⟨gq, e1⟩
                obtain ⟨gq, hSA⟩ := hex
                clear hSA
                go_wp2
                go_region_held3 (fun W => Below w5.heap.size w5 W) (((repeat (first | with_reducible exact Below.refl _ _ | with_reducible exact below_regrown _ _ _ | with_reducible refine bel_step0 (by assumption) ?_ | with_reducible refine bel_alloc0 ?_ _ | with_reducible refine bel_regrown0 ?_ _ _ | with_reducible refine bel_regrown ?_ (by first | omega | (simp; done) | (simp; omega)) _ _ | with_reducible refine below_drewN ?_ _ | with_reducible refine Below.drew ?_ | with_reducible refine Below.alloc ?_ (by first | omega | (simp; done) | (simp; omega)) _ | with_reducible refine Below.setCell ?_ (by first | omega | (simp; done) | (simp; omega)) _ | with_reducible refine bel_step (by assumption) (by first | omega | (simp; done) | (simp; omega)) ?_ | with_reducible refine bel_grown (by assumption) (by first | omega | (simp; done) | (simp; omega)) (by first | omega | (simp; done) | (simp; omega)) ?_)))) (first | ((refine step_appE _ (by rfl) (.tmp 64) (.tmp 67) (by rfl) w5 _ [] _ (by rfl) (by first | exact OE.emptyAt (by simp) (by simp) | exact OE.alloc (OE.emptyAt (by simp) (by simp)) _) (by (repeat (first | with_reducible exact Below.refl _ _ | with_reducible exact below_regrown _ _ _ | with_reducible refine bel_step0 (by assumption) ?_ | with_reducible refine bel_alloc0 ?_ _ | with_reducible refine bel_regrown0 ?_ _ _ | with_reducible refine bel_regrown ?_ (by first | omega | (simp; done) | (simp; omega)) _ _ | with_reducible refine below_drewN ?_ _ | with_reducible refine Below.drew ?_ | with_reducible refine Below.alloc ?_ (by first | omega | (simp; done) | (simp; omega)) _ | with_reducible refine Below.setCell ?_ (by first | omega | (simp; done) | (simp; omega)) _ | with_reducible refine bel_step (by assumption) (by first | omega | (simp; done) | (simp; omega)) ?_ | with_reducible refine bel_grown (by assumption) (by first | omega | (simp; done) | (simp; omega)) (by first | omega | (simp; done) | (simp; omega)) ?_))) _ _ _ HTKL.out (by rfl) (HTK.out.below (by (repeat (first | with_reducible exact Below.refl _ _ | with_reducible exact below_regrown _ _ _ | with_reducible refine bel_step0 (by assumption) ?_ | with_reducible refine bel_alloc0 ?_ _ | with_reducible refine bel_regrown0 ?_ _ _ | with_reducible refine bel_regrown ?_ (by first | omega | (simp; done) | (simp; omega)) _ _ | with_reducible refine below_drewN ?_ _ | with_reducible refine Below.drew ?_ | with_reducible refine Below.alloc ?_ (by first | omega | (simp; done) | (simp; omega)) _ | with_reducible refine Below.setCell ?_ (by first | omega | (simp; done) | (simp; omega)) _ | with_reducible refine bel_step (by assumption) (by first | omega | (simp; done) | (simp; omega)) ?_ | with_reducible refine bel_grown (by assumption) (by first | omega | (simp; done) | (simp; omega)) (by first | omega | (simp; done) | (simp; omega)) ?_)))) (by simp; omega) ?_; intro v2 w2 ho2 hb2 hq2 hs2; have HQ2 := Lib.hid hq2; clear hq2)) | ((refine step_appE _ (by rfl) (.tmp 68) (.tmp 73) (by rfl) w5 _ _ [x] (by rfl) (by first | exact ho2 | exact OE.alloc ho2 _) (by (repeat (first | with_reducible exact Below.refl _ _ | with_reducible exact below_regrown _ _ _ | with_reducible refine bel_step0 (by assumption) ?_ | with_reducible refine bel_alloc0 ?_ _ | with_reducible refine bel_regrown0 ?_ _ _ | with_reducible refine bel_regrown ?_ (by first | omega | (simp; done) | (simp; omega)) _ _ | with_reducible refine below_drewN ?_ _ | with_reducible refine Below.drew ?_ | with_reducible refine Below.alloc ?_ (by first | omega | (simp; done) | (simp; omega)) _ | with_reducible refine Below.setCell ?_ (by first | omega | (simp; done) | (simp; omega)) _ | with_reducible refine bel_step (by assumption) (by first | omega | (simp; done) | (simp; omega)) ?_ | with_reducible refine bel_grown (by assumption) (by first | omega | (simp; done) | (simp; omega)) (by first | omega | (simp; done) | (simp; omega)) ?_))) _ 1 1 (by rfl) (by rfl) (by first | exact re_lit _ _ _ | exact re_kept1 HQ2.out | exact re_kept0 HQ2.out) (by rw [List.nil_append, HTKL.out]; omega) ?_; intro v3 w3 ho3 hb3 hq3 hs3; clear hq3 hs3)) | ((refine step_appE _ (by rfl) (.tmp 74) (.tmp 77) (by rfl) w5 _ _ _ (by rfl) ho3 (by (repeat (first | with_reducible exact Below.refl _ _ | with_reducible exact below_regrown _ _ _ | with_reducible refine bel_step0 (by assumption) ?_ | with_reducible refine bel_alloc0 ?_ _ | with_reducible refine bel_regrown0 ?_ _ _ | with_reducible refine bel_regrown ?_ (by first | omega | (simp; done) | (simp; omega)) _ _ | with_reducible refine below_drewN ?_ _ | with_reducible refine Below.drew ?_ | with_reducible refine Below.alloc ?_ (by first | omega | (simp; done) | (simp; omega)) _ | with_reducible refine Below.setCell ?_ (by first | omega | (simp; done) | (simp; omega)) _ | with_reducible refine bel_step (by assumption) (by first | omega | (simp; done) | (simp; omega)) ?_ | with_reducible refine bel_grown (by assumption) (by first | omega | (simp; done) | (simp; omega)) (by first | omega | (simp; done) | (simp; omega)) ?_))) _ _ _ HDRL.out (by rfl) ((RE.of_nil HDR0.out)) (by rw [List.length_append, List.nil_append, HTKL.out]; simp; omega) ?_; intro v4 w4 ho4 hb4 hq4 hs4; clear hq4 hs4)))
                all_goals
                  go_wp2
                  go_roundw
                  case rel => exact ⟨k + 1, _, by omega, by go_num, OE.mono hwz ho4, HFIN.out, I5.out.below hb4, bel_step0 hb4 B5.out⟩
                  case measure => simp [intOf]; omega
          · have hj2 : ¬ (0 : Int) < (j : Int) := by omega
            have HP := Lib.hid (show posE ltE s x L = j by rw [hpos]; obtain rfl : j = 0 := (by omega); rfl)
            clear ho hpos
            go_wp2
            (refine wp_region_quiet_below (by kernel_rfl) (by kernel_rfl) ?_; (repeat (go_big_quiet_step (fail))); refine wpQuiet_nil ?_; intro _ hw'; obtain ⟨⟨dq, osq⟩, hw''⟩ := hw'; subst hw'')
            clear gt0 gt1 gt2 hj2
            obtain ⟨w5, hw5⟩ : ∃ w5, w5 = grow (redrawn wr dq) osq := ⟨_, rfl⟩
            have O5 := Lib.hid (show OE w.heap.size w5 (.slice SA L sc) s by rw [hw5]; exact HO.out.below (below_regrown _ _ _))
            have I5 := Lib.hid (show OI w.heap.size w5 (.slice (some ⟨w.heap.size, 0, none⟩) 0 0) [] by rw [hw5]; exact HO6.out.below (below_regrown _ _ _))
            have B5 := Lib.hid (show Below w.heap.size w w5 by rw [hw5]; exact bel_regrown0 HB.out _ _)
            rw [← hw5]
            have hwz := B5.out.size
            have r0 : ∀ W, Below w5.heap.size w5 W → W.cell? ⟨b, off + k * 3, none⟩ = some (.int .i64 x.rid) := fun W hW => (G.out W (bel_step0 hW B5.out)).1
            have r1 : ∀ W, Below w5.heap.size w5 W → W.cell? ⟨b, off + k * 3 + 1, none⟩ = some (.int .i64 x.due) := fun W hW => (G.out W (bel_step0 hW B5.out)).2.1
            have r2 : ∀ W, Below w5.heap.size w5 W → W.cell? ⟨b, off + k * 3 + 2, none⟩ = some (.slice x.A x.n x.c) := fun W hW => (G.out W (bel_step0 hW B5.out)).2.2
            have HTK := Lib.hid (O5.out.re.take j)
            have HTKL := Lib.hid (show (s.take j).length = j by rw [List.length_take, HSL.out]; omega)
            have HFIN := Lib.hid (show ([] ++ s.take j ++ [x] ++ s.drop j).map El.pr = srtE ltP (lateP R day (k + 1)) by have h := HNEW.out; rw [HP.out] at h; unfold insAt at h; simpa using h)
            have hj0 : (0 : Int) ≤ (j : Int) := by omega
            have hj3 : (j : Int) ≤ (sc : Int) := by omega
            have hj4 : (L : Int) ≤ (sc : Int) := by omega
            clear HO HO6 HB hw5
            by_cases hjl : j < L
            · have hk4 : ¬ sc = j := by omega
              have hj1 : (j : Int) ≤ (L : Int) := by omega
              obtain ⟨A', c', e', _, _, hA'⟩ := own3.form O5.out
              injection e' with e1 e2 e3
              obtain ⟨gq, hgq, _, _⟩ := hA' (by rw [HSL.out]; omega)
              have hSA : SA = some ⟨gq, 0, none⟩ := e1.trans hgq
              subst hSA
              have HDRL := Lib.hid (show (s.drop j).length = L - j by rw [List.length_drop, HSL.out])
              have htl := RE.drop O5.out.re j
              rw [Nat.zero_add] at htl
              have HTL := Lib.hid htl
              clear htl e1 e2 e3 hgq hA'
              go_wp2
              go_region_held3 (fun W => Below w5.heap.size w5 W) (((repeat (first | with_reducible exact Below.refl _ _ | with_reducible exact below_regrown _ _ _ | with_reducible refine bel_step0 (by assumption) ?_ | with_reducible refine bel_alloc0 ?_ _ | with_reducible refine bel_regrown0 ?_ _ _ | with_reducible refine bel_regrown ?_ (by first | omega | (simp; done) | (simp; omega)) _ _ | with_reducible refine below_drewN ?_ _ | with_reducible refine Below.drew ?_ | with_reducible refine Below.alloc ?_ (by first | omega | (simp; done) | (simp; omega)) _ | with_reducible refine Below.setCell ?_ (by first | omega | (simp; done) | (simp; omega)) _ | with_reducible refine bel_step (by assumption) (by first | omega | (simp; done) | (simp; omega)) ?_ | with_reducible refine bel_grown (by assumption) (by first | omega | (simp; done) | (simp; omega)) (by first | omega | (simp; done) | (simp; omega)) ?_)))) (first | ((refine step_appE _ (by rfl) (.tmp 64) (.tmp 67) (by rfl) w5 _ [] _ (by rfl) (by first | exact OE.emptyAt (by simp) (by simp) | exact OE.alloc (OE.emptyAt (by simp) (by simp)) _) (by (repeat (first | with_reducible exact Below.refl _ _ | with_reducible exact below_regrown _ _ _ | with_reducible refine bel_step0 (by assumption) ?_ | with_reducible refine bel_alloc0 ?_ _ | with_reducible refine bel_regrown0 ?_ _ _ | with_reducible refine bel_regrown ?_ (by first | omega | (simp; done) | (simp; omega)) _ _ | with_reducible refine below_drewN ?_ _ | with_reducible refine Below.drew ?_ | with_reducible refine Below.alloc ?_ (by first | omega | (simp; done) | (simp; omega)) _ | with_reducible refine Below.setCell ?_ (by first | omega | (simp; done) | (simp; omega)) _ | with_reducible refine bel_step (by assumption) (by first | omega | (simp; done) | (simp; omega)) ?_ | with_reducible refine bel_grown (by assumption) (by first | omega | (simp; done) | (simp; omega)) (by first | omega | (simp; done) | (simp; omega)) ?_))) _ _ _ HTKL.out (by rfl) (HTK.out.below (by (repeat (first | with_reducible exact Below.refl _ _ | with_reducible exact below_regrown _ _ _ | with_reducible refine bel_step0 (by assumption) ?_ | with_reducible refine bel_alloc0 ?_ _ | with_reducible refine bel_regrown0 ?_ _ _ | with_reducible refine bel_regrown ?_ (by first | omega | (simp; done) | (simp; omega)) _ _ | with_reducible refine below_drewN ?_ _ | with_reducible refine Below.drew ?_ | with_reducible refine Below.alloc ?_ (by first | omega | (simp; done) | (simp; omega)) _ | with_reducible refine Below.setCell ?_ (by first | omega | (simp; done) | (simp; omega)) _ | with_reducible refine bel_step (by assumption) (by first | omega | (simp; done) | (simp; omega)) ?_ | with_reducible refine bel_grown (by assumption) (by first | omega | (simp; done) | (simp; omega)) (by first | omega | (simp; done) | (simp; omega)) ?_)))) (by simp; omega) ?_; intro v2 w2 ho2 hb2 hq2 hs2; have HQ2 := Lib.hid hq2; clear hq2)) | ((refine step_appE _ (by rfl) (.tmp 68) (.tmp 73) (by rfl) w5 _ _ [x] (by rfl) (by first | exact ho2 | exact OE.alloc ho2 _) (by (repeat (first | with_reducible exact Below.refl _ _ | with_reducible exact below_regrown _ _ _ | with_reducible refine bel_step0 (by assumption) ?_ | with_reducible refine bel_alloc0 ?_ _ | with_reducible refine bel_regrown0 ?_ _ _ | with_reducible refine bel_regrown ?_ (by first | omega | (simp; done) | (simp; omega)) _ _ | with_reducible refine below_drewN ?_ _ | with_reducible refine Below.drew ?_ | with_reducible refine Below.alloc ?_ (by first | omega | (simp; done) | (simp; omega)) _ | with_reducible refine Below.setCell ?_ (by first | omega | (simp; done) | (simp; omega)) _ | with_reducible refine bel_step (by assumption) (by first | omega | (simp; done) | (simp; omega)) ?_ | with_reducible refine bel_grown (by assumption) (by first | omega | (simp; done) | (simp; omega)) (by first | omega | (simp; done) | (simp; omega)) ?_))) _ 1 1 (by rfl) (by rfl) (by first | exact re_lit _ _ _ | exact re_kept1 HQ2.out | exact re_kept0 HQ2.out) (by rw [List.nil_append, HTKL.out]; omega) ?_; intro v3 w3 ho3 hb3 hq3 hs3; clear hq3 hs3)) | ((refine step_appE _ (by rfl) (.tmp 74) (.tmp 77) (by rfl) w5 _ _ _ (by rfl) ho3 (by (repeat (first | with_reducible exact Below.refl _ _ | with_reducible exact below_regrown _ _ _ | with_reducible refine bel_step0 (by assumption) ?_ | with_reducible refine bel_alloc0 ?_ _ | with_reducible refine bel_regrown0 ?_ _ _ | with_reducible refine bel_regrown ?_ (by first | omega | (simp; done) | (simp; omega)) _ _ | with_reducible refine below_drewN ?_ _ | with_reducible refine Below.drew ?_ | with_reducible refine Below.alloc ?_ (by first | omega | (simp; done) | (simp; omega)) _ | with_reducible refine Below.setCell ?_ (by first | omega | (simp; done) | (simp; omega)) _ | with_reducible refine bel_step (by assumption) (by first | omega | (simp; done) | (simp; omega)) ?_ | with_reducible refine bel_grown (by assumption) (by first | omega | (simp; done) | (simp; omega)) (by first | omega | (simp; done) | (simp; omega)) ?_))) _ _ _ HDRL.out (by rfl) ((HTL.out.below (by (repeat (first | with_reducible exact Below.refl _ _ | with_reducible exact below_regrown _ _ _ | with_reducible refine bel_step0 (by assumption) ?_ | with_reducible refine bel_alloc0 ?_ _ | with_reducible refine bel_regrown0 ?_ _ _ | with_reducible refine bel_regrown ?_ (by first | omega | (simp; done) | (simp; omega)) _ _ | with_reducible refine below_drewN ?_ _ | with_reducible refine Below.drew ?_ | with_reducible refine Below.alloc ?_ (by first | omega | (simp; done) | (simp; omega)) _ | with_reducible refine Below.setCell ?_ (by first | omega | (simp; done) | (simp; omega)) _ | with_reducible refine bel_step (by assumption) (by first | omega | (simp; done) | (simp; omega)) ?_ | with_reducible refine bel_grown (by assumption) (by first | omega | (simp; done) | (simp; omega)) (by first | omega | (simp; done) | (simp; omega)) ?_))))) (by rw [List.length_append, List.nil_append, HTKL.out]; simp; omega) ?_; intro v4 w4 ho4 hb4 hq4 hs4; clear hq4 hs4)))
              all_goals
                go_wp2
                go_roundw
                case rel => exact ⟨k + 1, _, by omega, by go_num, OE.mono hwz ho4, HFIN.out, I5.out.below hb4, bel_step0 hb4 B5.out⟩
                case measure => simp [intOf]; omega
            · obtain rfl : L = j := by omega
              have HDR0 := Lib.hid (show s.drop L = [] from List.drop_eq_nil_of_le (by rw [HSL.out]; exact Nat.le_refl _))
              have HDRL := Lib.hid (show (s.drop L).length = 0 by rw [HDR0.out]; rfl)
              by_cases hcn : sc = L
              · obtain rfl : L = sc := hcn.symm
                clear hcn
                go_wp2
                go_region_held3 (fun W => Below w5.heap.size w5 W) (((repeat (first | with_reducible exact Below.refl _ _ | with_reducible exact below_regrown _ _ _ | with_reducible refine bel_step0 (by assumption) ?_ | with_reducible refine bel_alloc0 ?_ _ | with_reducible refine bel_regrown0 ?_ _ _ | with_reducible refine bel_regrown ?_ (by first | omega | (simp; done) | (simp; omega)) _ _ | with_reducible refine below_drewN ?_ _ | with_reducible refine Below.drew ?_ | with_reducible refine Below.alloc ?_ (by first | omega | (simp; done) | (simp; omega)) _ | with_reducible refine Below.setCell ?_ (by first | omega | (simp; done) | (simp; omega)) _ | with_reducible refine bel_step (by assumption) (by first | omega | (simp; done) | (simp; omega)) ?_ | with_reducible refine bel_grown (by assumption) (by first | omega | (simp; done) | (simp; omega)) (by first | omega | (simp; done) | (simp; omega)) ?_)))) (first | ((refine step_appE _ (by rfl) (.tmp 64) (.tmp 67) (by rfl) w5 _ [] _ (by rfl) (by first | exact OE.emptyAt (by simp) (by simp) | exact OE.alloc (OE.emptyAt (by simp) (by simp)) _) (by (repeat (first | with_reducible exact Below.refl _ _ | with_reducible exact below_regrown _ _ _ | with_reducible refine bel_step0 (by assumption) ?_ | with_reducible refine bel_alloc0 ?_ _ | with_reducible refine bel_regrown0 ?_ _ _ | with_reducible refine bel_regrown ?_ (by first | omega | (simp; done) | (simp; omega)) _ _ | with_reducible refine below_drewN ?_ _ | with_reducible refine Below.drew ?_ | with_reducible refine Below.alloc ?_ (by first | omega | (simp; done) | (simp; omega)) _ | with_reducible refine Below.setCell ?_ (by first | omega | (simp; done) | (simp; omega)) _ | with_reducible refine bel_step (by assumption) (by first | omega | (simp; done) | (simp; omega)) ?_ | with_reducible refine bel_grown (by assumption) (by first | omega | (simp; done) | (simp; omega)) (by first | omega | (simp; done) | (simp; omega)) ?_))) _ _ _ HTKL.out (by rfl) (HTK.out.below (by (repeat (first | with_reducible exact Below.refl _ _ | with_reducible exact below_regrown _ _ _ | with_reducible refine bel_step0 (by assumption) ?_ | with_reducible refine bel_alloc0 ?_ _ | with_reducible refine bel_regrown0 ?_ _ _ | with_reducible refine bel_regrown ?_ (by first | omega | (simp; done) | (simp; omega)) _ _ | with_reducible refine below_drewN ?_ _ | with_reducible refine Below.drew ?_ | with_reducible refine Below.alloc ?_ (by first | omega | (simp; done) | (simp; omega)) _ | with_reducible refine Below.setCell ?_ (by first | omega | (simp; done) | (simp; omega)) _ | with_reducible refine bel_step (by assumption) (by first | omega | (simp; done) | (simp; omega)) ?_ | with_reducible refine bel_grown (by assumption) (by first | omega | (simp; done) | (simp; omega)) (by first | omega | (simp; done) | (simp; omega)) ?_)))) (by simp; omega) ?_; intro v2 w2 ho2 hb2 hq2 hs2; have HQ2 := Lib.hid hq2; clear hq2)) | ((refine step_appE _ (by rfl) (.tmp 68) (.tmp 73) (by rfl) w5 _ _ [x] (by rfl) (by first | exact ho2 | exact OE.alloc ho2 _) (by (repeat (first | with_reducible exact Below.refl _ _ | with_reducible exact below_regrown _ _ _ | with_reducible refine bel_step0 (by assumption) ?_ | with_reducible refine bel_alloc0 ?_ _ | with_reducible refine bel_regrown0 ?_ _ _ | with_reducible refine bel_regrown ?_ (by first | omega | (simp; done) | (simp; omega)) _ _ | with_reducible refine below_drewN ?_ _ | with_reducible refine Below.drew ?_ | with_reducible refine Below.alloc ?_ (by first | omega | (simp; done) | (simp; omega)) _ | with_reducible refine Below.setCell ?_ (by first | omega | (simp; done) | (simp; omega)) _ | with_reducible refine bel_step (by assumption) (by first | omega | (simp; done) | (simp; omega)) ?_ | with_reducible refine bel_grown (by assumption) (by first | omega | (simp; done) | (simp; omega)) (by first | omega | (simp; done) | (simp; omega)) ?_))) _ 1 1 (by rfl) (by rfl) (by first | exact re_lit _ _ _ | exact re_kept1 HQ2.out | exact re_kept0 HQ2.out) (by rw [List.nil_append, HTKL.out]; omega) ?_; intro v3 w3 ho3 hb3 hq3 hs3; clear hq3 hs3)) | ((refine step_appE _ (by rfl) (.tmp 74) (.tmp 77) (by rfl) w5 _ _ _ (by rfl) ho3 (by (repeat (first | with_reducible exact Below.refl _ _ | with_reducible exact below_regrown _ _ _ | with_reducible refine bel_step0 (by assumption) ?_ | with_reducible refine bel_alloc0 ?_ _ | with_reducible refine bel_regrown0 ?_ _ _ | with_reducible refine bel_regrown ?_ (by first | omega | (simp; done) | (simp; omega)) _ _ | with_reducible refine below_drewN ?_ _ | with_reducible refine Below.drew ?_ | with_reducible refine Below.alloc ?_ (by first | omega | (simp; done) | (simp; omega)) _ | with_reducible refine Below.setCell ?_ (by first | omega | (simp; done) | (simp; omega)) _ | with_reducible refine bel_step (by assumption) (by first | omega | (simp; done) | (simp; omega)) ?_ | with_reducible refine bel_grown (by assumption) (by first | omega | (simp; done) | (simp; omega)) (by first | omega | (simp; done) | (simp; omega)) ?_))) _ _ _ HDRL.out (by rfl) ((RE.of_nil HDR0.out)) (by rw [List.length_append, List.nil_append, HTKL.out]; simp; omega) ?_; intro v4 w4 ho4 hb4 hq4 hs4; clear hq4 hs4)))
                all_goals
                  go_wp2
                  go_roundw
                  case rel => exact ⟨k + 1, _, by omega, by go_num, OE.mono hwz ho4, HFIN.out, I5.out.below hb4, bel_step0 hb4 B5.out⟩
                  case measure => simp [intOf]; omega
              · have hex : ∃ gq, SA = some ⟨gq, 0, none⟩ := by
                  obtain ⟨xs, h1, _⟩ := O5.out
                  rcases h1.2 with ⟨e, h0⟩ | ⟨gq, cap', cur, e, _⟩
                  · injection e with _ e1 e2; rw [HSL.out] at h0; omega
                  · injection e with e1 _ _; exact ⟨gq, e1⟩
                obtain ⟨gq, hSA⟩ := hex
                subst hSA
                go_wp2
                go_region_held3 (fun W => Below w5.heap.size w5 W) (((repeat (first | with_reducible exact Below.refl _ _ | with_reducible exact below_regrown _ _ _ | with_reducible refine bel_step0 (by assumption) ?_ | with_reducible refine bel_alloc0 ?_ _ | with_reducible refine bel_regrown0 ?_ _ _ | with_reducible refine bel_regrown ?_ (by first | omega | (simp; done) | (simp; omega)) _ _ | with_reducible refine below_drewN ?_ _ | with_reducible refine Below.drew ?_ | with_reducible refine Below.alloc ?_ (by first | omega | (simp; done) | (simp; omega)) _ | with_reducible refine Below.setCell ?_ (by first | omega | (simp; done) | (simp; omega)) _ | with_reducible refine bel_step (by assumption) (by first | omega | (simp; done) | (simp; omega)) ?_ | with_reducible refine bel_grown (by assumption) (by first | omega | (simp; done) | (simp; omega)) (by first | omega | (simp; done) | (simp; omega)) ?_)))) (first | ((refine step_appE _ (by rfl) (.tmp 64) (.tmp 67) (by rfl) w5 _ [] _ (by rfl) (by first | exact OE.emptyAt (by simp) (by simp) | exact OE.alloc (OE.emptyAt (by simp) (by simp)) _) (by (repeat (first | with_reducible exact Below.refl _ _ | with_reducible exact below_regrown _ _ _ | with_reducible refine bel_step0 (by assumption) ?_ | with_reducible refine bel_alloc0 ?_ _ | with_reducible refine bel_regrown0 ?_ _ _ | with_reducible refine bel_regrown ?_ (by first | omega | (simp; done) | (simp; omega)) _ _ | with_reducible refine below_drewN ?_ _ | with_reducible refine Below.drew ?_ | with_reducible refine Below.alloc ?_ (by first | omega | (simp; done) | (simp; omega)) _ | with_reducible refine Below.setCell ?_ (by first | omega | (simp; done) | (simp; omega)) _ | with_reducible refine bel_step (by assumption) (by first | omega | (simp; done) | (simp; omega)) ?_ | with_reducible refine bel_grown (by assumption) (by first | omega | (simp; done) | (simp; omega)) (by first | omega | (simp; done) | (simp; omega)) ?_))) _ _ _ HTKL.out (by rfl) (HTK.out.below (by (repeat (first | with_reducible exact Below.refl _ _ | with_reducible exact below_regrown _ _ _ | with_reducible refine bel_step0 (by assumption) ?_ | with_reducible refine bel_alloc0 ?_ _ | with_reducible refine bel_regrown0 ?_ _ _ | with_reducible refine bel_regrown ?_ (by first | omega | (simp; done) | (simp; omega)) _ _ | with_reducible refine below_drewN ?_ _ | with_reducible refine Below.drew ?_ | with_reducible refine Below.alloc ?_ (by first | omega | (simp; done) | (simp; omega)) _ | with_reducible refine Below.setCell ?_ (by first | omega | (simp; done) | (simp; omega)) _ | with_reducible refine bel_step (by assumption) (by first | omega | (simp; done) | (simp; omega)) ?_ | with_reducible refine bel_grown (by assumption) (by first | omega | (simp; done) | (simp; omega)) (by first | omega | (simp; done) | (simp; omega)) ?_)))) (by simp; omega) ?_; intro v2 w2 ho2 hb2 hq2 hs2; have HQ2 := Lib.hid hq2; clear hq2)) | ((refine step_appE _ (by rfl) (.tmp 68) (.tmp 73) (by rfl) w5 _ _ [x] (by rfl) (by first | exact ho2 | exact OE.alloc ho2 _) (by (repeat (first | with_reducible exact Below.refl _ _ | with_reducible exact below_regrown _ _ _ | with_reducible refine bel_step0 (by assumption) ?_ | with_reducible refine bel_alloc0 ?_ _ | with_reducible refine bel_regrown0 ?_ _ _ | with_reducible refine bel_regrown ?_ (by first | omega | (simp; done) | (simp; omega)) _ _ | with_reducible refine below_drewN ?_ _ | with_reducible refine Below.drew ?_ | with_reducible refine Below.alloc ?_ (by first | omega | (simp; done) | (simp; omega)) _ | with_reducible refine Below.setCell ?_ (by first | omega | (simp; done) | (simp; omega)) _ | with_reducible refine bel_step (by assumption) (by first | omega | (simp; done) | (simp; omega)) ?_ | with_reducible refine bel_grown (by assumption) (by first | omega | (simp; done) | (simp; omega)) (by first | omega | (simp; done) | (simp; omega)) ?_))) _ 1 1 (by rfl) (by rfl) (by first | exact re_lit _ _ _ | exact re_kept1 HQ2.out | exact re_kept0 HQ2.out) (by rw [List.nil_append, HTKL.out]; omega) ?_; intro v3 w3 ho3 hb3 hq3 hs3; clear hq3 hs3)) | ((refine step_appE _ (by rfl) (.tmp 74) (.tmp 77) (by rfl) w5 _ _ _ (by rfl) ho3 (by (repeat (first | with_reducible exact Below.refl _ _ | with_reducible exact below_regrown _ _ _ | with_reducible refine bel_step0 (by assumption) ?_ | with_reducible refine bel_alloc0 ?_ _ | with_reducible refine bel_regrown0 ?_ _ _ | with_reducible refine bel_regrown ?_ (by first | omega | (simp; done) | (simp; omega)) _ _ | with_reducible refine below_drewN ?_ _ | with_reducible refine Below.drew ?_ | with_reducible refine Below.alloc ?_ (by first | omega | (simp; done) | (simp; omega)) _ | with_reducible refine Below.setCell ?_ (by first | omega | (simp; done) | (simp; omega)) _ | with_reducible refine bel_step (by assumption) (by first | omega | (simp; done) | (simp; omega)) ?_ | with_reducible refine bel_grown (by assumption) (by first | omega | (simp; done) | (simp; omega)) (by first | omega | (simp; done) | (simp; omega)) ?_))) _ _ _ HDRL.out (by rfl) ((RE.of_nil HDR0.out)) (by rw [List.length_append, List.nil_append, HTKL.out]; simp; omega) ?_; intro v4 w4 ho4 hb4 hq4 hs4; clear hq4 hs4)))
                all_goals
                  go_wp2
                  go_roundw
                  case rel => exact ⟨k + 1, _, by omega, by go_num, OE.mono hwz ho4, HFIN.out, I5.out.below hb4, bel_step0 hb4 B5.out⟩
                  case measure => simp [intOf]; omega
    · obtain rfl : k = n := by omega
      have HSL := Lib.hid hL
      have HSP := Lib.hid hsp
      have HO := Lib.hid ho
      have HO6 := Lib.hid ho6
      have HB := Lib.hid hB
      obtain ⟨SA, sc, rfl, hsc2, hsm2, _⟩ := own3.form ho
      rw [hL] at hsl hsc2 HO ⊢
      clear ho ho6 hB hsp hL hlt
      go_wp2
      go_loopw [6, 10] (fun o i wi => ∃ j : Nat, j ≤ L ∧ i = .int .i64 j ∧ OI w.heap.size wi o (lst j fun q => (atE s q).rid) ∧ OE w.heap.size wi (.slice SA L sc) s ∧ Below w.heap.size w wi) (fun _ i _ => L - (intOf i).toNat)
      case atStart => exact ⟨0, Nat.zero_le _, rfl, HO6.out, HO.out, HB.out⟩
      case round =>
        clear HO HO6 HB
        obtain ⟨j, hj, rfl, ho6, ho, hB⟩ := hrel
        by_cases hlt : j < L
        · obtain ⟨A', c', e', _, _, hA'⟩ := own3.form ho
          injection e' with e1 e2 e3
          obtain ⟨g, rfl, _, hgl⟩ := hA' (by rw [HSL.out]; omega)
          subst e1
          obtain ⟨c0, c1, c2⟩ := OE.cells ho (j := j) (by rw [HSL.out]; omega)
          obtain ⟨x, hx⟩ : ∃ x, atE s j = x := ⟨_, rfl⟩
          rw [hx] at c0 c1 c2
          have HX := Lib.hid hx
          have hj0 : (0 : Int) ≤ (j : Int) := by omega
          have hj1 : (j : Int) < (L : Int) := by omega
          have hzs := hB.size
          have hjl : (lst j fun q => (atE s q).rid).length ≤ 1099511627776 := by rw [lst_length]; omega
          have HO := Lib.hid (OE.alloc ho (.cells #[.int .i64 x.rid] 3))
          have HOA := Lib.hid (ho6.alloc (.cells #[.int .i64 x.rid] 3))
          have HB := Lib.hid (bel_alloc0 hB (.cells #[.int .i64 x.rid] 3))
          clear ho6 ho hB hA' e2 e3 hx
          go_wp2_with (at_builtin; refine wp_app1x _ rfl (.tmp 85) (.tmp 91) rfl w.heap.size _ _ rfl HOA.out wr.heap.size x.rid rfl (by simp) hjl (by simp; omega) ?_; intro v7 w7 ho7 hg7 _ _; have O7 := Lib.hid ho7; have E7 := Lib.hid (show OE w.heap.size w7 (.slice (some ⟨g, 0, none⟩) L sc) s from own3.of_block HO.out (fun q hq => hg7.block q (own3.lt HO.out q hq).2 (fun e => own_ne HO.out HOA.out hq e.symm))); have B7 := Lib.hid (HB.out.grown hg7 HB.out.size (fun q hq => (World.ownsRow.lt HOA.out q hq).1)); clear ho7 hg7)
          go_roundw
          case rel => exact ⟨j + 1, by omega, by go_num, by rw [lst_succ, HX.out]; exact O7.out, E7.out, B7.out⟩
          case measure => simp [intOf]; omega
        · obtain rfl : L = j := by omega
          have HO := Lib.hid ho6
          have HB := Lib.hid hB
          clear ho hB ho6
          go_wp2
          go_ret2
          refine ⟨_, rfl, ?_, HB.out⟩
          have e : lst L (fun q => (atE s q).rid) = (srtE ltP (lateP R day k)).map (·.1) := by
            have h1 := lst_atE s El.rid
            rw [HSL.out] at h1
            rw [← HSP.out, List.map_map]
            exact h1
          rw [← e]
          exact HO.out
end Go.Proofs.Ytcdffikambbleaa
