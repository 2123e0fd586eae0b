/- Parts with a sign between them: queries of terms. No condition but those stated. -/
import Derived.Test.YtjmfkenhnfdbjaaGreatDoorQyI
namespace Go.Proofs.YtjmfkenhnfdbjaaGreatDoor
set_option linter.unusedVariables false
set_option linter.unusedSimpArgs false
open Go.RowKit Go.Sort
set_option maxRecDepth 100000 in
set_option maxHeartbeats 8000000 in
theorem C_joinedT (P : Nat) (s : ByteArray) (num : Nat → Option (Int × Nat)) (K : Nat) (hs : s.size ≤ 1048576) (a : Nat) (op mo : Int)
    (HP : ∀ a op mo w, s.size < K + a → Pre P s a op mo w → Calls Tryz.prog 84 #[.pointer (some ⟨P, 0, none⟩)] w fun e w' => ∃ x : Tq, e = .returned (.agg #[.int .u8 (x).c, .int .i64 (x).n, .slice (x).A (x).m (x).k]) ∧ Res P s (pTer s.size (bN s) num K) a op mo w w' x)
    (w : World) (hK : s.size < K + a) (h : Pre P s a op mo w) :
    Calls Tryz.prog 83 #[.pointer (some ⟨P, 0, none⟩), .int .u8 124, .func (.func 84) #[.pointer (some ⟨P, 0, none⟩)] #[]] w fun e w' => ∃ x : Tq, e = .returned (.agg #[.int .u8 (x).c, .int .i64 (x).n, .slice (x).A (x).m (x).k]) ∧ Res P s (pJ s.size (bN s) (pTer s.size (bN s) num K) 124 true) a op mo w w' x := by
  have HPRE := Lib.hid h
  have HPART := Lib.hid HP
  obtain ⟨r, hr⟩ : ∃ r, r = w.heap.size := ⟨_, rfl⟩
  obtain ⟨w1, hw1⟩ : ∃ ww, ww = w.alloc (.cells #[.int .u8 0, .int .i64 0, .slice none 0 0] 61) := ⟨_, rfl⟩
  have R1 : RQ w1 r 0 0 (.slice none 0 0) := by rw [hw1, hr]; exact RQ.new w
  have B1 : Below w.heap.size w w1 := by rw [hw1]; exact (Below.refl _ _).alloc (Nat.le_refl _) _
  have Z1 : w1.heap.size = w.heap.size + 1 := by rw [hw1]; simp
  have HW := Lib.hid hw1.symm
  have HR := Lib.hid hr
  have PW := h.ps.lt
  clear h HP hw1 hr
  go_enter Tryz.func83, Tryz.ntmps83
  go_wp2_with fail
  rw [HW.out, ← HR.out]
  refine (HPART.out a op mo _ hK (HPRE.out.below B1)).mono ?_; rintro e w2 ⟨x, rfl, hch, hres⟩
  have R2 := Lib.hid (R1.chg hch (.inr (by rw [HR.out]; omega)))
  have HRES := Lib.hid hres
  have HCH := Lib.hid ((Chg.of_below B1).trans hch)
  have hz2 := hch.size
  clear HW R1 hres hch
  obtain ⟨rq, hrq⟩ : ∃ rq, rq = w2.heap.size + 1 := ⟨_, rfl⟩
  obtain ⟨w3, hw3⟩ : ∃ ww, ww = (w2.alloc (.cells #[.int .u8 (x).c, .int .i64 (x).n, .slice (x).A (x).m (x).k] 61)).alloc (.cells #[.int .u8 124, .int .i64 0, .slice (some ⟨w2.heap.size, 0, none⟩) 1 1] 61) := ⟨_, rfl⟩
  have B3 : Below w2.heap.size w2 w3 := by rw [hw3]; (repeat (first | with_reducible exact Below.refl _ _ | with_reducible exact below_regrown _ _ _ | with_reducible refine bel_step0 (by assumption) ?_ | with_reducible refine bel_alloc0 ?_ _ | with_reducible refine bel_regrown0 ?_ _ _ | with_reducible refine bel_regrown ?_ (by first | omega | (simp; done) | (simp; omega)) _ _ | with_reducible refine below_drewN ?_ _ | with_reducible refine Below.drew ?_ | with_reducible refine Below.alloc ?_ (by first | omega | (simp; done) | (simp; omega)) _ | with_reducible refine Below.setCell ?_ (by first | omega | (simp; done) | (simp; omega)) _ | with_reducible refine bel_step (by assumption) (by first | omega | (simp; done) | (simp; omega)) ?_ | with_reducible refine bel_grown (by assumption) (by first | omega | (simp; done) | (simp; omega)) (by first | omega | (simp; done) | (simp; omega)) ?_))
  have Q3 : RQ w3 rq 124 0 (.slice (some ⟨w2.heap.size, 0, none⟩) 1 1) := by
    rw [hw3, hrq]
    have := World.rowIs_alloc (w2.alloc (.cells #[.int .u8 (x).c, .int .i64 (x).n, .slice (x).A (x).m (x).k] 61)) #[.int .u8 124, .int .i64 0, .slice (some ⟨w2.heap.size, 0, none⟩) 1 1] 61 (cQ 124 0 (.slice (some ⟨w2.heap.size, 0, none⟩) 1 1)) (fun i hi => by
      match i, hi with
      | 0, _ => rfl
      | 1, _ => rfl
      | 2, _ => rfl
      | n + 3, h => exact absurd h (by simp))
    rw [World.size_alloc] at this
    exact this
  have L3 : QL w.heap.size w3 (.slice (some ⟨w2.heap.size, 0, none⟩) 1 1) [x] := by
    rw [hw3]
    have : QL w.heap.size (w2.alloc (.cells #[.int .u8 (x).c, .int .i64 (x).n, .slice (x).A (x).m (x).k] 61)) (.slice (some ⟨w2.heap.size, 0, none⟩) 1 1) [x] :=
      ⟨rfl, .inr ⟨w2.heap.size, 1, #[.int .u8 x.c, .int .i64 x.n, .slice x.A x.m x.k], rfl, by omega, heap_alloc_new _ _, Nat.le_refl _, by decide, rfl, rfl⟩⟩
    exact QL.below ((Below.refl _ _).alloc (Nat.le_refl _) _) this
  have HW3 := Lib.hid hw3.symm
  have HRQ := Lib.hid hrq.symm
  clear hw3 hrq
  go_wp2
  rw [HW3.out, HRQ.out]
  rcases HRES.out with ⟨o, ho, htr, hps, ho1, ho2, ho3⟩ | ⟨hno, hps⟩
  · have hsz3 : w3.heap.size = w2.heap.size + 2 := by rw [← HW3.out]; simp
    have J3 : JW P r rq 124 w w3 (.slice (some ⟨w2.heap.size, 0, none⟩) 1 1) [x] [o.q] := by
      have hr1 := HR.out
      have hrq1 := HRQ.out
      refine ⟨R2.out.below B3, Q3, L3, HCH.out.trans (Chg.of_below B3), by omega, by omega, PW, by omega, fun k hk => ?_, rfl, fun j hj => ?_⟩
      · have : w2.heap.size = k := by simpa [Value.ownBlock] using hk
        omega
      · obtain rfl : j = 0 := by simpa using hj
        refine TR.mono (fun g hg => ?_) _ _ (TR.frame (fun g hg hl => B3.block g hl) B3.size _ _ (TR.bnd _ _ htr))
        obtain ⟨hg1, hg2⟩ := hg
        refine ⟨by omega, by omega, by omega, by omega, ?_⟩
        simp [Value.ownBlock]; omega
    have hp3 := hps.below B3
    obtain ⟨RES, hRES⟩ : ∃ z, loopQ s.size (bN s) (pTer s.size (bN s) num K) 124 (s.size + 1) [o.q] o.d o.e = z := ⟨_, rfl⟩
    have HPJ := Lib.hid (show pJ s.size (bN s) (pTer s.size (bN s) num K) 124 true a = outJ true RES by rw [pJ_some ho, hRES])
    have HPK := Lib.hid HPRE.out.pk
    have op0 := HPRE.out.op0
    have opa := HPRE.out.opa
    have opm := HPRE.out.opm
    have mos := HPRE.out.mos
    have J3 := Lib.hid J3
    have P3 := Lib.hid hp3
    clear HW3 htr hps hp3 L3 Q3 B3 R2 HCH HRES ho hsz3
    go_loopw [] (fun wr => ∃ v, (∃ (l : List Tq) (L : List Qy) (d e k : Nat), JW P r rq 124 w wr v l L ∧ 0 < l.length ∧ l.length ≤ e ∧ PS wr P s e false op (max mo (op + d)) ∧ a < e ∧ e ≤ s.size ∧ a + d ≤ e ∧ s.size < k + e ∧ loopQ s.size (bN s) (pTer s.size (bN s) num K) 124 k L d e = RES) ∨
      (JF P r rq 124 s a op mo w wr v ∧ pJ s.size (bN s) (pTer s.size (bN s) num K) 124 true a = none)) (fun wr => s.size + 1 - atP P wr)
    case atStart => exact ⟨_, .inl ⟨[x], [o.q], o.d, o.e, s.size + 1, J3.out, by simp, by simp; omega, P3.out, ho1, ho2, ho3, by omega, hRES⟩⟩
    case round =>
      clear J3 P3 ho1 ho2 ho3 hRES
      obtain ⟨v, ⟨l, L, d, e, k, hJ, hl0, hle, hP, he1, he2, he3, hke, hL⟩ | ⟨hF, hno⟩⟩ := hrel
      · have c2 := hP.c2
        have HJ := Lib.hid hJ
        have HPS := Lib.hid hP
        have HL := Lib.hid hL
        have HAT := Lib.hid hP.at_
        clear hJ hP hL
        go_wp2_with fail
        refine (C_sees P s e 124 false op _ _ HPS.out hs he2).mono ?_; rintro e' w4 ⟨rfl, hp4, hc4⟩
        have J4 := Lib.hid (HJ.out.chg hc4)
        clear HJ HPS c2
        cases hh : hitB s e 124
        · rw [hh] at hp4
          have hk1 : ∃ k', k = k' + 1 := ⟨k - 1, by omega⟩
          obtain ⟨k', rfl⟩ := hk1
          have hst : RES = some (L, d, e) := by
            rw [← HL.out]
            refine loopQ_stop fun h => ?_
            have : hitB s e 124 = true := by unfold hitB; rw [decide_eq_true h.1, decide_eq_true h.2]; rfl
            rw [hh] at this; cases this
          have HST := Lib.hid (show pJ s.size (bN s) (pTer s.size (bN s) num K) 124 true a = some ⟨.seq true L.length (atQ L), d, e⟩ by rw [HPJ.out, hst]; rfl)
          obtain ⟨g, cap, hv, hb, hg, hn, hc⟩ := J4.out.ql.formG hl0
          subst hv
          obtain ⟨x0, x1, x2, fx⟩ := J4.out.rqs.cells
          obtain ⟨y0, y1, y2, fy⟩ := J4.out.rrs.cells
          have v0 := fy 0; have v1 := fy 1; have v2 := fy 2
          have HP4 := Lib.hid hp4
          have HF := Lib.hid (J4.out.fin hl0 true rfl)
          have hPr : P ≠ r := by have := J4.out.hr; have := J4.out.hp; omega
          have HPR := Lib.hid hPr
          clear fx fy hst hh HL HPJ hp4 hPr hc4
          go_wp2
          go_light; refine bodyPost_ret (by simp (maxDischargeDepth := 3) [results, Tryz.results83, go_sem, *]; try rfl) rfl ?_
          exact ⟨⟨124, 0, some ⟨g, 0, none⟩, l.length, cap⟩, rfl, HF.out.1, .inl ⟨_, HST.out, HF.out.2, HP4.out.farQ HPR.out _ _ _, he1, he2, he3⟩⟩
        · rw [hh] at hp4
          have hlt : e < s.size := by unfold hitB at hh; rw [Bool.and_eq_true, decide_eq_true_eq] at hh; exact hh.1
          have hbe : bN s e = 124 := by unfold hitB at hh; rw [Bool.and_eq_true, decide_eq_true_eq, decide_eq_true_eq] at hh; exact hh.2
          have HHE := Lib.hid (And.intro hlt hbe)
          have HPR4 : Hid (Pre P s (e + 1) op (max mo (op + d)) w4) := Lib.hid ⟨hp4, HPK.out.chg J4.out.ch, op0, by omega, by omega, by omega, by omega⟩
          obtain ⟨g, cap, hv, hb, hg, hn, hc⟩ := J4.out.ql.formG hl0
          subst hv
          have r2 : ∀ W, RQ W rq 124 0 (.slice (some ⟨g, 0, none⟩) l.length cap) → W.cell? ⟨rq, 2, none⟩ = some (.slice (some ⟨g, 0, none⟩) l.length cap) := fun W hW => hW.cells.2.2.1
          have rq4 := J4.out.rqs
          have hgq : g ≠ rq := (J4.out.nb g rfl).2
          have HGQ := Lib.hid hgq
          have hzw : w.heap.size ≤ w4.heap.size := J4.out.ch.size
          have hqP : P + 1 ≤ rq := by have := J4.out.hq; omega
          have HQP := Lib.hid hqP
          have HLE := Lib.hid hle
          clear hp4 hc4 hh hlt hbe hgq hb hc hqP
          obtain ⟨_, _, z2, fz⟩ := rq4.cells
          have v2 := fz 2
          clear fz r2
          go_upto_region 3 with fail
          go_region_law (first | ((go_simp; refine (HPART.out (e + 1) op (max mo (op + d)) _ (by omega) (HPR4.out.below (by (repeat (first | with_reducible exact Below.refl _ _ | with_reducible exact below_regrown _ _ _ | with_reducible refine bel_step0 (by assumption) ?_ | with_reducible refine bel_alloc0 ?_ _ | with_reducible refine bel_regrown0 ?_ _ _ | with_reducible refine bel_regrown ?_ (by first | omega | (simp; done) | (simp; omega)) _ _ | with_reducible refine below_drewN ?_ _ | with_reducible refine Below.drew ?_ | with_reducible refine Below.alloc ?_ (by first | omega | (simp; done) | (simp; omega)) _ | with_reducible refine Below.setCell ?_ (by first | omega | (simp; done) | (simp; omega)) _ | with_reducible refine bel_step (by assumption) (by first | omega | (simp; done) | (simp; omega)) ?_ | with_reducible refine bel_grown (by assumption) (by first | omega | (simp; done) | (simp; omega)) (by first | omega | (simp; done) | (simp; omega)) ?_))))).mono ?_; rintro e5 w5 ⟨y, rfl, hc5, hres5⟩; have hc45 : Chg P (P + 1) w4 w5 := Chg.trans (by (repeat (first | with_reducible assumption | with_reducible exact Chg.refl _ _ _ | with_reducible refine Chg.drewQ ?_ | with_reducible refine Chg.allocQ ?_ _))) hc5; have J5 := Lib.hid (J4.out.chg hc45); have rq5 := J5.out.rqs; clear z2 v2; obtain ⟨_, _, z2, fz⟩ := rq5.cells; have v2 := fz 2; clear fz; have za := (rq5.allocQ (.cells #[.int .u8 (y).c, .int .i64 (y).n, .slice (y).A (y).m (y).k] 61)).cells.2.2.1; have HRES5 := Lib.hid hres5; have HC45 := Lib.hid hc45; have hz5 : w.heap.size ≤ w5.heap.size := Nat.le_trans hzw hc45.size; clear hc5 hres5 hc45)) | ((refine step_appQ _ (by rfl) (.tmp 24) (.tmp 27) (by rfl) w.heap.size _ l (by rfl) (J5.out.ql.below (by (repeat (first | with_reducible exact Below.refl _ _ | with_reducible exact below_regrown _ _ _ | with_reducible refine bel_step0 (by assumption) ?_ | with_reducible refine bel_alloc0 ?_ _ | with_reducible refine bel_regrown0 ?_ _ _ | with_reducible refine bel_regrown ?_ (by first | omega | (simp; done) | (simp; omega)) _ _ | with_reducible refine below_drewN ?_ _ | with_reducible refine Below.drew ?_ | with_reducible refine Below.alloc ?_ (by first | omega | (simp; done) | (simp; omega)) _ | with_reducible refine Below.setCell ?_ (by first | omega | (simp; done) | (simp; omega)) _ | with_reducible refine bel_step (by assumption) (by first | omega | (simp; done) | (simp; omega)) ?_ | with_reducible refine bel_grown (by assumption) (by first | omega | (simp; done) | (simp; omega)) (by first | omega | (simp; done) | (simp; omega)) ?_)))) (by simp; omega) w5.heap.size y (by rfl) (by simp) (cell_new _ _ _ _ _ rfl) (cell_new _ _ _ _ _ rfl) (cell_new _ _ _ _ _ rfl) (by have := HLE.out; omega) ?_; intro v6 w6 ho6 hg6 hx6; obtain ⟨A6, m6, k6, rfl⟩ := res_slice ho6; have rq6 : RQ w6 rq 124 0 (.slice (some ⟨g, 0, none⟩) l.length cap) := World.rowIs.of_block rq5 ((hg6.block rq (by have := rq5.lt; simp; omega) (by simp [Value.ownBlock]; exact HGQ.out.symm)).trans (Below.block (by (repeat (first | with_reducible exact Below.refl _ _ | with_reducible exact below_regrown _ _ _ | with_reducible refine bel_step0 (by assumption) ?_ | with_reducible refine bel_alloc0 ?_ _ | with_reducible refine bel_regrown0 ?_ _ _ | with_reducible refine bel_regrown ?_ (by first | omega | (simp; done) | (simp; omega)) _ _ | with_reducible refine below_drewN ?_ _ | with_reducible refine Below.drew ?_ | with_reducible refine Below.alloc ?_ (by first | omega | (simp; done) | (simp; omega)) _ | with_reducible refine Below.setCell ?_ (by first | omega | (simp; done) | (simp; omega)) _ | with_reducible refine bel_step (by assumption) (by first | omega | (simp; done) | (simp; omega)) ?_ | with_reducible refine bel_grown (by assumption) (by first | omega | (simp; done) | (simp; omega)) (by first | omega | (simp; done) | (simp; omega)) ?_))) rq rq5.lt)); clear z2 v2; obtain ⟨_, _, z2, fz⟩ := rq6.cells; have v2 := fz 2; have H6 := Lib.hid (And.intro ho6 (And.intro hg6 hx6)); clear ho6 hg6 hx6 fz)))
          all_goals
            go_wp2
            have B51 : Below w5.heap.size w5 (w5.alloc (.cells #[.int .u8 (y).c, .int .i64 (y).n, .slice (y).A (y).m (y).k] 61)) := (Below.refl _ _).alloc (Nat.le_refl _) _
            have A0 := J5.out.app0 B51 H6.out.1 H6.out.2.1
            obtain ⟨k', rfl⟩ : ∃ k', k = k' + 1 := ⟨k - 1, by omega⟩
            have hrl := J4.out.rrs.lt
            have hql := J4.out.rqs.lt
            rcases HRES5.out with ⟨o5, ho5, htr5, hps5, q1, q2, q3⟩ | ⟨hno5, a5, mo5, q1, q2, q3, q4, hps5⟩
            · have hpf := A0.2.2.2 _ _ _ _ _ hps5
              have hjw := J5.out.app B51 H6.out.1 H6.out.2.1 H6.out.2.2 hl0 (q := o5.q) (TR.mono (fun g' hg' => by
                obtain ⟨hg1, hg2⟩ := hg'
                have hg3 : w4.heap.size ≤ g' := hg1
                exact ⟨by omega, hg2, by omega, by omega, by simp [Value.ownBlock]; omega⟩) _ _ (TR.bnd _ _ htr5))
              have hmx : max (max mo (op + d)) (op + o5.d) = max mo (op + ((max d o5.d : Nat) : Int)) := by omega
              rw [hmx] at hpf
              refine ⟨⟨_, .inl ⟨l ++ [y], L ++ [o5.q], max d o5.d, o5.e, k', hjw, by simp, by rw [List.length_append, List.length_singleton]; have := HLE.out; omega, hpf, by omega, q2, by omega, by omega, ?_⟩⟩, ?_⟩
              · rw [← HL.out, loopQ_some HHE.out ho5]
              · rw [hpf.at_, HAT.out]; have := HHE.out.1; omega
            · have hpf := A0.2.2.2 _ _ _ _ _ hps5
              refine ⟨⟨_, .inr ⟨⟨A0.1, A0.2.1, A0.2.2.1, J4.out.hr, J4.out.hp, ⟨a5, mo5, by omega, q2, by omega, q4, hpf⟩, _, _, _, rfl⟩, ?_⟩⟩, ?_⟩
              · rw [HPJ.out, ← HL.out, loopQ_none HHE.out hno5]; rfl
              · rw [hpf.at_, HAT.out]; have := HHE.out.1; omega
      · obtain ⟨a', mo', h1, h2, h3, h4, h5⟩ := hF.ps
        have c2 := h5.c2
        obtain ⟨x0, x1, x2, fx⟩ := hF.rqs.cells
        obtain ⟨y0, y1, y2, fy⟩ := hF.rrs.cells
        have v0 := fy 0; have v1 := fy 1; have v2 := fy 2
        have hF2 := hF.fin
        have HFF := Lib.hid (And.intro hno (And.intro hF2 (And.intro h5 hF)))
        obtain ⟨A, m, kk, hv⟩ := hF.sl
        subst hv
        clear fx fy hF2 h5
        go_wp2
        go_light; refine bodyPost_ret (by simp (maxDischargeDepth := 3) [results, Tryz.results83, go_sem, *]; try rfl) rfl ?_
        have hPr : P ≠ r := by have := HFF.out.2.2.2.hr; have := HFF.out.2.2.2.hp; omega
        exact ⟨⟨124, 0, A, m, kk⟩, rfl, HFF.out.2.1, .inr ⟨HFF.out.1, a', mo', h1, h2, h3, h4, HFF.out.2.2.1.farQ hPr _ _ _⟩⟩
  · have F3 : JF P r rq 124 s a op mo w w3 (.slice (some ⟨w2.heap.size, 0, none⟩) 1 1) :=
      ⟨R2.out.below B3, Q3, HCH.out.trans (Chg.of_below B3), by rw [HR.out]; exact Nat.le_refl _, PW, by
        obtain ⟨a', mo', h1, h2, h3, h4, h5⟩ := hps
        exact ⟨a', mo', h1, h2, h3, h4, h5.below B3⟩, _, _, _, rfl⟩
    have F3 := Lib.hid F3
    have HNO := Lib.hid (pJ_no (z := s.size) (b := bN s) (sgn := 124) (or_ := true) hno)
    clear HW3 hps L3 Q3 B3 R2 HCH HRES hno
    go_loopw [] (fun wr => JF P r rq 124 s a op mo w wr (.slice (some ⟨w2.heap.size, 0, none⟩) 1 1)) (fun wr => s.size + 1 - atP P wr)
    case atStart => exact F3.out
    case round =>
      clear F3
      have hno := HNO.out
      obtain ⟨a', mo', h1, h2, h3, h4, h5⟩ := hrel.ps
      have c2 := h5.c2
      obtain ⟨x0, x1, x2, fx⟩ := hrel.rqs.cells
      obtain ⟨y0, y1, y2, fy⟩ := hrel.rrs.cells
      have v0 := fy 0; have v1 := fy 1; have v2 := fy 2
      have hF2 := hrel.fin
      have HFF := Lib.hid (And.intro hno (And.intro hF2 (And.intro h5 hrel)))
      clear fx fy hF2 h5
      go_wp2
      go_light; refine bodyPost_ret (by simp (maxDischargeDepth := 3) [results, Tryz.results83, go_sem, *]; try rfl) rfl ?_
      have hPr : P ≠ r := by have := HFF.out.2.2.2.hr; have := HFF.out.2.2.2.hp; omega
      exact ⟨⟨124, 0, some ⟨w2.heap.size, 0, none⟩, 1, 1⟩, rfl, HFF.out.2.1, .inr ⟨HFF.out.1, a', mo', h1, h2, h3, h4, HFF.out.2.2.1.farQ hPr _ _ _⟩⟩
end Go.Proofs.YtjmfkenhnfdbjaaGreatDoor
