/- The parser: a factor. No condition but those stated. -/
import Derived.Test.YtjmfkenhnfdbjaaGreatDoorQyK
namespace Go.Proofs.YtjmfkenhnfdbjaaGreatDoor
set_option linter.unusedVariables false
set_option linter.unusedSimpArgs false
open Go.RowKit Go.Sort
theorem pFac_33 {s : ByteArray} {num : Nat → Option (Int × Nat)} {K a : Nat} (h : hitB s a 33 = true) : pFac s.size (bN s) num (K + 1) a = match pFac s.size (bN s) num K (a + 1) with
    | none => none
    | some o => some ⟨.neg o.q, o.d, o.e⟩ := by
  unfold hitB at h
  rw [Bool.and_eq_true, decide_eq_true_eq, decide_eq_true_eq] at h
  rw [pFac, if_pos h]
  cases pFac s.size (bN s) num K (a + 1) <;> rfl
theorem hit_no {s : ByteArray} {a c : Nat} (h : hitB s a c = false) : ¬ (a < s.size ∧ bN s a = c) := fun hh => by
  unfold hitB at h
  rw [decide_eq_true hh.1, decide_eq_true hh.2] at h
  cases h
theorem pFac_40 {s : ByteArray} {num : Nat → Option (Int × Nat)} {K a : Nat} (h0 : hitB s a 33 = false) (h : hitB s a 40 = true) : pFac s.size (bN s) num (K + 1) a = match pQue s.size (bN s) num K (a + 1) with
    | none => none
    | some o => if hitB s o.e 41 then some ⟨o.q, o.d + 1, o.e + 1⟩ else none := by
  unfold hitB at h
  rw [Bool.and_eq_true, decide_eq_true_eq, decide_eq_true_eq] at h
  rw [pFac, if_neg (hit_no h0), if_pos h]
  show (match pQue s.size (bN s) num K (a + 1) with
    | none => none
    | some o => if o.e < s.size ∧ bN s o.e = 41 then some _ else none) = _
  cases pQue s.size (bN s) num K (a + 1) with
  | none => rfl
  | some o =>
    simp only
    unfold hitB
    by_cases e : o.e < s.size ∧ bN s o.e = 41
    · rw [if_pos e, decide_eq_true e.1, decide_eq_true e.2]; rfl
    · rw [if_neg e, if_neg]
      rw [Bool.and_eq_true, decide_eq_true_eq, decide_eq_true_eq]; exact e
theorem pFac_tst {s : ByteArray} {num : Nat → Option (Int × Nat)} {K a : Nat} (h0 : hitB s a 33 = false) (h : hitB s a 40 = false) : pFac s.size (bN s) num (K + 1) a = tstQ s.size (bN s) num a := by
  rw [pFac, if_neg (hit_no h0), if_neg (hit_no h)]
/-- A negation laid into the block r. -/
theorem Res.neg {P : Nat} {s : ByteArray} {num : Nat → Option (Int × Nat)} {K a : Nat} {op mo : Int} {w w2 w3 : World} {x : Tq} {r : Nat} (hr : r = w.heap.size) (hp : P < w.heap.size) (c12 : Chg P (P + 1) w w2) (hsz : w.heap.size + 1 ≤ w2.heap.size)
    (h33 : hitB s a 33 = true) (h : Res P s (pFac s.size (bN s) num K) (a + 1) op mo w2 w3 x) :
    Res P s (pFac s.size (bN s) num (K + 1)) a op mo w ((((w3.alloc (.cells #[.int .u8 (x).c, .int .i64 (x).n, .slice (x).A (x).m (x).k] 61)).setCell ⟨r, 0, none⟩ (.int .u8 33)).setCell ⟨r, 1, none⟩ (.int .i64 0)).setCell ⟨r, 2, none⟩ (.slice (some ⟨w3.heap.size, 0, none⟩) 1 1)) ⟨33, 0, some ⟨w3.heap.size, 0, none⟩, 1, 1⟩ := by
  obtain ⟨h1, h2⟩ := h
  have hz := h1.size
  have hA : Below w3.heap.size w3 (w3.alloc (.cells #[.int .u8 (x).c, .int .i64 (x).n, .slice (x).A (x).m (x).k] 61)) := (Below.refl _ _).alloc (Nat.le_refl _) _
  refine ⟨chg_set3 ((c12.trans h1).allocQ _) (by omega) _ _ _, ?_⟩
  rcases h2 with ⟨o, h3, h4, h5, h6, h7, h8⟩ | ⟨h3, a', mo', h4, h5, h6, h7, h8⟩
  · refine .inl ⟨⟨.neg o.q, o.d, o.e⟩, by rw [pFac_33 h33, h3], ?_, (h5.below hA).farQ (by omega) _ _ _, by simp only; omega, h7, by simp only; omega⟩
    refine tr_set3 (D := fun g => w.heap.size + 1 ≤ g) ?_ (fun g hg => ⟨by omega, by omega⟩) _ _ _
    exact ⟨w3.heap.size, 1, x, rfl, by omega, by simp, ⟨cell_new _ _ _ _ _ rfl, cell_new _ _ _ _ _ rfl, cell_new _ _ _ _ _ rfl⟩, TR.mono (fun g hg => by omega) _ _ (TR.frame (fun g hg hl => hA.block g hl) hA.size _ _ h4)⟩
  · exact .inr ⟨by rw [pFac_33 h33, h3], a', mo', by omega, h5, h6, h7, (h8.below hA).farQ (by omega) _ _ _⟩
set_option maxRecDepth 100000 in
set_option maxHeartbeats 16000000 in
theorem C_factor (P : Nat) (s : ByteArray) (hs : s.size ≤ 1048576) : ∀ (K a : Nat) (op mo : Int) (w : World), s.size < K + a → Pre P s a op mo w →
    Calls Tryz.prog 95 #[.pointer (some ⟨P, 0, none⟩)] w fun e w' => ∃ x : Tq, e = .returned (.agg #[.int .u8 (x).c, .int .i64 (x).n, .slice (x).A (x).m (x).k]) ∧ Res P s (pFac s.size (bN s) (numA s) K) a op mo w w' x := by
  intro K
  induction K with
  | zero => intro a op mo w hK h; have := h.as_; omega
  | succ K ih =>
    intro a op mo w hK h
    have HI := Lib.hid ih
    clear ih
    obtain ⟨r, hr⟩ : ∃ r, r = w.heap.size := ⟨_, rfl⟩
    obtain ⟨w1, hw1⟩ : ∃ ww, ww = w.alloc (.cells #[.int .u8 0, .int .i64 0, .slice none 0 0] 61) := ⟨_, rfl⟩
    have R1 : RQ w1 r 0 0 (.slice none 0 0) := by rw [hw1, hr]; exact RQ.new w
    have B1 : Below w.heap.size w w1 := by rw [hw1]; exact (Below.refl _ _).alloc (Nat.le_refl _) _
    have Z1 : w1.heap.size = w.heap.size + 1 := by rw [hw1]; simp
    have HW := Lib.hid hw1.symm
    have HR := Lib.hid hr
    have PW := h.ps.lt
    have H1 := Lib.hid (h.below B1)
    clear hw1 hr
    have c2 := H1.out.ps.c2
    have has := h.as_
    have hop := h.opa
    have hop0 := h.op0
    have hopm := h.opm
    have hmos := h.mos
    clear h
    go_enter Tryz.func95, Tryz.ntmps95
    go_upto_region 1 with fail
    rw [HW.out, ← HR.out]
    go_wp2_with fail
    refine (C_sees P s a 33 false op mo w1 H1.out.ps hs has).mono ?_; rintro e' w2 ⟨rfl, hp2, hc2⟩
    have R2 := Lib.hid (R1.chg hc2 (.inr (by rw [HR.out]; omega)))
    have C2 := Lib.hid ((Chg.of_below B1).trans hc2)
    have hz2 := hc2.size
    have PK2 := Lib.hid (H1.out.pk.chg hc2)
    clear HW R1 B1 hc2 c2 H1
    cases h33 : hitB s a 33
    · rw [h33] at hp2
      have hp2' : PS w2 P s a false op mo := hp2
      have H33 := Lib.hid h33
      clear hp2 h33
      go_wp2_with fail
      refine (C_sees P s a 40 false op mo w2 hp2' hs has).mono ?_; rintro e' w3 ⟨rfl, hp3, hc3⟩
      have R3 := Lib.hid (R2.out.chg hc3 (.inr (by rw [HR.out]; omega)))
      have C3 := Lib.hid (C2.out.trans hc3)
      have hz3 := hc3.size
      have PK3 := Lib.hid (PK2.out.chg hc3)
      clear hc3 R2 C2 PK2 hp2'
      cases h40 : hitB s a 40
      · rw [h40] at hp3
        have hp3' : PS w3 P s a false op mo := hp3
        have H40 := Lib.hid h40
        clear hp3 h40
        go_wp2_with fail
        refine (C_test P s a op mo w3 hp3' hs has PK3.out).mono ?_; rintro e' w4 ⟨hc4, hh⟩
        have R4 := Lib.hid (R3.out.chg hc4 (.inr (by rw [HR.out]; omega)))
        obtain ⟨y0, y1, y2, fy⟩ := R4.out.cells
        have v0 := fy 0; have v1 := fy 1; have v2 := fy 2
        have HC4 := Lib.hid hc4
        clear fy hc4 R3 PK3 hp3'
        rcases hh with ⟨c, n, a', ht, rfl, hp4⟩ | ⟨c, n, a', ht, ⟨q1, q2⟩, rfl, hp4⟩
        · have hte := tst_end ht
          have hres : Res P s (pFac s.size (bN s) (numA s) (K + 1)) a op mo w3 w4 ⟨(c : Int), n, none, 0, 0⟩ :=
            ⟨HC4.out, .inl ⟨_, (pFac_tst H33.out H40.out).trans ht, rfl, (by have hm : max mo (op + ((0 : Nat) : Int)) = mo := (by omega); rw [hm]; exact hp4), hte.1, hte.2.1, by have := hte.1; simp only at this ⊢; omega⟩⟩
          have HF := Lib.hid (Res.store HR.out PW C3.out (by omega) hres)
          clear hres hp4 ht hte
          go_wp2
          go_light; refine bodyPost_ret (by simp (maxDischargeDepth := 3) [results, Tryz.results95, go_sem, *]; try rfl) rfl ?_
          exact ⟨⟨(c : Int), n, none, 0, 0⟩, rfl, HF.out⟩
        · have hres : Res P s (pFac s.size (bN s) (numA s) (K + 1)) a op mo w3 w4 ⟨c, n, none, 0, 0⟩ :=
            ⟨HC4.out, .inr ⟨(pFac_tst H33.out H40.out).trans ht, a', mo, q1, q2, Int.le_refl _, hmos, hp4⟩⟩
          have HF := Lib.hid (Res.store HR.out PW C3.out (by omega) hres)
          clear hres hp4 ht q1 q2
          go_wp2
          go_light; refine bodyPost_ret (by simp (maxDischargeDepth := 3) [results, Tryz.results95, go_sem, *]; try rfl) rfl ?_
          exact ⟨⟨c, n, none, 0, 0⟩, rfl, HF.out⟩
      · rw [h40] at hp3
        have hp3' : PS w3 P s (a + 1) false op mo := hp3
        have has1 : a + 1 ≤ s.size := by unfold hitB at h40; rw [Bool.and_eq_true, decide_eq_true_eq] at h40; exact h40.1
        have H40 := Lib.hid h40
        have z3 := hp3'.c3
        have f3 := hp3'.fz 3
        have P4 := Lib.hid (hp3'.set3 (op + 1))
        have C4 := Lib.hid (C3.out.setCell (p := ⟨P, 3, none⟩) (Nat.le_refl _) (Nat.lt_succ_self _) (.int .i64 (op + 1)))
        have R4 := Lib.hid (show RQ (w3.setCell ⟨P, 3, none⟩ (.int .i64 (op + 1))) r 0 0 (.slice none 0 0) from World.rowIs.setOther R3.out (a := ⟨P, 3, none⟩) (by simp; rw [HR.out]; omega) _)
        have PK4 := Lib.hid (PK3.out.chg (show Chg P (P + 1) w3 (w3.setCell ⟨P, 3, none⟩ (.int .i64 (op + 1))) from (Chg.refl _ _ _).setCell (p := ⟨P, 3, none⟩) (Nat.le_refl _) (Nat.lt_succ_self _) _))
        have Z4 : (w3.setCell ⟨P, 3, none⟩ (.int .i64 (op + 1))).heap.size = w3.heap.size := by simp [World.setCell]
        clear hp3 h40 hp3' C3 R3 PK3
        go_upto_region 7 with fail
        obtain ⟨w4, hw4⟩ : ∃ ww, ww = w3.setCell ⟨P, 3, none⟩ (.int .i64 (op + 1)) := ⟨_, rfl⟩
        rw [← hw4] at P4 C4 R4 PK4 Z4 ⊢
        clear hw4 z3 f3
        go_cut [] (fun wx => PS wx P s (a + 1) false (op + 1) (max mo (op + 1)) ∧ Chg P (P + 1) w4 wx)
        case first =>
          have z3 := P4.out.c3
          have z4 := P4.out.c4
          have f4 := P4.out.fz 4
          have P5 := Lib.hid (P4.out.set4 (max mo (op + 1)))
          go_region
          all_goals
            go_wp2
            go_meet
            exact ⟨P5.out.below (Below.refl _ _).drew, ((Chg.refl P (P + 1) w4).setCell (p := ⟨P, 4, none⟩) (Nat.le_refl _) (Nat.lt_succ_self _) _).drewQ⟩
        case rest =>
          rename World => w5
          obtain ⟨hp5, hc5⟩ := hcut
          have HPRE := Lib.hid (Pre.mk hp5 (PK4.out.chg hc5) (by omega) (by omega) (by omega) (by omega) has1)
          have C5 := Lib.hid (C4.out.trans hc5)
          have R5 := Lib.hid (R4.out.chg hc5 (.inr (by rw [HR.out]; omega)))
          have hz5 := hc5.size
          clear hp5 hc5 P4 C4 R4 PK4
          go_wp2_with fail
          refine (C_queryP P s (numA s) K hs (a + 1) (op + 1) (max mo (op + 1)) (fun a op mo w hK h => C_term P s (numA s) K hs a op mo HI.out w hK h) w5 (by omega) HPRE.out).mono ?_; rintro e' w6 ⟨x, rfl, hch, hres⟩
          have R6 := Lib.hid (R5.out.chg hch (.inr (by rw [HR.out]; omega)))
          have HC6 := Lib.hid hch
          have hz6 := hch.size
          have B7 : Below w6.heap.size w6 (w6.alloc (.cells #[.int .u8 (x).c, .int .i64 (x).n, .slice (x).A (x).m (x).k] 61)) := (Below.refl _ _).alloc (Nat.le_refl _) _
          have hop1 : op + 1 - 1 = op := by omega
          have T7 : RQ (w6.alloc (.cells #[.int .u8 (x).c, .int .i64 (x).n, .slice (x).A (x).m (x).k] 61)) w6.heap.size x.c x.n (.slice x.A x.m x.k) :=
            World.rowIs_alloc w6 _ 61 _ (fun i hi => by
              match i, hi with
              | 0, _ => rfl
              | 1, _ => rfl
              | 2, _ => rfl
              | n + 3, h => exact absurd h (by simp))
          have T7 := Lib.hid T7
          have R7 := Lib.hid (R6.out.below B7)
          have PK7 := Lib.hid ((HPRE.out.pk.chg hch).chg (Chg.of_below B7))
          have HB7 := Lib.hid B7
          have hP6 : P < w6.heap.size := by omega
          have hr6 : r < w6.heap.size := by rw [HR.out]; omega
          clear hch R5 R6 B7
          rcases hres with ⟨o, ho, htr, hps, q1, q2, q3⟩ | ⟨hno, a6, mo6, q1, q2, q3, q4, hps⟩
          · have hp7 := hps.below HB7.out
            have z3 := hps.c3
            have f3 := hps.fz 3
            have HTR := Lib.hid (And.intro ho htr)
            obtain ⟨w8, hw8⟩ : ∃ ww, ww = (w6.alloc (.cells #[.int .u8 (x).c, .int .i64 (x).n, .slice (x).A (x).m (x).k] 61)).setCell ⟨P, 3, none⟩ (.int .i64 op) := ⟨_, rfl⟩
            have HN8 := Lib.hid (show (w6.setCell ⟨P, 3, none⟩ (.int .i64 op)).alloc (.cells #[.int .u8 (x).c, .int .i64 (x).n, .slice (x).A (x).m (x).k] 61) = w8 by rw [hw8]; exact (World.setCell_alloc_past _ _ _ _ hP6).symm)
            have C8 := Lib.hid (show Chg P (P + 1) w6 w8 by rw [hw8]; exact (Chg.of_below (lo := P) (hi := P + 1) HB7.out).setCell (p := ⟨P, 3, none⟩) (Nat.le_refl _) (Nat.lt_succ_self _) (.int .i64 op))
            have R8 := Lib.hid (show RQ w8 r 0 0 (.slice none 0 0) by rw [hw8]; exact World.rowIs.setOther R7.out (a := ⟨P, 3, none⟩) (by simp; rw [HR.out]; omega) _)
            have T8 := Lib.hid (show RQ w8 w6.heap.size x.c x.n (.slice x.A x.m x.k) by rw [hw8]; exact World.rowIs.setOther T7.out (a := ⟨P, 3, none⟩) (by simp; omega) _)
            have hz8 : w8.heap.size = w6.heap.size + 1 := by rw [hw8]; simp [World.setCell]
            have P8 := Lib.hid (show PS w8 P s o.e false op _ by rw [hw8]; exact hp7.set3 op)
            have z2 := P8.out.c2
            clear hps hp7 htr ho R7 T7 PK7 hw8
            go_upto_region 10 with fail
            rw [HN8.out]
            clear HN8 z3 f3
            go_wp2_with fail
            refine (C_sees P s o.e 41 false op _ _ P8.out hs q2).mono ?_; rintro e' w9 ⟨rfl, hp9, hc9⟩
            have R9 := Lib.hid (R8.out.chg hc9 (.inr (by rw [HR.out]; omega)))
            have T9 := Lib.hid (T8.out.chg hc9 (.inr (by omega)))
            have C9 := Lib.hid (C8.out.trans hc9)
            have hz9 := hc9.size
            have y2 := hp9.c2
            have w2f := hp9.fz 2
            obtain ⟨x0, x1, x2, fx⟩ := T9.out.cells
            obtain ⟨y0, y1, y2', fy⟩ := R9.out.cells
            have v0 := fy 0; have v1 := fy 1; have v2 := fy 2
            clear z2 P8 R8 T8 C8 fx fy hc9
            obtain ⟨hb, hhb⟩ : ∃ b, hitB s o.e 41 = b := ⟨_, rfl⟩
            rw [hhb] at hp9 ⊢
            have hpf := pFac_40 (num := numA s) (K := K) H33.out H40.out
            rw [HTR.out.1] at hpf
            simp only [hhb] at hpf
            have c10 : Chg P (P + 1) w6 (w9.setCell ⟨P, 2, none⟩ (.bool (!hb))) := C9.out.setCell (p := ⟨P, 2, none⟩) (Nat.le_refl _) (Nat.lt_succ_self _) _
            have p10 := hp9.set2 (!hb)
            have hres : Res P s (pFac s.size (bN s) (numA s) (K + 1)) a op mo w5 (w9.setCell ⟨P, 2, none⟩ (.bool (!hb))) x := by
              refine ⟨HC6.out.trans c10, ?_⟩
              cases hb
              · exact .inr ⟨hpf, o.e, _, by omega, q2, by omega, by omega, p10⟩
              · have hm : max (max mo (op + 1)) (op + 1 + o.d) = max mo (op + ((o.d + 1 : Nat) : Int)) := by omega
                rw [hm] at p10
                have hlt : o.e < s.size := by unfold hitB at hhb; rw [Bool.and_eq_true, decide_eq_true_eq] at hhb; exact hhb.1
                exact .inl ⟨⟨o.q, o.d + 1, o.e + 1⟩, hpf, TR.frame (fun g hg hl => c10.block g hl (.inr (by omega))) c10.size _ _ HTR.out.2, p10, by simp only; omega, by simp only; omega, by simp only; omega⟩
            have HF := Lib.hid (Res.store HR.out PW C5.out (by omega) hres)
            have hrP : ¬ r = P := by rw [HR.out]; omega
            have hPr : ¬ P = r := fun h => hrP h.symm
            have htP : ¬ w6.heap.size = P := by omega
            have hPt : ¬ P = w6.heap.size := by omega
            clear hres c10 p10 hp9 hpf hhb HTR C9 R9 T9
            cases hb
            · go_wp2
              go_light; refine bodyPost_ret (by simp (maxDischargeDepth := 3) [results, Tryz.results95, go_sem, *]; try rfl) rfl ?_
              exact ⟨x, rfl, HF.out⟩
            · go_wp2
              go_light; refine bodyPost_ret (by simp (maxDischargeDepth := 3) [results, Tryz.results95, go_sem, *]; try rfl) rfl ?_
              exact ⟨x, rfl, HF.out⟩
          · have hp7 := hps.below HB7.out
            have z3 := hps.c3
            have f3 := hps.fz 3
            have HNO := Lib.hid hno
            obtain ⟨w8, hw8⟩ : ∃ ww, ww = (w6.alloc (.cells #[.int .u8 (x).c, .int .i64 (x).n, .slice (x).A (x).m (x).k] 61)).setCell ⟨P, 3, none⟩ (.int .i64 op) := ⟨_, rfl⟩
            have HN8 := Lib.hid (show (w6.setCell ⟨P, 3, none⟩ (.int .i64 op)).alloc (.cells #[.int .u8 (x).c, .int .i64 (x).n, .slice (x).A (x).m (x).k] 61) = w8 by rw [hw8]; exact (World.setCell_alloc_past _ _ _ _ hP6).symm)
            have C8 := Lib.hid (show Chg P (P + 1) w6 w8 by rw [hw8]; exact (Chg.of_below (lo := P) (hi := P + 1) HB7.out).setCell (p := ⟨P, 3, none⟩) (Nat.le_refl _) (Nat.lt_succ_self _) (.int .i64 op))
            have R8 := Lib.hid (show RQ w8 r 0 0 (.slice none 0 0) by rw [hw8]; exact World.rowIs.setOther R7.out (a := ⟨P, 3, none⟩) (by simp; rw [HR.out]; omega) _)
            have T8 := Lib.hid (show RQ w8 w6.heap.size x.c x.n (.slice x.A x.m x.k) by rw [hw8]; exact World.rowIs.setOther T7.out (a := ⟨P, 3, none⟩) (by simp; omega) _)
            have hz8 : w8.heap.size = w6.heap.size + 1 := by rw [hw8]; simp [World.setCell]
            have P8 := Lib.hid (show PS w8 P s a6 true op _ by rw [hw8]; exact hp7.set3 op)
            clear hps hp7 hno R7 T7 PK7 hw8
            go_upto_region 10 with fail
            rw [HN8.out]
            clear HN8 z3 f3
            have z2 := P8.out.c2
            have g2 := P8.out.fz 2
            have P9 := P8.out.set2 true
            have c10 : Chg P (P + 1) w6 (w8.setCell ⟨P, 2, none⟩ (.bool true)) := C8.out.setCell (p := ⟨P, 2, none⟩) (Nat.le_refl _) (Nat.lt_succ_self _) _
            obtain ⟨x0, x1, x2, fx⟩ := T8.out.cells
            obtain ⟨y0, y1, y2, fy⟩ := R8.out.cells
            have v0 := fy 0; have v1 := fy 1; have v2 := fy 2
            have hpf := pFac_40 (num := numA s) (K := K) H33.out H40.out
            rw [HNO.out] at hpf
            have hres : Res P s (pFac s.size (bN s) (numA s) (K + 1)) a op mo w5 (w8.setCell ⟨P, 2, none⟩ (.bool true)) x :=
              ⟨HC6.out.trans c10, .inr ⟨hpf, a6, mo6, by omega, q2, by omega, q4, P9⟩⟩
            have HF := Lib.hid (Res.store HR.out PW C5.out (by omega) hres)
            have hrP : ¬ r = P := by rw [HR.out]; omega
            have hPr : ¬ P = r := fun h => hrP h.symm
            have htP : ¬ w6.heap.size = P := by omega
            have hPt : ¬ P = w6.heap.size := by omega
            clear hres c10 P9 hpf fx fy
            go_wp2
            go_light; refine bodyPost_ret (by simp (maxDischargeDepth := 3) [results, Tryz.results95, go_sem, *]; try rfl) rfl ?_
            exact ⟨x, rfl, HF.out⟩
    · rw [h33] at hp2
      have hp2' : PS w2 P s (a + 1) false op mo := hp2
      have has1 : a + 1 ≤ s.size := by unfold hitB at h33; rw [Bool.and_eq_true, decide_eq_true_eq] at h33; exact h33.1
      have H33 := Lib.hid h33
      have HPRE := Lib.hid (Pre.mk hp2' PK2.out (by omega) (by omega) (by omega) (by omega) has1)
      clear hp2 h33 hp2'
      go_wp2_with fail
      refine (HI.out (a + 1) op mo w2 (by omega) HPRE.out).mono ?_; rintro e' w3 ⟨x, rfl, hres⟩
      have hch := hres.1
      have hz3 := hch.size
      obtain ⟨y0, y1, y2, fy⟩ := ((R2.out.chg hch (.inr (by rw [HR.out]; omega))).allocQ (.cells #[.int .u8 (x).c, .int .i64 (x).n, .slice (x).A (x).m (x).k] 61)).cells
      have v0 := fy 0; have v1 := fy 1; have v2 := fy 2
      have HF := Lib.hid (Res.neg HR.out PW C2.out (by omega) H33.out hres)
      clear hres hch fy R2 C2 PK2
      go_wp2
      go_light; refine bodyPost_ret (by simp (maxDischargeDepth := 3) [results, Tryz.results95, go_sem, *]; try rfl) rfl ?_
      exact ⟨⟨33, 0, some ⟨w3.heap.size, 0, none⟩, 1, 1⟩, rfl, HF.out⟩
end Go.Proofs.YtjmfkenhnfdbjaaGreatDoor
