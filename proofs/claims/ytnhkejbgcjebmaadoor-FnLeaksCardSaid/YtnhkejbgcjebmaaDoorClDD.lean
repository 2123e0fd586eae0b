/- A clue that is drawn, and what the laws on clues draw. No condition but those stated. -/
import Derived.Test.YtnhkejbgcjebmaaDoorClDC
import Derived.Deep.CutBlock
namespace Go.Proofs.YtnhkejbgcjebmaaDoor
set_option linter.unusedVariables false
set_option linter.unusedSimpArgs false
open Go.RowKit Go.Sort
set_option maxRecDepth 100000 in
set_option maxHeartbeats 4000000 in
theorem C_clue (B m base top : Nat) (A : Option Addr) (n cap : Nat) (xs : List ByteArray) (w : World) (hcu : Cu w B m) (hm : m ≤ 800000) (hl : LWd base top w A n cap xs) (htop : top ≤ w.heap.size) (hB : B < base) :
    Calls Tryd.prog 75 #[.pointer (some ⟨B, 0, none⟩), .slice A n cap] w fun e w' => ∃ (a b : Int) (s t : ByteArray), e = .returned (.agg #[.int .i64 a, .int .i64 b, .string s, .string t]) ∧ i64B a = true ∧ i64B b = true ∧ sh20 s = true ∧ sh20 t = true ∧ Cu w' B (m + 20) ∧ w.grownBy w' (some B) := by
  have hlt := hcu.lt
  obtain ⟨g0, hg0⟩ : ∃ g, g = w.heap.size := ⟨_, rfl⟩
  obtain ⟨w0, hw0⟩ : ∃ w0, w0 = w.alloc (.cells #[.int .i64 0, .int .i64 0, .string (⟨#[]⟩ : ByteArray), .string (⟨#[]⟩ : ByteArray)] 29) := ⟨_, rfl⟩
  have hbw : Below w.heap.size w w0 := by rw [hw0]; (repeat (first | with_reducible exact Below.refl _ _ | with_reducible exact below_regrown _ _ _ | with_reducible refine bel_step0 (by assumption) ?_ | with_reducible refine bel_alloc0 ?_ _ | with_reducible refine bel_regrown0 ?_ _ _ | with_reducible refine bel_regrown ?_ (by first | omega | (simp; done) | (simp; omega)) _ _ | with_reducible refine below_drewN ?_ _ | with_reducible refine Below.drew ?_ | with_reducible refine Below.alloc ?_ (by first | omega | (simp; done) | (simp; omega)) _ | with_reducible refine Below.setCell ?_ (by first | omega | (simp; done) | (simp; omega)) _ | with_reducible refine bel_step (by assumption) (by first | omega | (simp; done) | (simp; omega)) ?_ | with_reducible refine bel_grown (by assumption) (by first | omega | (simp; done) | (simp; omega)) (by first | omega | (simp; done) | (simp; omega)) ?_))
  have r00 : w0.rowIs g0 29 4 (c4 0 0 (⟨#[]⟩ : ByteArray) (⟨#[]⟩ : ByteArray)) := by rw [hw0, hg0]; exact row4_alloc w _ 0 0 _ _
  have cu0 := hcu.below hbw
  have l0 := hl.below hbw
  have HW0 := Lib.hid hw0.symm
  have HZ0 := Lib.hid (show w0.heap.size = g0 + 1 by rw [hw0, hg0]; simp)
  have HG0 := Lib.hid hg0.symm
  have HX := Lib.hid (And.intro hbw (And.intro r00 (And.intro cu0 l0)))
  have hBg : B < g0 := by omega
  have hg0w : w.heap.size ≤ g0 := by omega
  clear hw0 hbw r00 cu0 hcu hg0 hlt hl l0
  go_enter Tryd.func75, Tryd.ntmps75
  go_wp2_with fail
  rw [HW0.out, HG0.out]
  refine (C_amongLc B m _ 6 6 _ w0 _ HZ0.out HX.out.2.2.1 (by omega) (by omega) (by decide) (by omega) i64B (by decide)).mono ?_; rintro e w1 ⟨a, rfl, ha, cu1, hb1⟩
  have hc1 := Chg.of_grown hb1
  have X1 := Lib.hid (And.intro ((Chg.of_below HX.out.1).trans hc1) (And.intro (row_chg HX.out.2.1 hc1 (.inr hBg)) (HX.out.2.2.2.chg hc1 (by omega))))
  have z1 := hc1.size
  have z0 := HZ0.out
  have hz1 : g0 + 1 ≤ w1.heap.size := by omega
  clear hc1 hb1 HX HZ0 HG0 HW0 z0 z1
  go_wp2_with fail
  refine (C_amongLc B (m + 1) _ 7 7 _ w1 _ (by rfl) cu1 (by omega) (by omega) (by decide) (by omega) i64B (by decide)).mono ?_; rintro e w2 ⟨b, rfl, hb, cu2, hb2⟩
  have hc2 := Chg.of_grown hb2
  obtain ⟨gx, hgx⟩ : ∃ g, g = w2.heap.size := ⟨_, rfl⟩
  obtain ⟨w3, hw3⟩ : ∃ w3, w3 = w2.alloc (.cells #[.int .i64 a, .int .i64 b, .string (⟨#[]⟩ : ByteArray), .string (⟨#[]⟩ : ByteArray)] 29) := ⟨_, rfl⟩
  have C3 : CB B (m + 2) g0 gx w w3 a b (⟨#[]⟩ : ByteArray) (⟨#[]⟩ : ByteArray) := by
    have z2 := hc2.size
    rw [hw3]
    exact ⟨cu2.alloc _, (X1.out.1.trans hc2).alloc _, row_alloc (row_chg X1.out.2.1 hc2 (.inr hBg)) _, by rw [hgx]; exact row4_alloc w2 _ a b _ _, hg0w, hBg, by omega⟩
  have L3 : LWd base top w3 A n cap xs := by
    rw [hw3]
    exact (X1.out.2.2.chg hc2 (by omega)).below ((Below.refl _ _).alloc (Nat.le_refl _) _)
  have HI := Lib.hid (And.intro ha (And.intro hb trivial))
  have C3 := Lib.hid C3
  have L3 := Lib.hid L3
  have HW3 := Lib.hid hw3.symm
  have HGX := Lib.hid hgx.symm
  clear hw3 hgx hc2 hb2 cu2 cu1 X1 ha hb hz1
  go_upto_region 2 with fail
  rw [HW3.out, HGX.out]
  clear HW3 HGX
  go_wp2_with fail
  refine (C_one B _ 3 w3 C3.out.cu (by omega) (by omega) (by omega)).mono ?_; rintro e w4 ⟨q, rfl, cu4, hb4⟩
  have C4 := Lib.hid (C3.out.step (Chg.of_grown hb4) cu4)
  have L4 := Lib.hid (L3.out.chg (Chg.of_grown hb4) (by omega))
  clear cu4 hb4 C3 L3
  go_upto_if 14 with fail
  go_cut [15] (fun s15 wx => MeetC B (m + 6) g0 gx base top A n cap xs w wx a b)
  case first =>
    as_aux_lemma =>
      have hgt : top ≤ gx := by have := C4.out.hw; have := C4.out.lx; omega
      cases q
      · go_wp2_with fail
        go_meet
        exact ⟨_, _, C4.out.mono (by omega), L4.out, by rfl, by rfl⟩
      · have hR := C4.out
        obtain ⟨x0, x1, x2, x3, f0, f1, f2, f3, y0, y1, y2, y3, e0, e1, e2, e3⟩ := CB.cells hR; have hgn := CB.lx hR; have hgl := (CB.rx hR).lt; have hg0l := (CB.r0 hR).lt; have hgB := CB.l0 hR; have hne := Nat.ne_of_lt hgn; have hne' := hne.symm
        clear hR
        clear x0 x1 x2 x3 f0 f1 f2 f3 y0 y1 y2 y3 e0 e1 e2 e3 hgn hgl hg0l hgB hne hne'
        go_wp2_with fail
        refine (L4.out.known C4.out.cu (by omega) hB).mono ?_; rintro e w5 ⟨y, rfl, hy, cu5, hb5⟩
        have C5 := Lib.hid (C4.out.step (Chg.of_grown hb5) cu5)
        have L5 := Lib.hid (L4.out.chg (Chg.of_grown hb5) (by omega))
        have HY := Lib.hid hy
        clear cu5 hb5 hy
        have hR := C5.out
        obtain ⟨x0, x1, x2, x3, f0, f1, f2, f3, y0, y1, y2, y3, e0, e1, e2, e3⟩ := CB.cells hR; have hgn := CB.lx hR; have hgl := (CB.rx hR).lt; have hg0l := (CB.r0 hR).lt; have hgB := CB.l0 hR; have hne := Nat.ne_of_lt hgn; have hne' := hne.symm
        clear hR
        go_wp2_with fail
        go_meet
        exact ⟨y, _, (C5.out.set2 y).mono (by omega), L5.out.setFar hgt _, HY.out, by rfl⟩
  case rest =>
    as_aux_lemma =>
      rename World => w6
      obtain ⟨s, t, c6, l6, hs, ht⟩ := hcut
      have C6 := Lib.hid c6
      have L6 := Lib.hid l6
      have HT := Lib.hid (And.intro hs ht)
      clear c6 l6 hs ht C4 L4
      go_wp2_with fail
      refine (C_one B _ 3 w6 C6.out.cu (by omega) (by omega) (by omega)).mono ?_; rintro e w7 ⟨q2, rfl, cu7, hb7⟩
      have C7 := Lib.hid (C6.out.step (Chg.of_grown hb7) cu7)
      have L7 := Lib.hid (L6.out.chg (Chg.of_grown hb7) (by omega))
      clear cu7 hb7 C6 L6
      go_upto_if 20 with fail
      go_cut [21] (fun s21 wx => MeetC B (m + 11) g0 gx base top A n cap xs w wx a b)
      case first =>
        as_aux_lemma =>
          have hgt : top ≤ gx := by have := C7.out.hw; have := C7.out.lx; omega
          cases q2
          · go_wp2_with fail
            go_meet
            exact ⟨_, _, C7.out.mono (by omega), L7.out, HT.out.1, HT.out.2⟩
          · go_wp2_with fail
            refine (L7.out.known C7.out.cu (by omega) hB).mono ?_; rintro e w8 ⟨y, rfl, hy, cu8, hb8⟩
            have C8 := Lib.hid (C7.out.step (Chg.of_grown hb8) cu8)
            have L8 := Lib.hid (L7.out.chg (Chg.of_grown hb8) (by omega))
            have HY := Lib.hid hy
            clear cu8 hb8 hy
            have hR := C8.out
            obtain ⟨x0, x1, x2, x3, f0, f1, f2, f3, y0, y1, y2, y3, e0, e1, e2, e3⟩ := CB.cells hR; have hgn := CB.lx hR; have hgl := (CB.rx hR).lt; have hg0l := (CB.r0 hR).lt; have hgB := CB.l0 hR; have hne := Nat.ne_of_lt hgn; have hne' := hne.symm
            clear hR
            go_wp2_with fail
            go_meet
            exact ⟨_, y, (C8.out.set3 y).mono (by omega), L8.out.setFar hgt _, HT.out.1, HY.out⟩
      case rest =>
        as_aux_lemma =>
          rename World => w9
          clear HT
          obtain ⟨s2, t2, c9, l9, hs, ht⟩ := hcut
          have C9 := Lib.hid c9
          have HT := Lib.hid (And.intro hs ht)
          clear c9 l9 hs ht C7 L7
          go_wp2_with fail
          refine (C_pick B _ 40 w9 C9.out.cu (by omega) (by omega) (by omega)).mono ?_; rintro e w10 ⟨r, rfl, ⟨hr0, hr1⟩, cu10, hb10⟩
          have C10 := Lib.hid (C9.out.step (Chg.of_grown hb10) cu10)
          clear cu10 hb10 C9
          by_cases h0 : r = 0
          · subst h0
            go_wp2_with fail
            refine (C_amongLc B _ _ 2 2 _ w10 _ (by rfl) C10.out.cu (by omega) (by omega) (by decide) (by omega) i64B (by decide)).mono ?_; rintro e w11 ⟨y, rfl, hy, cu11, hb11⟩
            have C11 := Lib.hid (C10.out.step (Chg.of_grown hb11) cu11)
            have HY := Lib.hid hy
            clear cu11 hb11 hy
            have hR := C11.out
            obtain ⟨x0, x1, x2, x3, f0, f1, f2, f3, y0, y1, y2, y3, e0, e1, e2, e3⟩ := CB.cells hR; have hgn := CB.lx hR; have hgl := (CB.rx hR).lt; have hg0l := (CB.r0 hR).lt; have hgB := CB.l0 hR; have hne := Nat.ne_of_lt hgn; have hne' := hne.symm
            clear hR
            go_wp2_with fail
            (go_light; refine bodyPost_ret (by simp (maxDischargeDepth := 3) [results, Tryd.results75, go_sem, *]; try rfl) rfl ?_; refine ⟨_, _, _, _, rfl, HY.out, HI.out.2.1, HT.out.1, HT.out.2, ?_, ?_⟩; (next => ((repeat (first | with_reducible refine Cu.alloc ?_ _ | with_reducible refine Cu.setFar ?_ (by first | omega | (simp; done) | (simp; omega)) _)); exact Cu.mono (CB.cu C11.out) (by omega))); (next => (refine Chg.grown ?_; (repeat (first | with_reducible refine Chg.alloc ?_ _ | with_reducible refine Chg.setNew ?_ (by first | omega | (simp; done) | (simp; omega)) _)); exact CB.ch C11.out)))
          · have h0b : (r == 0) = false := by simpa using h0
            by_cases h1 : r = 1
            · subst h1
              clear h0
              go_wp2_with fail
              refine (C_amongLc B _ _ 2 2 _ w10 _ (by rfl) C10.out.cu (by omega) (by omega) (by decide) (by omega) i64B (by decide)).mono ?_; rintro e w11 ⟨y, rfl, hy, cu11, hb11⟩
              have C11 := Lib.hid (C10.out.step (Chg.of_grown hb11) cu11)
              have HY := Lib.hid hy
              clear cu11 hb11 hy
              have hR := C11.out
              obtain ⟨x0, x1, x2, x3, f0, f1, f2, f3, y0, y1, y2, y3, e0, e1, e2, e3⟩ := CB.cells hR; have hgn := CB.lx hR; have hgl := (CB.rx hR).lt; have hg0l := (CB.r0 hR).lt; have hgB := CB.l0 hR; have hne := Nat.ne_of_lt hgn; have hne' := hne.symm
              clear hR
              go_wp2_with fail
              (go_light; refine bodyPost_ret (by simp (maxDischargeDepth := 3) [results, Tryd.results75, go_sem, *]; try rfl) rfl ?_; refine ⟨_, _, _, _, rfl, HI.out.1, HY.out, HT.out.1, HT.out.2, ?_, ?_⟩; (next => ((repeat (first | with_reducible refine Cu.alloc ?_ _ | with_reducible refine Cu.setFar ?_ (by first | omega | (simp; done) | (simp; omega)) _)); exact Cu.mono (CB.cu C11.out) (by omega))); (next => (refine Chg.grown ?_; (repeat (first | with_reducible refine Chg.alloc ?_ _ | with_reducible refine Chg.setNew ?_ (by first | omega | (simp; done) | (simp; omega)) _)); exact CB.ch C11.out)))
            · have h1b : (r == 1) = false := by simpa using h1
              have hR := C10.out
              obtain ⟨x0, x1, x2, x3, f0, f1, f2, f3, y0, y1, y2, y3, e0, e1, e2, e3⟩ := CB.cells hR; have hgn := CB.lx hR; have hgl := (CB.rx hR).lt; have hg0l := (CB.r0 hR).lt; have hgB := CB.l0 hR; have hne := Nat.ne_of_lt hgn; have hne' := hne.symm
              clear hR
              go_wp2_with fail
              (go_light; refine bodyPost_ret (by simp (maxDischargeDepth := 3) [results, Tryd.results75, go_sem, *]; try rfl) rfl ?_; refine ⟨_, _, _, _, rfl, HI.out.1, HI.out.2.1, HT.out.1, HT.out.2, ?_, ?_⟩; (next => ((repeat (first | with_reducible refine Cu.alloc ?_ _ | with_reducible refine Cu.setFar ?_ (by first | omega | (simp; done) | (simp; omega)) _)); exact Cu.mono (CB.cu C10.out) (by omega))); (next => (refine Chg.grown ?_; (repeat (first | with_reducible refine Chg.alloc ?_ _ | with_reducible refine Chg.setNew ?_ (by first | omega | (simp; done) | (simp; omega)) _)); exact CB.ch C10.out)))
end Go.Proofs.YtnhkejbgcjebmaaDoor
