/- What the laws on clues draw, the rest. No condition but those stated. -/
import Derived.Test.YtnhkejbgcjebmaaDoorClDE
namespace Go.Proofs.YtnhkejbgcjebmaaDoor
set_option linter.unusedVariables false
set_option linter.unusedSimpArgs false
open Go.RowKit Go.Sort
set_option maxHeartbeats 2000000 in
theorem C_DrawIsSafeClue (v : Value) (n : Nat) (w : World) (h : SU w v n) :
    Calls Tryd.prog 46 #[v] w fun e w' => ∃ (u : Value) (m : Nat) (f : Nat → ByteArray) (a b : Int) (s t : ByteArray) (k : Int), e = .returned (.tuple #[u, .agg #[.int .i64 a, .int .i64 b, .string s, .string t], .int .i64 k]) ∧ DW w' u m f ∧ s.size ≤ 20 ∧ t.size ≤ 20 ∧ sm9 k = true ∧ Below w.heap.size w w' := by
  obtain ⟨A, cap, rfl⟩ := h.form
  obtain ⟨w0, hw0⟩ : ∃ w0, w0 = w.alloc (.cells #[.int .i64 0, .int .i64 0, .string (⟨#[]⟩ : ByteArray), .string (⟨#[]⟩ : ByteArray)] 29) := ⟨_, rfl⟩
  obtain ⟨B, hB⟩ : ∃ B, B = w.heap.size + 1 := ⟨_, rfl⟩
  obtain ⟨w1, hw1⟩ : ∃ w1, w1 = w0.alloc (.cells #[.slice A n cap, .int .i64 0, .int .u64 0] 88) := ⟨_, rfl⟩
  have b0 : Below w.heap.size w w0 := by rw [hw0]; (repeat (first | with_reducible exact Below.refl _ _ | with_reducible exact below_regrown _ _ _ | with_reducible refine bel_step0 (by assumption) ?_ | with_reducible refine bel_alloc0 ?_ _ | with_reducible refine bel_regrown0 ?_ _ _ | with_reducible refine bel_regrown ?_ (by first | omega | (simp; done) | (simp; omega)) _ _ | with_reducible refine below_drewN ?_ _ | with_reducible refine Below.drew ?_ | with_reducible refine Below.alloc ?_ (by first | omega | (simp; done) | (simp; omega)) _ | with_reducible refine Below.setCell ?_ (by first | omega | (simp; done) | (simp; omega)) _ | with_reducible refine bel_step (by assumption) (by first | omega | (simp; done) | (simp; omega)) ?_ | with_reducible refine bel_grown (by assumption) (by first | omega | (simp; done) | (simp; omega)) (by first | omega | (simp; done) | (simp; omega)) ?_))
  have z0 : w0.heap.size = B := by rw [hw0, hB]; simp
  have b1 : Below w.heap.size w w1 := by rw [hw1]; exact bel_alloc0 b0 _
  have cu1 : Cu w1 B 0 := by rw [hw1, ← z0]; exact Cu.start (h.below b0) _
  have r1 : w1.rowIs w.heap.size 29 4 (c4 0 0 (⟨#[]⟩ : ByteArray) (⟨#[]⟩ : ByteArray)) := by rw [hw1, hw0]; exact row_alloc (row4_alloc w _ 0 0 _ _) _
  have HW := Lib.hid (show (w.alloc (.cells #[.int .i64 0, .int .i64 0, .string (⟨#[]⟩ : ByteArray), .string (⟨#[]⟩ : ByteArray)] 29)).alloc (.cells #[.slice A n cap, .int .i64 0, .int .u64 0] 88) = w1 by rw [hw1, hw0])
  have HB := Lib.hid hB.symm
  have HR := Lib.hid r1
  have hBw : w.heap.size < B := by omega
  clear hw1 hw0 hB h z0 b0 r1
  go_enter Tryd.func46, Tryd.ntmps46
  go_wp2_with fail
  rw [HW.out, HB.out]
  refine (C_dictionary B 0 w1 cu1 (by omega)).mono ?_; rintro e w2 ⟨u, xs, rfl, hx, hL⟩
  have R2 := Lib.hid (row_chg HR.out hL.ch (.inl hBw))
  have b2 := bel_chg hL.ch (Nat.le_of_lt hBw) b1
  obtain ⟨m, hm⟩ : ∃ m, xs.length = m := ⟨_, rfl⟩
  obtain ⟨UA, uc, rfl⟩ : ∃ A c, u = .slice A m c := by obtain ⟨A, c, e⟩ := hL.ot.form; exact ⟨A, c, by rw [e, hm]⟩
  have hlw := hL.lwd hm (by omega)
  have hw1B : w1.heap.size = B + 1 := by rw [← HW.out, ← HB.out]; simp
  have HLW := Lib.hid hlw
  have hcu2 := hL.cu
  have hBb : B < w1.heap.size := by omega
  clear cu1 HR b1 HW hL hlw hm
  go_wp2_with fail
  refine (C_clue B _ _ _ UA m uc xs w2 hcu2 (by omega) HLW.out (Nat.le_refl _) hBb).mono ?_; rintro e w3 ⟨a, b, s, t, rfl, ha, hb, hs, ht, cu3, hb3⟩
  have L3 := Lib.hid (HLW.out.chg (Chg.of_grown hb3) (by omega))
  have R3 := Lib.hid (row_chg R2.out (Chg.of_grown hb3) (.inl hBw))
  have b3 := bel_chg (Chg.of_grown hb3) (Nat.le_of_lt hBw) b2
  have HS := Lib.hid (And.intro (sh20_le hs) (sh20_le ht))
  clear R2 hcu2 hb3 b2 ha hb hs ht HLW HB
  go_wp2_with fail
  refine (C_amongLc B (0 + 100 + 20) _ 7 7 _ w3 _ (by rfl) cu3 (by omega) (by omega) (by decide) (by omega) sm9 (by decide)).mono ?_; rintro e w4 ⟨k, rfl, hk, cu4, hb4⟩
  have L4 := Lib.hid (L3.out.chg (Chg.of_grown hb4) (by omega))
  have h0 := row_chg R3.out (Chg.of_grown hb4) (.inl hBw)
  have b4 := bel_chg (Chg.of_grown hb4) (Nat.le_of_lt hBw) b3
  have hlt2 := h0.lt
  have HK := Lib.hid hk
  have y0 := h0.cell (i := 0) (by omega)
  have y1 := h0.cell (i := 1) (by omega)
  have y2 := h0.cell (i := 2) (by omega)
  have y3 := h0.cell (i := 3) (by omega)
  have v0 := h0.frozen 0
  have v1 := h0.frozen 1
  have v2 := h0.frozen 2
  have v3 := h0.frozen 3
  clear R3 cu3 cu4 hb4 h0 b3 hk L3
  go_wp2_with fail
  go_light; refine bodyPost_ret (by simp (maxDischargeDepth := 3) [results, Tryd.results46, go_sem, *]; try rfl) rfl ?_
  refine ⟨_, m, atT xs, a, b, s, t, k, rfl, ?_, HS.out.1, HS.out.2, HK.out, ?_⟩
  · obtain ⟨h1, h2, h3, h4, h5⟩ := L4.out
    refine ⟨?_, h3, fun j => sh20_le (sh_at h4 j)⟩
    have hne : ∀ q, (Value.slice UA m uc).ownBlock = some q → q ≠ w.heap.size := fun q hq => by have := (World.ownsRow.lt h1 q hq).1; omega
    have := h1.wt.ti
    rw [h2] at this
    exact (((this.setFar _ hne).setFar _ hne).setFar _ hne).setFar _ hne
  · (repeat (first | with_reducible assumption | with_reducible refine Below.setCell ?_ (by first | omega | (simp; done) | (simp; omega)) _))
theorem lwd_dw {base top : Nat} {W : World} {A : Option Addr} {n cap : Nat} {xs : List ByteArray} (h : LWd base top W A n cap xs) : DW W (.slice A n cap) n (atT xs) := by
  obtain ⟨h1, h2, h3, h4, h5⟩ := h
  have := h1.wt.ti
  rw [h2] at this
  exact ⟨this, h3, fun j => sh20_le (sh_at h4 j)⟩
set_option maxHeartbeats 2000000 in
theorem C_DrawIndexClue (v : Value) (n : Nat) (w : World) (h : SU w v n) :
    Calls Tryd.prog 47 #[v] w fun e w' => ∃ (u : Value) (m : Nat) (f : Nat → ByteArray) (y : ByteArray), e = .returned (.tuple #[u, .string y]) ∧ DW w' u m f ∧ y.size ≤ 20 ∧ Below w.heap.size w w' := by
  obtain ⟨A, cap, rfl⟩ := h.form
  obtain ⟨B, hB⟩ : ∃ B, B = w.heap.size := ⟨_, rfl⟩
  obtain ⟨w1, hw1⟩ : ∃ w1, w1 = w.alloc (.cells #[.slice A n cap, .int .i64 0, .int .u64 0] 88) := ⟨_, rfl⟩
  have b1 : Below w.heap.size w w1 := by rw [hw1]; (repeat (first | with_reducible exact Below.refl _ _ | with_reducible exact below_regrown _ _ _ | with_reducible refine bel_step0 (by assumption) ?_ | with_reducible refine bel_alloc0 ?_ _ | with_reducible refine bel_regrown0 ?_ _ _ | with_reducible refine bel_regrown ?_ (by first | omega | (simp; done) | (simp; omega)) _ _ | with_reducible refine below_drewN ?_ _ | with_reducible refine Below.drew ?_ | with_reducible refine Below.alloc ?_ (by first | omega | (simp; done) | (simp; omega)) _ | with_reducible refine Below.setCell ?_ (by first | omega | (simp; done) | (simp; omega)) _ | with_reducible refine bel_step (by assumption) (by first | omega | (simp; done) | (simp; omega)) ?_ | with_reducible refine bel_grown (by assumption) (by first | omega | (simp; done) | (simp; omega)) (by first | omega | (simp; done) | (simp; omega)) ?_))
  have cu1 : Cu w1 B 0 := by rw [hw1, hB]; exact Cu.start h _
  have HW := Lib.hid hw1.symm
  have HB := Lib.hid hB.symm
  have hBw : w.heap.size ≤ B := by omega
  clear hw1 hB h
  go_enter Tryd.func47, Tryd.ntmps47
  go_wp2_with fail
  rw [HW.out, HB.out]
  refine (C_dictionary B 0 w1 cu1 (by omega)).mono ?_; rintro e w2 ⟨u, xs, rfl, hx, hL⟩
  have b2 := bel_chg hL.ch hBw b1
  obtain ⟨m, hm⟩ : ∃ m, xs.length = m := ⟨_, rfl⟩
  obtain ⟨UA, uc, rfl⟩ : ∃ A c, u = .slice A m c := by obtain ⟨A, c, e⟩ := hL.ot.form; exact ⟨A, c, by rw [e, hm]⟩
  have HLW := Lib.hid (hL.lwd hm (by omega))
  have cu2 := hL.cu
  have hw1B : w1.heap.size = B + 1 := by rw [← HW.out, ← HB.out]; simp
  have hBb : B < w1.heap.size := by omega
  clear cu1 b1 HW hL hm HB
  go_wp2_with fail
  refine (HLW.out.known cu2 (by omega) hBb).mono ?_; rintro e w3 ⟨y, rfl, hy, cu3, hb3⟩
  have L3 := Lib.hid (HLW.out.chg (Chg.of_grown hb3) (by omega))
  have b3 := bel_chg (Chg.of_grown hb3) hBw b2
  have HY := Lib.hid (sh20_le hy)
  clear cu2 cu3 hb3 hy HLW
  go_wp2_with fail
  go_ret2
  exact ⟨_, m, atT xs, y, rfl, lwd_dw L3.out, HY.out, b3⟩
set_option maxHeartbeats 2000000 in
theorem C_DrawWhatLeaks (v : Value) (n : Nat) (w : World) (h : SU w v n) :
    Calls Tryd.prog 50 #[v] w fun e w' => ∃ (u : Value) (m : Nat) (f : Nat → ByteArray) (y : ByteArray) (k : Int), e = .returned (.tuple #[u, .string y, .int .i64 k]) ∧ DW w' u m f ∧ y.size ≤ 20 ∧ sm9 k = true ∧ Below w.heap.size w w' := by
  obtain ⟨A, cap, rfl⟩ := h.form
  obtain ⟨B, hB⟩ : ∃ B, B = w.heap.size := ⟨_, rfl⟩
  obtain ⟨w1, hw1⟩ : ∃ w1, w1 = w.alloc (.cells #[.slice A n cap, .int .i64 0, .int .u64 0] 88) := ⟨_, rfl⟩
  have b1 : Below w.heap.size w w1 := by rw [hw1]; (repeat (first | with_reducible exact Below.refl _ _ | with_reducible exact below_regrown _ _ _ | with_reducible refine bel_step0 (by assumption) ?_ | with_reducible refine bel_alloc0 ?_ _ | with_reducible refine bel_regrown0 ?_ _ _ | with_reducible refine bel_regrown ?_ (by first | omega | (simp; done) | (simp; omega)) _ _ | with_reducible refine below_drewN ?_ _ | with_reducible refine Below.drew ?_ | with_reducible refine Below.alloc ?_ (by first | omega | (simp; done) | (simp; omega)) _ | with_reducible refine Below.setCell ?_ (by first | omega | (simp; done) | (simp; omega)) _ | with_reducible refine bel_step (by assumption) (by first | omega | (simp; done) | (simp; omega)) ?_ | with_reducible refine bel_grown (by assumption) (by first | omega | (simp; done) | (simp; omega)) (by first | omega | (simp; done) | (simp; omega)) ?_))
  have cu1 : Cu w1 B 0 := by rw [hw1, hB]; exact Cu.start h _
  have HW := Lib.hid hw1.symm
  have HB := Lib.hid hB.symm
  have hBw : w.heap.size ≤ B := by omega
  clear hw1 hB h
  go_enter Tryd.func50, Tryd.ntmps50
  go_wp2_with fail
  rw [HW.out, HB.out]
  refine (C_dictionary B 0 w1 cu1 (by omega)).mono ?_; rintro e w2 ⟨u, xs, rfl, hx, hL⟩
  have b2 := bel_chg hL.ch hBw b1
  obtain ⟨m, hm⟩ : ∃ m, xs.length = m := ⟨_, rfl⟩
  obtain ⟨UA, uc, rfl⟩ : ∃ A c, u = .slice A m c := by obtain ⟨A, c, e⟩ := hL.ot.form; exact ⟨A, c, by rw [e, hm]⟩
  have HLW := Lib.hid (hL.lwd hm (by omega))
  have cu2 := hL.cu
  have hw1B : w1.heap.size = B + 1 := by rw [← HW.out, ← HB.out]; simp
  have hBb : B < w1.heap.size := by omega
  clear cu1 b1 HW hL hm HB
  go_wp2_with fail
  refine (HLW.out.known cu2 (by omega) hBb).mono ?_; rintro e w3 ⟨y, rfl, hy, cu3, hb3⟩
  have L3 := Lib.hid (HLW.out.chg (Chg.of_grown hb3) (by omega))
  have b3 := bel_chg (Chg.of_grown hb3) hBw b2
  have HY := Lib.hid (sh20_le hy)
  clear cu2 hb3 hy HLW
  go_wp2_with fail
  refine (C_amongLc B (0 + 100 + 3) _ 7 7 _ w3 _ (by rfl) cu3 (by omega) (by omega) (by decide) (by omega) sm9 (by decide)).mono ?_; rintro e w4 ⟨k, rfl, hk, cu4, hb4⟩
  have L4 := Lib.hid (L3.out.chg (Chg.of_grown hb4) (by omega))
  have b4 := bel_chg (Chg.of_grown hb4) hBw b3
  have HK := Lib.hid hk
  clear cu3 cu4 hb4 hk L3
  go_wp2_with fail
  go_ret3
  exact ⟨_, m, atT xs, y, k, rfl, lwd_dw L4.out, HY.out, HK.out, b4⟩
set_option maxHeartbeats 2000000 in
theorem C_DrawStepFor (v : Value) (n : Nat) (w : World) (h : SU w v n) :
    Calls Tryd.prog 51 #[v] w fun e w' => ∃ (u : Value) (m : Nat) (f : Nat → ByteArray) (k : Int), e = .returned (.tuple #[u, .int .i64 k]) ∧ DW w' u m f ∧ sm9 k = true ∧ Below w.heap.size w w' := by
  obtain ⟨A, cap, rfl⟩ := h.form
  obtain ⟨B, hB⟩ : ∃ B, B = w.heap.size := ⟨_, rfl⟩
  obtain ⟨w1, hw1⟩ : ∃ w1, w1 = w.alloc (.cells #[.slice A n cap, .int .i64 0, .int .u64 0] 88) := ⟨_, rfl⟩
  have b1 : Below w.heap.size w w1 := by rw [hw1]; (repeat (first | with_reducible exact Below.refl _ _ | with_reducible exact below_regrown _ _ _ | with_reducible refine bel_step0 (by assumption) ?_ | with_reducible refine bel_alloc0 ?_ _ | with_reducible refine bel_regrown0 ?_ _ _ | with_reducible refine bel_regrown ?_ (by first | omega | (simp; done) | (simp; omega)) _ _ | with_reducible refine below_drewN ?_ _ | with_reducible refine Below.drew ?_ | with_reducible refine Below.alloc ?_ (by first | omega | (simp; done) | (simp; omega)) _ | with_reducible refine Below.setCell ?_ (by first | omega | (simp; done) | (simp; omega)) _ | with_reducible refine bel_step (by assumption) (by first | omega | (simp; done) | (simp; omega)) ?_ | with_reducible refine bel_grown (by assumption) (by first | omega | (simp; done) | (simp; omega)) (by first | omega | (simp; done) | (simp; omega)) ?_))
  have cu1 : Cu w1 B 0 := by rw [hw1, hB]; exact Cu.start h _
  have HW := Lib.hid hw1.symm
  have HB := Lib.hid hB.symm
  have hBw : w.heap.size ≤ B := by omega
  clear hw1 hB h
  go_enter Tryd.func51, Tryd.ntmps51
  go_wp2_with fail
  rw [HW.out, HB.out]
  refine (C_dictionary B 0 w1 cu1 (by omega)).mono ?_; rintro e w2 ⟨u, xs, rfl, hx, hL⟩
  have b2 := bel_chg hL.ch hBw b1
  obtain ⟨m, hm⟩ : ∃ m, xs.length = m := ⟨_, rfl⟩
  obtain ⟨UA, uc, rfl⟩ : ∃ A c, u = .slice A m c := by obtain ⟨A, c, e⟩ := hL.ot.form; exact ⟨A, c, by rw [e, hm]⟩
  have HLW := Lib.hid (hL.lwd hm (by omega))
  have cu2 := hL.cu
  have hw1B : w1.heap.size = B + 1 := by rw [← HW.out, ← HB.out]; simp
  have hBb : B < w1.heap.size := by omega
  clear cu1 b1 HW hL hm HB
  go_wp2_with fail
  refine (C_amongLc B (0 + 100) _ 8 8 _ w2 _ (by rfl) cu2 (by omega) (by omega) (by decide) (by omega) sm9 (by decide)).mono ?_; rintro e w4 ⟨k, rfl, hk, cu4, hb4⟩
  have L4 := Lib.hid (HLW.out.chg (Chg.of_grown hb4) (by omega))
  have b4 := bel_chg (Chg.of_grown hb4) hBw b2
  have HK := Lib.hid hk
  clear cu2 cu4 hb4 hk HLW
  go_wp2_with fail
  go_ret2
  exact ⟨_, m, atT xs, k, rfl, lwd_dw L4.out, HK.out, b4⟩
set_option maxHeartbeats 2000000 in
theorem C_DrawLeastSafe (v : Value) (n : Nat) (w : World) (h : SU w v n) :
    Calls Tryd.prog 49 #[v] w fun e w' => ∃ (u : Value) (m : Nat) (f : Nat → ByteArray) (p q : Bool), e = .returned (.tuple #[u, .bool p, .bool q]) ∧ DW w' u m f ∧ Below w.heap.size w w' := by
  obtain ⟨A, cap, rfl⟩ := h.form
  obtain ⟨B, hB⟩ : ∃ B, B = w.heap.size := ⟨_, rfl⟩
  obtain ⟨w1, hw1⟩ : ∃ w1, w1 = w.alloc (.cells #[.slice A n cap, .int .i64 0, .int .u64 0] 88) := ⟨_, rfl⟩
  have b1 : Below w.heap.size w w1 := by rw [hw1]; (repeat (first | with_reducible exact Below.refl _ _ | with_reducible exact below_regrown _ _ _ | with_reducible refine bel_step0 (by assumption) ?_ | with_reducible refine bel_alloc0 ?_ _ | with_reducible refine bel_regrown0 ?_ _ _ | with_reducible refine bel_regrown ?_ (by first | omega | (simp; done) | (simp; omega)) _ _ | with_reducible refine below_drewN ?_ _ | with_reducible refine Below.drew ?_ | with_reducible refine Below.alloc ?_ (by first | omega | (simp; done) | (simp; omega)) _ | with_reducible refine Below.setCell ?_ (by first | omega | (simp; done) | (simp; omega)) _ | with_reducible refine bel_step (by assumption) (by first | omega | (simp; done) | (simp; omega)) ?_ | with_reducible refine bel_grown (by assumption) (by first | omega | (simp; done) | (simp; omega)) (by first | omega | (simp; done) | (simp; omega)) ?_))
  have cu1 : Cu w1 B 0 := by rw [hw1, hB]; exact Cu.start h _
  have HW := Lib.hid hw1.symm
  have HB := Lib.hid hB.symm
  have hBw : w.heap.size ≤ B := by omega
  clear hw1 hB h
  go_enter Tryd.func49, Tryd.ntmps49
  go_wp2_with fail
  rw [HW.out, HB.out]
  refine (C_dictionary B 0 w1 cu1 (by omega)).mono ?_; rintro e w2 ⟨u, xs, rfl, hx, hL⟩
  have b2 := bel_chg hL.ch hBw b1
  obtain ⟨m, hm⟩ : ∃ m, xs.length = m := ⟨_, rfl⟩
  obtain ⟨UA, uc, rfl⟩ : ∃ A c, u = .slice A m c := by obtain ⟨A, c, e⟩ := hL.ot.form; exact ⟨A, c, by rw [e, hm]⟩
  have HLW := Lib.hid (hL.lwd hm (by omega))
  have cu2 := hL.cu
  have hw1B : w1.heap.size = B + 1 := by rw [← HW.out, ← HB.out]; simp
  have hBb : B < w1.heap.size := by omega
  clear cu1 b1 HW hL hm HB
  go_wp2_with fail
  refine (C_one B _ 2 w2 cu2 (by omega) (by omega) (by omega)).mono ?_; rintro e w3 ⟨p, rfl, cu3, hb3⟩
  have L3 := Lib.hid (HLW.out.chg (Chg.of_grown hb3) (by omega))
  have b3 := bel_chg (Chg.of_grown hb3) hBw b2
  clear cu2 hb3 HLW
  go_wp2_with fail
  refine (C_one B _ 2 w3 cu3 (by omega) (by omega) (by omega)).mono ?_; rintro e w4 ⟨q, rfl, cu4, hb4⟩
  have L4 := Lib.hid (L3.out.chg (Chg.of_grown hb4) (by omega))
  have b4 := bel_chg (Chg.of_grown hb4) hBw b3
  clear cu3 cu4 hb4 L3
  go_wp2_with fail
  go_ret3
  exact ⟨_, m, atT xs, p, q, rfl, lwd_dw L4.out, b4⟩
set_option maxHeartbeats 2000000 in
theorem C_DrawLengthClue (v : Value) (n : Nat) (w : World) (h : SU w v n) :
    Calls Tryd.prog 48 #[v] w fun e w' => ∃ (y : ByteArray), e = .returned (.string y) ∧ y.size ≤ 20 ∧ Below w.heap.size w w' := by
  obtain ⟨A, cap, rfl⟩ := h.form
  obtain ⟨B, hB⟩ : ∃ B, B = w.heap.size := ⟨_, rfl⟩
  obtain ⟨w1, hw1⟩ : ∃ w1, w1 = w.alloc (.cells #[.slice A n cap, .int .i64 0, .int .u64 0] 88) := ⟨_, rfl⟩
  have b1 : Below w.heap.size w w1 := by rw [hw1]; (repeat (first | with_reducible exact Below.refl _ _ | with_reducible exact below_regrown _ _ _ | with_reducible refine bel_step0 (by assumption) ?_ | with_reducible refine bel_alloc0 ?_ _ | with_reducible refine bel_regrown0 ?_ _ _ | with_reducible refine bel_regrown ?_ (by first | omega | (simp; done) | (simp; omega)) _ _ | with_reducible refine below_drewN ?_ _ | with_reducible refine Below.drew ?_ | with_reducible refine Below.alloc ?_ (by first | omega | (simp; done) | (simp; omega)) _ | with_reducible refine Below.setCell ?_ (by first | omega | (simp; done) | (simp; omega)) _ | with_reducible refine bel_step (by assumption) (by first | omega | (simp; done) | (simp; omega)) ?_ | with_reducible refine bel_grown (by assumption) (by first | omega | (simp; done) | (simp; omega)) (by first | omega | (simp; done) | (simp; omega)) ?_))
  have cu1 : Cu w1 B 0 := by rw [hw1, hB]; exact Cu.start h _
  have HW := Lib.hid hw1.symm
  have HB := Lib.hid hB.symm
  have hBw : w.heap.size ≤ B := by omega
  clear hw1 hB h
  go_enter Tryd.func48, Tryd.ntmps48
  go_wp2_with fail
  rw [HW.out, HB.out]
  have z1 : w1.heap.size = B + 1 := by rw [← HW.out, ← HB.out]; simp
  refine (C_ofL B 0 _ 7 7 _ w1 _ z1 cu1 (by omega) (by omega) (by decide) (by omega) sh20 (by decide)).mono ?_; rintro e w3 ⟨y, rfl, hy, cu3, hb3⟩
  have b3 := bel_chg (Chg.of_grown hb3) hBw b1
  have HY := Lib.hid (sh20_le hy)
  clear cu1 cu3 hb3 hy HW HB z1
  go_wp2_with fail
  go_ret
  exact ⟨y, rfl, HY.out, b3⟩
set_option maxHeartbeats 2000000 in
theorem C_DrawPaddedLength (v : Value) (n : Nat) (w : World) (h : SU w v n) :
    Calls Tryd.prog 52 #[v] w fun e w' => ∃ (y : ByteArray) (k : Int), e = .returned (.tuple #[.string y, .int .i64 k]) ∧ y.size ≤ 20 ∧ sm9 k = true ∧ Below w.heap.size w w' := by
  have HU := Lib.hid h
  obtain ⟨A, cap, rfl⟩ := h.form
  obtain ⟨B, hB⟩ : ∃ B, B = w.heap.size := ⟨_, rfl⟩
  obtain ⟨w1, hw1⟩ : ∃ w1, w1 = w.alloc (.cells #[.slice A n cap, .int .i64 0, .int .u64 0] 88) := ⟨_, rfl⟩
  have b1 : Below w.heap.size w w1 := by rw [hw1]; (repeat (first | with_reducible exact Below.refl _ _ | with_reducible exact below_regrown _ _ _ | with_reducible refine bel_step0 (by assumption) ?_ | with_reducible refine bel_alloc0 ?_ _ | with_reducible refine bel_regrown0 ?_ _ _ | with_reducible refine bel_regrown ?_ (by first | omega | (simp; done) | (simp; omega)) _ _ | with_reducible refine below_drewN ?_ _ | with_reducible refine Below.drew ?_ | with_reducible refine Below.alloc ?_ (by first | omega | (simp; done) | (simp; omega)) _ | with_reducible refine Below.setCell ?_ (by first | omega | (simp; done) | (simp; omega)) _ | with_reducible refine bel_step (by assumption) (by first | omega | (simp; done) | (simp; omega)) ?_ | with_reducible refine bel_grown (by assumption) (by first | omega | (simp; done) | (simp; omega)) (by first | omega | (simp; done) | (simp; omega)) ?_))
  have cu1 : Cu w1 B 0 := by rw [hw1, hB]; exact Cu.start h _
  have HW := Lib.hid hw1.symm
  have HB := Lib.hid hB.symm
  have hBw : w.heap.size ≤ B := by omega
  clear hw1 hB h
  go_enter Tryd.func52, Tryd.ntmps52
  go_wp2_with fail
  rw [HW.out, HB.out]
  refine (C_DrawLengthClue _ n _ (HU.out.below b1)).mono ?_; rintro e w2 ⟨y, rfl, hy, hb2⟩
  have b2 := bel_step0 hb2 b1
  have cu2 := cu1.below hb2
  have HY := Lib.hid hy
  clear cu1 hb2 hy HW HB b1
  go_wp2_with fail
  refine (C_amongLc B 0 _ 8 8 _ w2 _ (by rfl) cu2 (by omega) (by omega) (by decide) (by omega) sm9 (by decide)).mono ?_; rintro e w4 ⟨k, rfl, hk, cu4, hb4⟩
  have b4 := bel_chg (Chg.of_grown hb4) hBw b2
  have HK := Lib.hid hk
  clear cu2 cu4 hb4 hk
  go_wp2_with fail
  go_ret2
  exact ⟨y, k, rfl, HY.out, HK.out, b4⟩
end Go.Proofs.YtnhkejbgcjebmaaDoor
