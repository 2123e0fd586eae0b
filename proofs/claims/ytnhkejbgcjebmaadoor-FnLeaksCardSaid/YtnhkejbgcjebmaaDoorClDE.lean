/- What the laws on clues draw. No condition but those stated. -/
import Derived.Test.YtnhkejbgcjebmaaDoorClDD
namespace Go.Proofs.YtnhkejbgcjebmaaDoor
set_option linter.unusedVariables false
set_option linter.unusedSimpArgs false
open Go.RowKit Go.Sort
def sm9 (x : Int) : Bool := decide (-1000 ≤ x) && decide (x ≤ 1000)
theorem sm9_of {x : Int} (h : sm9 x = true) : -1000 ≤ x ∧ x ≤ 1000 := by simpa [sm9] using h
/-- A drawn list of words. -/
def DW (w : World) (v : Value) (n : Nat) (f : Nat → ByteArray) : Prop := TI w v n f ∧ n ≤ 13 ∧ ∀ j, (f j).size ≤ 20
theorem DW.below {w w' : World} {v : Value} {n : Nat} {f : Nat → ByteArray} (hb : Below w.heap.size w w') (h : DW w v n f) : DW w' v n f := ⟨h.1.below hb, h.2⟩
theorem DW.s63 {w : World} {v : Value} {n : Nat} {f : Nat → ByteArray} (h : DW w v n f) : ∀ j, j < n → (f j).size ≤ 9223372036854775807 := fun j _ => by have := h.2.2 j; omega
theorem DW.form {w : World} {v : Value} {n : Nat} {f : Nat → ByteArray} (h : DW w v n f) : ∃ A cap, v = .slice A n cap := by obtain ⟨⟨A, cap, e, _⟩, _⟩ := h; exact ⟨A, cap, e⟩
theorem LT.dw {B m : Nat} {w W : World} {v : Value} {xs : List ByteArray} (h : LT B m w W v xs) (hx : xs.length ≤ 13) : DW W v xs.length (atT xs) := ⟨h.ot.wt.ti, hx, fun j => sh20_le (sh_at h.sz j)⟩
theorem TI.setFar {w : World} {v : Value} {n : Nat} {f : Nat → ByteArray} {p : Addr} (u : Value) (h : TI w v n f) (hp : ∀ q, v.ownBlock = some q → q ≠ p.block) : TI (w.setCell p u) v n f := by
  obtain ⟨A, cap, rfl, hr, h2⟩ := h
  refine ⟨A, cap, rfl, fun h0 => ?_, h2⟩
  obtain ⟨b, off, rfl, hl, hcell⟩ := hr h0
  refine ⟨b, off, rfl, by simpa [World.setCell] using hl, fun j hj => ?_⟩
  rw [World.cell?_setCell_other _ _ _ _ (by intro e; have := hp b rfl; exact this (by rw [e]))]
  exact hcell j hj
set_option maxHeartbeats 2000000 in
theorem C_DrawCandidates (v : Value) (n : Nat) (w : World) (h : SU w v n) :
    Calls Tryd.prog 44 #[v] w fun e w' => ∃ (u : Value) (m : Nat) (f : Nat → ByteArray) (a b : Int) (s t : ByteArray), e = .returned (.tuple #[u, .agg #[.int .i64 a, .int .i64 b, .string s, .string t]]) ∧ DW w' u m f ∧ s.size ≤ 20 ∧ t.size ≤ 20 ∧ Below w.heap.size w w' := by
  obtain ⟨A, cap, rfl⟩ := h.form
  obtain ⟨w0, hw0⟩ : ∃ w0, w0 = w.alloc (.cells #[.int .i64 0, .int .i64 0, .string (⟨#[]⟩ : ByteArray), .string (⟨#[]⟩ : ByteArray)] 29) := ⟨_, rfl⟩
  obtain ⟨B, hB⟩ : ∃ B, B = w.heap.size + 1 := ⟨_, rfl⟩
  obtain ⟨w1, hw1⟩ : ∃ w1, w1 = w0.alloc (.cells #[.slice A n cap, .int .i64 0, .int .u64 0] 88) := ⟨_, rfl⟩
  have b0 : Below w.heap.size w w0 := by rw [hw0]; (repeat (first | with_reducible exact Below.refl _ _ | with_reducible exact below_regrown _ _ _ | with_reducible refine bel_step0 (by assumption) ?_ | with_reducible refine bel_alloc0 ?_ _ | with_reducible refine bel_regrown0 ?_ _ _ | with_reducible refine bel_regrown ?_ (by first | omega | (simp; done) | (simp; omega)) _ _ | with_reducible refine below_drewN ?_ _ | with_reducible refine Below.drew ?_ | with_reducible refine Below.alloc ?_ (by first | omega | (simp; done) | (simp; omega)) _ | with_reducible refine Below.setCell ?_ (by first | omega | (simp; done) | (simp; omega)) _ | with_reducible refine bel_step (by assumption) (by first | omega | (simp; done) | (simp; omega)) ?_ | with_reducible refine bel_grown (by assumption) (by first | omega | (simp; done) | (simp; omega)) (by first | omega | (simp; done) | (simp; omega)) ?_))
  have z0 : w0.heap.size = B := by rw [hw0, hB]; simp
  have b1 : Below w.heap.size w w1 := by rw [hw1]; exact bel_alloc0 b0 _
  have cu1 : Cu w1 B 0 := by rw [hw1, ← z0]; exact Cu.start (h.below b0) _
  have r1 : w1.rowIs w.heap.size 29 4 (c4 0 0 (⟨#[]⟩ : ByteArray) (⟨#[]⟩ : ByteArray)) := by rw [hw1, hw0]; exact row_alloc (row4_alloc w _ 0 0 _ _) _
  have HW := Lib.hid (show (w.alloc (.cells #[.int .i64 0, .int .i64 0, .string (⟨#[]⟩ : ByteArray), .string (⟨#[]⟩ : ByteArray)] 29)).alloc (.cells #[.slice A n cap, .int .i64 0, .int .u64 0] 88) = w1 by rw [hw1, hw0])
  have HB := Lib.hid hB.symm
  have HR := Lib.hid r1
  have hBw : w.heap.size < B := by omega
  clear hw1 hw0 hB h z0 b0 r1
  go_enter Tryd.func44, Tryd.ntmps44
  go_wp2_with fail
  rw [HW.out, HB.out]
  refine (C_dictionary B 0 w1 cu1 (by omega)).mono ?_; rintro e w2 ⟨u, xs, rfl, hx, hL⟩
  have R2 := Lib.hid (row_chg HR.out hL.ch (.inl hBw))
  have b2 := bel_chg hL.ch (Nat.le_of_lt hBw) b1
  obtain ⟨m, hm⟩ : ∃ m, xs.length = m := ⟨_, rfl⟩
  obtain ⟨UA, uc, rfl⟩ : ∃ A c, u = .slice A m c := by obtain ⟨A, c, e⟩ := hL.ot.form; exact ⟨A, c, by rw [e, hm]⟩
  have hlw := hL.lwd hm (by omega)
  have hw1B : w1.heap.size = B + 1 := by rw [← HW.out, ← HB.out]; simp
  have HLW := Lib.hid hlw
  have hcu2 := hL.cu
  have hBb : B < w1.heap.size := by omega
  clear cu1 HR b1 HW hL hlw hm
  go_wp2_with fail
  refine (C_clue B _ _ _ UA m uc xs w2 hcu2 (by omega) HLW.out (Nat.le_refl _) hBb).mono ?_; rintro e w3 ⟨a, b, s, t, rfl, ha, hb, hs, ht, cu3, hb3⟩
  have L3 := Lib.hid (HLW.out.chg (Chg.of_grown hb3) (by omega))
  have h0 := row_chg R2.out (Chg.of_grown hb3) (.inl hBw)
  have b4 := bel_chg (Chg.of_grown hb3) (Nat.le_of_lt hBw) b2
  have hlt2 := R2.out.lt
  have y0 := h0.cell (i := 0) (by omega)
  have y1 := h0.cell (i := 1) (by omega)
  have y2 := h0.cell (i := 2) (by omega)
  have y3 := h0.cell (i := 3) (by omega)
  have v0 := h0.frozen 0
  have v1 := h0.frozen 1
  have v2 := h0.frozen 2
  have v3 := h0.frozen 3
  have HS := Lib.hid (And.intro (sh20_le hs) (sh20_le ht))
  clear R2 hcu2 cu3 hb3 h0 HB b2 ha hb hs ht HLW
  go_wp2_with fail
  go_light; refine bodyPost_ret (by simp (maxDischargeDepth := 3) [results, Tryd.results44, go_sem, *]; try rfl) rfl ?_
  refine ⟨_, m, atT xs, a, b, s, t, rfl, ?_, HS.out.1, HS.out.2, ?_⟩
  · obtain ⟨h1, h2, h3, h4, h5⟩ := L3.out
    refine ⟨?_, h3, fun j => sh20_le (sh_at h4 j)⟩
    have hne : ∀ q, (Value.slice UA m uc).ownBlock = some q → q ≠ w.heap.size := fun q hq => by have := (World.ownsRow.lt h1 q hq).1; omega
    have := h1.wt.ti
    rw [h2] at this
    exact (((this.setFar _ hne).setFar _ hne).setFar _ hne).setFar _ hne
  · (repeat (first | with_reducible assumption | with_reducible refine Below.setCell ?_ (by first | omega | (simp; done) | (simp; omega)) _))
end Go.Proofs.YtnhkejbgcjebmaaDoor
