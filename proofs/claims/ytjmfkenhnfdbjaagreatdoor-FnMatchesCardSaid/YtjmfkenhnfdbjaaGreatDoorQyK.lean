/- The parser: factors, terms, queries. No condition but those stated. -/
import Derived.Test.YtjmfkenhnfdbjaaGreatDoorQyJ
namespace Go.Proofs.YtjmfkenhnfdbjaaGreatDoor
set_option linter.unusedVariables false
set_option linter.unusedSimpArgs false
open Go.RowKit Go.Sort
theorem digE_ge (s : ByteArray) : ∀ k a, a ≤ digE s k a := by
  intro k
  induction k with
  | zero => intro a; exact Nat.le_refl _
  | succ k ih =>
    intro a
    simp only [digE]
    split
    · exact Nat.le_trans (Nat.le_succ a) (ih (a + 1))
    · exact Nat.le_refl _
theorem digE_le (s : ByteArray) : ∀ k a, a ≤ s.size → digE s k a ≤ s.size := by
  intro k
  induction k with
  | zero => intro a h; exact h
  | succ k ih =>
    intro a h
    simp only [digE]
    split
    · rename_i hd
      exact ih (a + 1) (dB_iff.1 hd).1
    · exact h
theorem numOk (s : ByteArray) : NumOk s.size (numA s) := by
  intro a p ha h
  unfold numA at h
  split at h
  · cases h
  · injection h with h
    subst h
    exact ⟨digE_ge s _ _, digE_le s _ _ ha⟩
theorem tst_end {s : ByteArray} {a : Nat} {o : Out} (h : tstQ s.size (bN s) (numA s) a = some o) : a < o.e ∧ o.e ≤ s.size ∧ o.d = 0 := by
  unfold tstQ at h
  split at h
  · rename_i ha
    cases hp : numA s (a + 1) with
    | none => rw [hp] at h; cases h
    | some p =>
      rw [hp] at h
      simp only at h
      split at h
      · injection h with h
        subst h
        have := numOk s (a + 1) p ha hp
        exact ⟨by simp only; omega, this.2, rfl⟩
      · cases h
  · cases h
theorem heap_set3 (W : World) (r g : Nat) (c n ps : Value) (h : g ≠ r) : (((W.setCell ⟨r, 0, none⟩ c).setCell ⟨r, 1, none⟩ n).setCell ⟨r, 2, none⟩ ps).heap[g]? = W.heap[g]? := by
  rw [heap_setCell_other _ ⟨r, 2, none⟩ g _ h, heap_setCell_other _ ⟨r, 1, none⟩ g _ h, heap_setCell_other _ ⟨r, 0, none⟩ g _ h]
theorem size_set3 (W : World) (r : Nat) (c n ps : Value) : (((W.setCell ⟨r, 0, none⟩ c).setCell ⟨r, 1, none⟩ n).setCell ⟨r, 2, none⟩ ps).heap.size = W.heap.size := by simp [World.setCell]
theorem chg_set3 {P r : Nat} {w W : World} (h : Chg P (P + 1) w W) (hr : w.heap.size ≤ r) (c n ps : Value) : Chg P (P + 1) w (((W.setCell ⟨r, 0, none⟩ c).setCell ⟨r, 1, none⟩ n).setCell ⟨r, 2, none⟩ ps) :=
  ((h.setFresh (p := ⟨r, 0, none⟩) hr _).setFresh (p := ⟨r, 1, none⟩) hr _).setFresh (p := ⟨r, 2, none⟩) hr _
theorem tr_set3 {W : World} {r : Nat} {D E : Nat → Prop} {q : Qy} {x : Tq} (h : TR W D q x) (hD : ∀ g, D g → g ≠ r ∧ E g) (c n ps : Value) : TR (((W.setCell ⟨r, 0, none⟩ c).setCell ⟨r, 1, none⟩ n).setCell ⟨r, 2, none⟩ ps) E q x :=
  TR.mono (fun g hg => (hD g hg).2) _ _ (TR.frame (fun g hg hl => heap_set3 W r g c n ps (hD g hg).1) (by rw [size_set3]; exact Nat.le_refl _) _ _ h)
/-- The result laid into the block r. -/
theorem Res.store {P : Nat} {s : ByteArray} {part : Nat → Option Out} {a : Nat} {op mo : Int} {w w2 w3 : World} {x : Tq} {r : Nat} (hr : r = w.heap.size) (hp : P < w.heap.size) (c12 : Chg P (P + 1) w w2) (hsz : w.heap.size + 1 ≤ w2.heap.size)
    (h : Res P s part a op mo w2 w3 x) : Res P s part a op mo w (((w3.setCell ⟨r, 0, none⟩ (.int .u8 x.c)).setCell ⟨r, 1, none⟩ (.int .i64 x.n)).setCell ⟨r, 2, none⟩ (.slice x.A x.m x.k)) x := by
  obtain ⟨h1, h2⟩ := h
  refine ⟨chg_set3 (c12.trans h1) (by omega) _ _ _, ?_⟩
  rcases h2 with ⟨o, h3, h4, h5, h6⟩ | ⟨h3, a', mo', h4, h5, h6, h7, h8⟩
  · exact .inl ⟨o, h3, tr_set3 h4 (fun g hg => ⟨by omega, by omega⟩) _ _ _, h5.farQ (by omega) _ _ _, h6⟩
  · exact .inr ⟨h3, a', mo', h4, h5, h6, h7, h8.farQ (by omega) _ _ _⟩
set_option maxRecDepth 100000 in
set_option maxHeartbeats 8000000 in
theorem C_term (P : Nat) (s : ByteArray) (num : Nat → Option (Int × Nat)) (K : Nat) (hs : s.size ≤ 1048576) (a : Nat) (op mo : Int)
    (HP : ∀ a op mo w, s.size < K + a → Pre P s a op mo w → Calls Tryz.prog 95 #[.pointer (some ⟨P, 0, none⟩)] w fun e w' => ∃ x : Tq, e = .returned (.agg #[.int .u8 (x).c, .int .i64 (x).n, .slice (x).A (x).m (x).k]) ∧ Res P s (pFac s.size (bN s) num K) a op mo w w' x)
    (w : World) (hK : s.size < K + a) (h : Pre P s a op mo w) :
    Calls Tryz.prog 84 #[.pointer (some ⟨P, 0, none⟩)] w fun e w' => ∃ x : Tq, e = .returned (.agg #[.int .u8 (x).c, .int .i64 (x).n, .slice (x).A (x).m (x).k]) ∧ Res P s (pTer s.size (bN s) num K) a op mo w w' x := by
  obtain ⟨r, hr⟩ : ∃ r, r = w.heap.size := ⟨_, rfl⟩
  obtain ⟨w1, hw1⟩ : ∃ ww, ww = w.alloc (.cells #[.int .u8 0, .int .i64 0, .slice none 0 0] 61) := ⟨_, rfl⟩
  have R1 : RQ w1 r 0 0 (.slice none 0 0) := by rw [hw1, hr]; exact RQ.new w
  have B1 : Below w.heap.size w w1 := by rw [hw1]; exact (Below.refl _ _).alloc (Nat.le_refl _) _
  have Z1 : w1.heap.size = w.heap.size + 1 := by rw [hw1]; simp
  have HW := Lib.hid hw1.symm
  have HR := Lib.hid hr
  have PW := h.ps.lt
  have H1 := Lib.hid (h.below B1)
  clear hw1 hr
  have HC := Lib.hid (C_joinedF P s num K hs a op mo HP w1 hK H1.out)
  clear HP h H1
  go_enter Tryz.func84, Tryz.ntmps84
  go_wp2_with fail
  rw [HW.out, ← HR.out]
  refine HC.out.mono ?_; rintro e w2 ⟨x, rfl, hres⟩
  have R2 := Lib.hid (R1.chg hres.1 (.inr (by rw [HR.out]; omega)))
  obtain ⟨y0, y1, y2, fy⟩ := R2.out.cells
  have v0 := fy 0; have v1 := fy 1; have v2 := fy 2
  have HF := Lib.hid (Res.store HR.out PW (Chg.of_below B1) (by omega) hres)
  clear HW R1 hres fy HC
  go_wp2
  go_light; refine bodyPost_ret (by simp (maxDischargeDepth := 3) [results, Tryz.results84, go_sem, *]; try rfl) rfl ?_
  exact ⟨x, rfl, HF.out⟩
set_option maxRecDepth 100000 in
set_option maxHeartbeats 8000000 in
theorem C_queryP (P : Nat) (s : ByteArray) (num : Nat → Option (Int × Nat)) (K : Nat) (hs : s.size ≤ 1048576) (a : Nat) (op mo : Int)
    (HP : ∀ a op mo w, s.size < K + a → Pre P s a op mo w → Calls Tryz.prog 84 #[.pointer (some ⟨P, 0, none⟩)] w fun e w' => ∃ x : Tq, e = .returned (.agg #[.int .u8 (x).c, .int .i64 (x).n, .slice (x).A (x).m (x).k]) ∧ Res P s (pTer s.size (bN s) num K) a op mo w w' x)
    (w : World) (hK : s.size < K + a) (h : Pre P s a op mo w) :
    Calls Tryz.prog 67 #[.pointer (some ⟨P, 0, none⟩)] w fun e w' => ∃ x : Tq, e = .returned (.agg #[.int .u8 (x).c, .int .i64 (x).n, .slice (x).A (x).m (x).k]) ∧ Res P s (pQue s.size (bN s) num K) a op mo w w' x := by
  obtain ⟨r, hr⟩ : ∃ r, r = w.heap.size := ⟨_, rfl⟩
  obtain ⟨w1, hw1⟩ : ∃ ww, ww = w.alloc (.cells #[.int .u8 0, .int .i64 0, .slice none 0 0] 61) := ⟨_, rfl⟩
  have R1 : RQ w1 r 0 0 (.slice none 0 0) := by rw [hw1, hr]; exact RQ.new w
  have B1 : Below w.heap.size w w1 := by rw [hw1]; exact (Below.refl _ _).alloc (Nat.le_refl _) _
  have Z1 : w1.heap.size = w.heap.size + 1 := by rw [hw1]; simp
  have HW := Lib.hid hw1.symm
  have HR := Lib.hid hr
  have PW := h.ps.lt
  have H1 := Lib.hid (h.below B1)
  clear hw1 hr
  have HC := Lib.hid (C_joinedT P s num K hs a op mo HP w1 hK H1.out)
  clear HP h H1
  go_enter Tryz.func67, Tryz.ntmps67
  go_wp2_with fail
  rw [HW.out, ← HR.out]
  refine HC.out.mono ?_; rintro e w2 ⟨x, rfl, hres⟩
  have R2 := Lib.hid (R1.chg hres.1 (.inr (by rw [HR.out]; omega)))
  obtain ⟨y0, y1, y2, fy⟩ := R2.out.cells
  have v0 := fy 0; have v1 := fy 1; have v2 := fy 2
  have HF := Lib.hid (Res.store HR.out PW (Chg.of_below B1) (by omega) hres)
  clear HW R1 hres fy HC
  go_wp2
  go_light; refine bodyPost_ret (by simp (maxDischargeDepth := 3) [results, Tryz.results67, go_sem, *]; try rfl) rfl ?_
  exact ⟨x, rfl, HF.out⟩
end Go.Proofs.YtjmfkenhnfdbjaaGreatDoor
