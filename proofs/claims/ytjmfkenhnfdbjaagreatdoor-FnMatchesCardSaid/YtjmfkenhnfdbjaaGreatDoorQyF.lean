/- The parser's state, and how it takes a byte. No condition but those stated. -/
import Derived.Test.YtjmfkenhnfdbjaaGreatDoorQyE
import Derived.Test.YtjmfkenhnfdbjaaGreatDoorIntsE
import Derived.Test.YtjmfkenhnfdbjaaGreatDoorAppB
import Derived.BigRegion
namespace Go.Proofs.YtjmfkenhnfdbjaaGreatDoor
set_option linter.unusedVariables false
set_option linter.unusedSimpArgs false
open Go.RowKit Go.Sort
theorem Chg.setFresh {lo hi : Nat} {a b : World} (h : Chg lo hi a b) {p : Addr} (hp : a.heap.size ≤ p.block) (u : Value) : Chg lo hi a (b.setCell p u) :=
  ⟨h.os, h.tape, h.output, by simpa [World.setCell] using h.size, fun k hk hr => (Below.heap_setCell _ _ _ _ (by omega)).trans (h.block k hk hr)⟩
/-- The package variables hold what they hold, in blocks ahead of P. -/
def PkB (P : Nat) (w : World) : Prop := ∃ wb : World, Pk wb ∧ wb.heap.size ≤ P ∧ Below wb.heap.size wb w
theorem PkB.pk {P : Nat} {w : World} (h : PkB P w) : Pk w := by
  obtain ⟨wb, h1, _, h3⟩ := h
  exact h1.below h3
theorem PkB.chg {P : Nat} {w w' : World} (hc : Chg P (P + 1) w w') (h : PkB P w) : PkB P w' := by
  obtain ⟨wb, h1, h2, h3⟩ := h
  exact ⟨wb, h1, h2, bel_chg hc h2 h3⟩
/-- The byte at a place. -/
def bN (s : ByteArray) (i : Nat) : Nat := if h : i < s.size then s[i].toNat else 0
theorem bN_at {s : ByteArray} {i : Nat} (h : i < s.size) : bN s i = s[i].toNat := by unfold bN; rw [dif_pos h]
def cP (s : ByteArray) (a : Nat) (bad : Bool) (op mo : Int) (i : Nat) : Value := if i = 0 then .string s else if i = 1 then .int .i64 a else if i = 2 then .bool bad else if i = 3 then .int .i64 op else .int .i64 mo
/-- The parser in block P. -/
def PS (w : World) (P : Nat) (s : ByteArray) (a : Nat) (bad : Bool) (op mo : Int) : Prop := w.rowIs P 89 5 (cP s a bad op mo)
section
variable {w : World} {P : Nat} {s : ByteArray} {a : Nat} {bad : Bool} {op mo : Int}
theorem PS.c0 (h : PS w P s a bad op mo) : w.cell? ⟨P, 0, none⟩ = some (.string s) := by have := World.rowIs.cell h (i := 0) (by omega); exact this
theorem PS.c1 (h : PS w P s a bad op mo) : w.cell? ⟨P, 1, none⟩ = some (.int .i64 a) := by have := World.rowIs.cell h (i := 1) (by omega); exact this
theorem PS.c2 (h : PS w P s a bad op mo) : w.cell? ⟨P, 2, none⟩ = some (.bool bad) := by have := World.rowIs.cell h (i := 2) (by omega); exact this
theorem PS.c3 (h : PS w P s a bad op mo) : w.cell? ⟨P, 3, none⟩ = some (.int .i64 op) := by have := World.rowIs.cell h (i := 3) (by omega); exact this
theorem PS.c4 (h : PS w P s a bad op mo) : w.cell? ⟨P, 4, none⟩ = some (.int .i64 mo) := by have := World.rowIs.cell h (i := 4) (by omega); exact this
theorem PS.fz (h : PS w P s a bad op mo) (i : Nat) : w.frozen? ⟨P, i, none⟩ = false := World.rowIs.frozen h i
theorem PS.lt (h : PS w P s a bad op mo) : P < w.heap.size := World.rowIs.lt h
theorem PS.below {w' : World} (hb : Below w.heap.size w w') (h : PS w P s a bad op mo) : PS w' P s a bad op mo := World.rowIs.of_block h (hb.block P h.lt)
theorem PS.set1 (h : PS w P s a bad op mo) (b : Nat) : PS (w.setCell ⟨P, 1, none⟩ (.int .i64 b)) P s b bad op mo :=
  World.rowIs.congr (World.rowIs.set h 1 _) fun i hi => by
    match i, hi with
    | 0, _ => rfl
    | 1, _ => rfl
    | 2, _ => rfl
    | 3, _ => rfl
    | 4, _ => rfl
theorem PS.set2 (h : PS w P s a bad op mo) (b : Bool) : PS (w.setCell ⟨P, 2, none⟩ (.bool b)) P s a b op mo :=
  World.rowIs.congr (World.rowIs.set h 2 _) fun i hi => by
    match i, hi with
    | 0, _ => rfl
    | 1, _ => rfl
    | 2, _ => rfl
    | 3, _ => rfl
    | 4, _ => rfl
theorem PS.set3 (h : PS w P s a bad op mo) (b : Int) : PS (w.setCell ⟨P, 3, none⟩ (.int .i64 b)) P s a bad b mo :=
  World.rowIs.congr (World.rowIs.set h 3 _) fun i hi => by
    match i, hi with
    | 0, _ => rfl
    | 1, _ => rfl
    | 2, _ => rfl
    | 3, _ => rfl
    | 4, _ => rfl
theorem PS.set4 (h : PS w P s a bad op mo) (b : Int) : PS (w.setCell ⟨P, 4, none⟩ (.int .i64 b)) P s a bad op b :=
  World.rowIs.congr (World.rowIs.set h 4 _) fun i hi => by
    match i, hi with
    | 0, _ => rfl
    | 1, _ => rfl
    | 2, _ => rfl
    | 3, _ => rfl
    | 4, _ => rfl
end
/-- Whether the byte c stands at a. -/
def hitB (s : ByteArray) (a c : Nat) : Bool := decide (a < s.size) && decide (bN s a = c)
set_option maxHeartbeats 4000000 in
theorem C_sees (P : Nat) (s : ByteArray) (a c : Nat) (bad : Bool) (op mo : Int) (w : World) (h : PS w P s a bad op mo) (hs : s.size ≤ 1048576) (ha : a ≤ s.size) :
    Calls Tryz.prog 94 #[.pointer (some ⟨P, 0, none⟩), .int .u8 (c : Int)] w fun e w' => e = .returned (.bool (hitB s a c)) ∧ PS w' P s (if hitB s a c then a + 1 else a) bad op mo ∧ Chg P (P + 1) w w' := by
  obtain ⟨H, hH⟩ : ∃ H, hitB s a c = H := ⟨_, rfl⟩
  obtain ⟨A', hA'⟩ : ∃ A', (if hitB s a c then a + 1 else a) = A' := ⟨_, rfl⟩
  have HF : Hid (∀ b, hitB s a c = b → H = b ∧ A' = if b then a + 1 else a) := Lib.hid fun b hb => ⟨hH.symm.trans hb, by rw [← hA', hb]⟩
  rw [hA', hH]
  clear hH hA'
  have c0 := h.c0
  have c1 := h.c1
  have g0 := cell_regrown c0
  have g1 := cell_regrown c1
  have HH := Lib.hid h
  have b0 : (0 : Int) ≤ (a : Int) := by omega
  clear c0 c1 h
  by_cases hlt : a < s.size
  · have hlt2 : (a : Int) < (s.size : Int) := by omega
    have hb := bN_at hlt
    cases he : ((s[a].toNat : Int) == (c : Int))
    · have hz : hitB s a c = false := by
        unfold hitB
        rw [hb, decide_eq_true hlt, Bool.true_and, decide_eq_false]
        intro h; rw [h] at he; simp at he
      have HZ := Lib.hid (HF.out _ hz)
      clear hz hb HF
      go_enter Tryz.func94, Tryz.ntmps94
      go_wp2
      (refine wp_region_quiet_below (by kernel_rfl) (by kernel_rfl) ?_; (repeat (go_big_quiet_step (fail))); refine wpQuiet_nil ?_; intro _ hw'; obtain ⟨⟨dq, osq⟩, hw''⟩ := hw'; subst hw'')
      clear g0 g1
      go_wp2
      go_ret
      rw [HZ.out.1, HZ.out.2]
      exact ⟨rfl, HH.out.below (below_regrown _ _ _), Chg.of_below (below_regrown _ _ _)⟩
    · have hz : hitB s a c = true := by
        unfold hitB
        rw [hb, decide_eq_true hlt, Bool.true_and, decide_eq_true_eq]
        have := eq_of_beq he
        omega
      have HZ := Lib.hid (HF.out _ hz)
      clear hz hb HF
      go_enter Tryz.func94, Tryz.ntmps94
      go_wp2
      (refine wp_region_quiet_below (by kernel_rfl) (by kernel_rfl) ?_; (repeat (go_big_quiet_step (fail))); refine wpQuiet_nil ?_; intro _ hw'; obtain ⟨⟨dq, osq⟩, hw''⟩ := hw'; subst hw'')
      clear g0 g1
      obtain ⟨w5, hw5⟩ : ∃ w5, w5 = grow (redrawn w dq) osq := ⟨_, rfl⟩
      have H5 := Lib.hid (show PS w5 P s a bad op mo by rw [hw5]; exact HH.out.below (below_regrown _ _ _))
      have B5 := Lib.hid (show Below w.heap.size w w5 by rw [hw5]; exact below_regrown _ _ _)
      rw [← hw5]
      have d1 := H5.out.c1
      have f1 := H5.out.fz 1
      clear hw5
      go_wp2
      go_ret
      rw [HZ.out.1, HZ.out.2]
      exact ⟨rfl, H5.out.set1 (a + 1), (Chg.of_below B5.out).setCell (p := ⟨P, 1, none⟩) (Nat.le_refl _) (Nat.lt_succ_self _) _⟩
  · have hlt2 : ¬ (a : Int) < (s.size : Int) := by omega
    have hz : hitB s a c = false := by unfold hitB; rw [decide_eq_false hlt]; rfl
    have HZ := Lib.hid (HF.out _ hz)
    clear hz HF
    go_enter Tryz.func94, Tryz.ntmps94
    go_wp2
    (refine wp_region_quiet_below (by kernel_rfl) (by kernel_rfl) ?_; (repeat (go_big_quiet_step (fail))); refine wpQuiet_nil ?_; intro _ hw'; obtain ⟨⟨dq, osq⟩, hw''⟩ := hw'; subst hw'')
    clear g0 g1
    go_wp2
    go_ret
    rw [HZ.out.1, HZ.out.2]
    exact ⟨rfl, HH.out.below (below_regrown _ _ _), Chg.of_below (below_regrown _ _ _)⟩
end Go.Proofs.YtjmfkenhnfdbjaaGreatDoor
