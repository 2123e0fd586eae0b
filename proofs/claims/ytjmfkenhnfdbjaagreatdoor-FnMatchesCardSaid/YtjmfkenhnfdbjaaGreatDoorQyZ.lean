/- Records of the laws, one by one and in lists: copies, comparisons, marks. No condition but those stated. -/
import Derived.Test.YtjmfkenhnfdbjaaGreatDoorQyY
namespace Go.Proofs.YtjmfkenhnfdbjaaGreatDoor
set_option linter.unusedVariables false
set_option linter.unusedSimpArgs false
open Go.RowKit Go.Sort
theorem FE.setCell {lo hi : Nat} {w : World} {v : Value} {R : Rc} (h : FE lo hi w v R) {b i : Nat} (hb : b < lo) (u : Value) : FE lo hi (w.setCell ⟨b, i, none⟩ u) v R := by
  obtain ⟨g, e, h1, h2, hn, hr⟩ := h
  exact ⟨g, e, h1, h2, hn, hr.setOther (a := ⟨b, i, none⟩) (by show g ≠ b; omega) u⟩
/-- The slice is the records. -/
def RcAt (w : World) (b o : Nat) (R : Rc) (sv : Value) : Prop :=
  EvS w sv R ∧ w.cell? ⟨b, o, none⟩ = some (.int .i64 R.id) ∧ w.cell? ⟨b, o + 1, none⟩ = some (.int .i64 R.ser) ∧ w.cell? ⟨b, o + 2, none⟩ = some (.int .i64 R.made) ∧ w.cell? ⟨b, o + 3, none⟩ = some sv
theorem RcAt.below {w w' : World} {b o : Nat} {R : Rc} {sv : Value} (hb : Below w.heap.size w w') (hl : b < w.heap.size) (h : RcAt w b o R sv) : RcAt w' b o R sv :=
  ⟨h.1.below hb, (hb.cell (p := ⟨b, o, none⟩) hl).trans h.2.1, (hb.cell (p := ⟨b, o + 1, none⟩) hl).trans h.2.2.1, (hb.cell (p := ⟨b, o + 2, none⟩) hl).trans h.2.2.2.1, (hb.cell (p := ⟨b, o + 3, none⟩) hl).trans h.2.2.2.2⟩
def RcR (w : World) (A : Option Addr) (n : Nat) (R : Nat → Rc) : Prop :=
  0 < n → ∃ b off, A = some ⟨b, off, none⟩ ∧ b < w.heap.size ∧ ∀ j, j < n → ∃ sv, RcAt w b (off + j * 4) (R j) sv
theorem RcR.below {w w' : World} {A : Option Addr} {n : Nat} {R : Nat → Rc} (hb : Below w.heap.size w w') (h : RcR w A n R) : RcR w' A n R := fun h0 => by
  obtain ⟨b, off, e, hl, hc⟩ := h h0
  refine ⟨b, off, e, Nat.lt_of_lt_of_le hl hb.size, fun j hj => ?_⟩
  obtain ⟨sv, hs⟩ := hc j hj
  exact ⟨sv, hs.below hb hl⟩
def RcS (w : World) (v : Value) (n : Nat) (R : Nat → Rc) : Prop :=
  ∃ A cap, v = .slice A n cap ∧ RcR w A n R ∧ n ≤ cap ∧ cap ≤ 9223372036854775807
theorem RcS.below {w w' : World} {v : Value} {n : Nat} {R : Nat → Rc} (hb : Below w.heap.size w w') (h : RcS w v n R) : RcS w' v n R :=
  let ⟨A, cap, e, hr, h2⟩ := h
  ⟨A, cap, e, hr.below hb, h2⟩
/-- How much of the budget is left. -/
def szR (left : Int) (R : Nat → Rc) : Nat → Int
  | 0 => left
  | k + 1 => if szR left R k < 0 then -1 else szE (szR left R k) (R k).n
def szRs (left : Int) (n : Nat) (R : Nat → Rc) : Int := if left - n < 0 then -1 else szR (left - n) R n
theorem szR_neg {left : Int} {R : Nat → Rc} {k : Nat} (h : szR left R (k + 1) < 0) : ∀ m, k + 1 ≤ m → szR left R m = -1 := by
  intro m hm
  induction m with
  | zero => omega
  | succ m ih =>
    by_cases e : k + 1 ≤ m
    · have := ih e
      simp [szR, this]
    · obtain rfl : k = m := by omega
      simp only [szR] at h ⊢
      split
      · rfl
      · rename_i h2
        rw [if_neg h2] at h
        exact szE_neg h
theorem szR_pos {left : Int} {R : Nat → Rc} {k : Nat} (h : 0 ≤ szR left R (k + 1)) : 0 ≤ szR left R k ∧ szR left R (k + 1) ≤ szR left R k ∧ ((R k).n : Int) ≤ szR left R k := by
  simp only [szR] at h ⊢
  by_cases h2 : szR left R k < 0
  · rw [if_pos h2] at h; omega
  · rw [if_neg h2] at h ⊢
    have := szE_small h
    omega
theorem szR_small {left : Int} {R : Nat → Rc} {k : Nat} (h : 0 ≤ szR left R k) : szR left R k ≤ left ∧ ∀ j, j < k → ((R j).n : Int) ≤ left := by
  induction k with
  | zero => exact ⟨by simp [szR], fun j hj => by omega⟩
  | succ k ih =>
    obtain ⟨h1, h2, h3⟩ := szR_pos h
    obtain ⟨h4, h5⟩ := ih h1
    refine ⟨by omega, fun j hj => ?_⟩
    by_cases e : j = k
    · subst e; omega
    · exact h5 j (by omega)
theorem szRs_small {n : Nat} {R : Nat → Rc} (h : 0 ≤ szRs 1048576 n R) : n ≤ 1048576 ∧ ∀ j, j < n → (R j).n ≤ 1048576 := by
  unfold szRs at h
  split at h
  · omega
  · obtain ⟨h1, h2⟩ := szR_small h
    exact ⟨by omega, fun j hj => by have := h2 j hj; omega⟩
end Go.Proofs.YtjmfkenhnfdbjaaGreatDoor
