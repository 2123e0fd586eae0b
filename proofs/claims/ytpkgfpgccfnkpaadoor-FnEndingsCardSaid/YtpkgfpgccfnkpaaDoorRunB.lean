/- A list of steps is gone through: the program. No condition but those stated. -/
import Derived.Test.YtpkgfpgccfnkpaaDoorRunA
namespace Go.Proofs.YtpkgfpgccfnkpaaDoor
set_option linter.unusedVariables false
set_option linter.unusedSimpArgs false
open Go.RowKit Go.Sort
/-- The life behind the first k steps, and how many of them were taken. -/
def runTo (l : Lf) (K V : Nat → Int) : Nat → Lf × Nat
  | 0 => (l, 0)
  | k + 1 => if canL (runTo l K V k).1 (K k) (V k) then (rawL (runTo l K V k).1 (K k) (V k), (runTo l K V k).2 + 1) else runTo l K V k
def runOk (l : Lf) (n : Nat) : Bool := l.ok && decide (n ≤ 40)
def runL (l : Lf) (n : Nat) (K V : Nat → Int) : Lf := if runOk l n then (runTo l K V n).1 else zeroL
def runN (l : Lf) (n : Nat) (K V : Nat → Int) : Nat := if runOk l n then (runTo l K V n).2 else 0
theorem runTo_ok {l : Lf} {K V : Nat → Int} (h : l.ok = true) : ∀ k, (runTo l K V k).1.ok = true ∧ (runTo l K V k).2 ≤ k := by
  intro k
  induction k with
  | zero => exact ⟨h, Nat.le_refl _⟩
  | succ k ih =>
    simp only [runTo]
    split
    · rename_i hc
      refine ⟨?_, by have := ih.2; simp; omega⟩
      simp only [canL, Bool.and_eq_true] at hc
      exact hc.2
    · exact ⟨ih.1, by omega⟩
theorem runTo_yes {l : Lf} {K V : Nat → Int} {k : Nat} {x : Lf} {m : Nat} (h : runTo l K V k = (x, m)) (hc : canL x (K k) (V k) = true) : runTo l K V (k + 1) = (rawL x (K k) (V k), m + 1) := by
  simp only [runTo, h, hc, if_true]
theorem runTo_no {l : Lf} {K V : Nat → Int} {k : Nat} {x : Lf} {m : Nat} (h : runTo l K V k = (x, m)) (hc : canL x (K k) (V k) = false) : runTo l K V (k + 1) = (x, m) := by
  simp only [runTo, h, hc]; rfl
def c6 (l : Lf) (i : Nat) : Value := if i = 0 then .int .i64 l.day else if i = 1 then .int .i64 l.state else if i = 2 then .int .i64 l.act else if i = 3 then .int .i64 l.period else if i = 4 then .int .i64 l.closed else .int .i64 l.holds
theorem row6_alloc (w : World) (t : TypeId) (l : Lf) : (w.alloc (.cells #[.int .i64 l.day, .int .i64 l.state, .int .i64 l.act, .int .i64 l.period, .int .i64 l.closed, .int .i64 l.holds] t)).rowIs w.heap.size t 6 (c6 l) :=
  World.rowIs_alloc w #[.int .i64 l.day, .int .i64 l.state, .int .i64 l.act, .int .i64 l.period, .int .i64 l.closed, .int .i64 l.holds] t (c6 l) (fun i hi => by
    match i, hi with
    | 0, _ => rfl
    | 1, _ => rfl
    | 2, _ => rfl
    | 3, _ => rfl
    | 4, _ => rfl
    | 5, _ => rfl
    | n + 6, h => exact absurd h (by simp))
theorem row6_set {w : World} {g : Nat} {t : TypeId} {f : Nat → Value} (l : Lf) (h : w.rowIs g t 6 f) :
    ((((((w.setCell ⟨g, 0, none⟩ (.int .i64 l.day)).setCell ⟨g, 1, none⟩ (.int .i64 l.state)).setCell ⟨g, 2, none⟩ (.int .i64 l.act)).setCell ⟨g, 3, none⟩ (.int .i64 l.period)).setCell ⟨g, 4, none⟩ (.int .i64 l.closed)).setCell ⟨g, 5, none⟩ (.int .i64 l.holds)).rowIs g t 6 (c6 l) := by
  refine ((((((h.set 0 _).set 1 _).set 2 _).set 3 _).set 4 _).set 5 _).congr fun i hi => ?_
  match i, hi with
  | 0, _ => rfl
  | 1, _ => rfl
  | 2, _ => rfl
  | 3, _ => rfl
  | 4, _ => rfl
  | 5, _ => rfl
end Go.Proofs.YtpkgfpgccfnkpaaDoor
