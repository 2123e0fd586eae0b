/- Marks of slices of slices of numbers; rows appended. No condition but those stated. -/
import Derived.Test.YtmhelhjjadoiaaaGreatDoorRevQ
namespace Go.Proofs.YtmhelhjjadoiaaaGreatDoor
set_option linter.unusedVariables false
set_option linter.unusedSimpArgs false
open Go.RowKit Go.Sort
def ms (L : Nat → List Int) : Nat → Int
  | 0 => 1
  | j + 1 => ms L j + ((L j).length : Int)
def msd (L : Nat → List Int) (j : Nat) : List Int := (List.range (L j).length).map fun (i : Nat) => ms L j + (i : Int)
theorem ms_le {L : Nat → List Int} {n : Nat} (h : ∀ j, j < n → (L j).length ≤ 1048576) : ∀ k, k ≤ n → 1 ≤ ms L k ∧ ms L k ≤ 1 + k * 1048576 := by
  intro k
  induction k with
  | zero => intro _; simp [ms]
  | succ k ih =>
    intro hk
    have := ih (by omega)
    have := h k (by omega)
    simp only [ms]
    omega
end Go.Proofs.YtmhelhjjadoiaaaGreatDoor
