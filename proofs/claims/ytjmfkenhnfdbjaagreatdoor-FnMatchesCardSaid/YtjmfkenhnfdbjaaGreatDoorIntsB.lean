/- What the functions on slices of numbers compute, one contract for each. No condition but those stated. -/
import Derived.Test.YtjmfkenhnfdbjaaGreatDoorIntsA
namespace Go.Proofs.YtjmfkenhnfdbjaaGreatDoor
set_option linter.unusedVariables false
open Go.RowKit Go.Sort


def eqI (n m : Nat) (f g : Nat → Int) : Bool := decide (n = m) && allB n fun j => f j == g j

theorem fill_step (F : Nat → Value) (z : Value) (k i : Nat) : (if i = k then F k else if i < k then F i else z) = if i < k + 1 then F i else z := by
  by_cases e : i = k
  · subst e; simp
  · rw [if_neg e]
    by_cases e2 : i < k
    · rw [if_pos e2, if_pos (by omega)]
    · rw [if_neg e2, if_neg (by omega)]
theorem info_int : (Tryz.prog.info? 3).map (fun i => (i.zero, i.size, i.bytes)) = some (some (.int .i64 0), 1, 8) := by kernel_rfl
end Go.Proofs.YtjmfkenhnfdbjaaGreatDoor
