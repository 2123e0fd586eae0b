/- What the functions on slices of numbers compute, one contract for each. No condition but those stated. -/
import Derived.Test.YtjmfkenhnfdbjaaGreatDoorMem
import Derived.Lib.QuietBelow
namespace Go.Proofs.YtjmfkenhnfdbjaaGreatDoor
set_option linter.unusedVariables false
open Go.RowKit Go.Sort

theorem C_l1Has (v : Value) (n : Nat) (f : Nat → Int) (x : Int) (w : World) (h : SI w v n f) :
    Calls Tryz.prog 60 #[v, .int .i64 x] w fun e w' => e = .returned (.bool (anyB n fun j => f j == x)) ∧ w = w' := by
  obtain ⟨A, cap, rfl, hr, hc, hm⟩ := h
  have HR := Lib.hid hr; clear hr
  go_enter Tryz.func60, Tryz.ntmps60
  go_wp2
  go_loop [5] (fun i => ∃ k : Nat, k ≤ n ∧ i = .int .i64 k ∧ anyB k (fun j => f j == x) = false) (fun i => n - (intOf i).toNat)
  case atStart => exact ⟨0, Nat.zero_le _, rfl, rfl⟩
  case round =>
    obtain ⟨k, hk, rfl, ha⟩ := hrel
    have HA := Lib.hid ha; clear ha
    by_cases hlt : k < n
    · obtain ⟨b, off, rfl, hb, hcell⟩ := HR.out (by omega)
      have hck := hcell k hlt
      clear hcell
      go_wp2
      all_goals first
        | (go_ret; exact ⟨ret_bool (anyB_of hlt (by simp [*])).symm, rfl⟩)
        | (go_round; (case rel => exact ⟨k + 1, by omega, by go_num, anyB_next HA.out (by simp [*])⟩); (case measure => simp [intOf]; omega))
    · go_wp2
      (go_ret; obtain rfl : k = n := (by omega); exact ⟨ret_bool HA.out.symm, rfl⟩)


/-- Whether slices.Index and slices.IndexFunc tell a place. -/
def firstB (n : Nat) (p : Nat → Bool) : Int := match (List.range n).find? p with | some j => (j : Int) | none => -1
theorem firstB_none {n : Nat} {p : Nat → Bool} (h : anyB n p = false) : firstB n p = -1 := by
  have : (List.range n).find? p = none := by
    rw [List.find?_eq_none]; intro j hj
    have : ¬ anyB n p = true := by simp [h]
    intro hp; exact this (anyB_iff.2 ⟨j, List.mem_range.1 hj, hp⟩)
  simp [firstB, this]
theorem firstB_some {n k : Nat} {p : Nat → Bool} (hk : k < n) (h0 : anyB k p = false) (h : p k = true) : firstB n p = (k : Int) := by
  have : (List.range n).find? p = some k := by
    rw [List.find?_range_eq_some]
    refine ⟨h, List.mem_range.2 hk, fun j hj => ?_⟩
    cases e : p j with
    | false => rfl
    | true => rw [anyB_of hj e] at h0; cases h0
  simp [firstB, this]
theorem firstB_ge {n : Nat} {p : Nat → Bool} : decide ((0 : Int) ≤ firstB n p) = anyB n p := by
  cases e : anyB n p with
  | false => rw [firstB_none e]; rfl
  | true =>
    have : ∃ k, k < n ∧ anyB k p = false ∧ p k = true := by
      obtain ⟨j, hj, hp⟩ := anyB_iff.1 e
      clear e
      induction j using Nat.strongRecOn with
      | _ j ih =>
        cases ha : anyB j p with
        | false => exact ⟨j, hj, ha, hp⟩
        | true =>
          obtain ⟨i, hi, hpi⟩ := anyB_iff.1 ha
          exact ih i hi (by omega) hpi
    obtain ⟨k, hk, h0, h⟩ := this
    rw [firstB_some hk h0 h]; simp



end Go.Proofs.YtjmfkenhnfdbjaaGreatDoor
