/- What the functions on slices of numbers compute, one contract for each. No condition but those stated. -/
import Derived.Test.YtcdffikambbleaaIntsB
namespace Go.Proofs.Ytcdffikambbleaa
set_option linter.unusedVariables false
open Go.RowKit Go.Sort

theorem C_IsReview1 (x : Int) (w : World) :
    Calls Try.prog 75 #[.int .i64 x] w fun e w' => e = .returned (.bool (!within x 1 3)) ∧ w = w' := by
  go_enter Try.func75, Try.ntmps75
  go_wp2_with (go_at_call 76; refine (C_within _ _ _ _).mono ?_; rintro e w' ⟨rfl, rfl⟩)
  go_ret
  exact ⟨ret_bool rfl, rfl⟩

theorem C_IndexFunc_R (v : Value) (n : Nat) (f : Nat → Int) (w : World) (h : SI w v n f) :
    Calls Try.prog 109 #[v, .func (.func 75) #[] #[]] w fun e w' => e = .returned (.int .i64 (firstB n fun j => !within (f j) 1 3)) ∧ w = w' := by
  obtain ⟨A, cap, rfl, hr, hc, hm⟩ := h
  have HR := Lib.hid hr; clear hr
  go_enter Try.func109, Try.ntmps109
  go_wp2
  go_loop [8] (fun i => ∃ k : Nat, k ≤ n ∧ i = .int .i64 k ∧ anyB k (fun j => !within (f j) 1 3) = false) (fun i => n - (intOf i).toNat)
  case atStart => exact ⟨0, Nat.zero_le _, rfl, rfl⟩
  case round =>
    obtain ⟨k, hk, rfl, ha⟩ := hrel
    have HA := Lib.hid ha; clear ha
    by_cases hlt : k < n
    · obtain ⟨b, off, rfl, hb, hcell⟩ := HR.out (by omega)
      have hck := hcell k hlt
      clear hcell
      go_wp2_with (go_at_call 75; refine (C_IsReview1 _ _).mono ?_; rintro e w' ⟨rfl, rfl⟩)
      all_goals first
        | (go_ret; exact ⟨ret_int (firstB_some hlt HA.out (by (first | (simp [*]; done) | (go_light; simp_all; done) | (go_light; simp_all; omega)))).symm, rfl⟩)
        | (go_round; (case rel => exact ⟨k + 1, by omega, by go_num, anyB_next HA.out (by (first | (simp [*]; done) | (go_light; simp_all; done) | (go_light; simp_all; omega)))⟩); (case measure => simp [intOf]; omega))
    · go_wp2
      (go_ret; obtain rfl : k = n := (by omega); exact ⟨ret_int (firstB_none HA.out).symm, rfl⟩)
theorem C_ContainsFunc_R (v : Value) (n : Nat) (f : Nat → Int) (w : World) (h : SI w v n f) :
    Calls Try.prog 74 #[v, .func (.func 75) #[] #[]] w fun e w' => e = .returned (.bool (anyB n fun j => !within (f j) 1 3)) ∧ w = w' := by
  go_enter Try.func74, Try.ntmps74
  go_wp2_with (go_at_call 109; refine (C_IndexFunc_R _ _ _ _ (by assumption)).mono ?_; rintro e w' ⟨rfl, rfl⟩)
  go_ret
  exact ⟨ret_bool firstB_ge, rfl⟩
end Go.Proofs.Ytcdffikambbleaa
