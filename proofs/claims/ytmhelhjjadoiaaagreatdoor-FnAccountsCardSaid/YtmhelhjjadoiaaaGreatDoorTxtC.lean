/- Words: the program's test and the reference's. No condition but those stated. -/
import Derived.Test.YtmhelhjjadoiaaaGreatDoorTxtA
import Derived.Test.YtmhelhjjadoiaaaGreatDoorTrimLay
namespace Go.Proofs.YtmhelhjjadoiaaaGreatDoor
set_option linter.unusedVariables false
set_option linter.unusedSimpArgs false
open Go.RowKit Go.Sort Go.Shelf
theorem isEmpty_toList (s : ByteArray) : s.toList.isEmpty = decide (s.size = 0) := by
  rw [Lib.toList_data, Lib.size_eq]
  cases s.data.toList <;> simp
theorem C_Trim (s : ByteArray) (w : World) (hs : s.size ≤ 9223372036854775807) :
    Calls Tryz.prog 85 #[.string s, .string ⟨#[97, 98, 99, 100, 101, 102, 103, 104, 105, 106, 107, 108, 109, 110, 111, 112, 113, 114, 115, 116, 117, 118, 119, 120, 121, 122]⟩] w fun e w' => (∃ r : ByteArray, r.toList.isEmpty = lowS s ∧ e = .returned (.string r)) ∧ Below w.heap.size w w' :=
  (Any.strings_Trim_laid Tryz.lays160 (by kernel_rfl) s ⟨#[97, 98, 99, 100, 101, 102, 103, 104, 105, 106, 107, 108, 109, 110, 111, 112, 113, 114, 115, 116, 117, 118, 119, 120, 121, 122]⟩ w hs (by decide) (ascii_of_all (by decide))).mono
    fun e w' hh => ⟨⟨_, by rw [Lib.toList_data]; exact trim_letters s, hh.1⟩, hh.2⟩
theorem C_isWord (s : ByteArray) (w : World) (hs : s.size ≤ 9223372036854775807) :
    Calls Tryz.prog 59 #[.string s] w fun e w' => e = .returned (.bool (wordB s)) ∧ Below w.heap.size w w' := by
  unfold wordB
  cases hok : within s.size 1 10
  · go_enter Tryz.func59, Tryz.ntmps59
    go_wp2_with (go_at_call 52; refine (C_within _ _ _ _).mono ?_; rintro e w' ⟨rfl, rfl⟩; rw [hok])
    go_ret
    exact ⟨rfl, Below.refl _ _⟩
  · go_enter Tryz.func59, Tryz.ntmps59
    go_wp2_with (first | (go_at_call 52; refine (C_within _ _ _ _).mono ?_; rintro e w' ⟨rfl, rfl⟩; rw [hok]) | (go_at_call 85; refine (C_Trim s _ hs).mono ?_; rintro e w' ⟨⟨r, hr, rfl⟩, hb'⟩; have HR := Lib.hid hr; clear hr))
    all_goals go_ret
    all_goals refine ⟨ret_bool ?_, by assumption⟩
    all_goals (have hr := HR.out; simp_all)
theorem lowS_at (s : ByteArray) : lowS s = true ↔ ∀ (j : Nat) (h : j < s.size), lowB s[j] = true := by
  unfold lowS
  rw [List.all_eq_true]
  constructor
  · intro h j hj
    exact h _ (by
      have : s[j] = s.data.toList[j]'(by rw [← Lib.size_eq]; exact hj) := rfl
      rw [this]; exact List.getElem_mem _)
  · intro h x hx
    obtain ⟨j, hj, rfl⟩ := List.mem_iff_getElem.1 hx
    exact h j (by rw [Lib.size_eq]; exact hj)
theorem C_l2Word (s : ByteArray) (w : World) (hs : s.size ≤ 9223372036854775807) :
    Calls Tryz.prog 78 #[.string s] w fun e w' => e = .returned (.bool (wordB s)) ∧ w = w' := by
  go_enter Tryz.func78, Tryz.ntmps78
  go_wp2
  go_loop [3] (fun i => ∃ k : Nat, k ≤ s.size ∧ i = .int .i64 k ∧ ∀ (j : Nat) (h : j < s.size), j < k → lowB s[j] = true) (fun i => s.size - (intOf i).toNat)
  case atStart => exact ⟨0, Nat.zero_le _, rfl, fun j h h0 => absurd h0 (by omega)⟩
  case round =>
    obtain ⟨k, hk, rfl, ha⟩ := hrel
    have HA := Lib.hid ha; clear ha
    by_cases hlt : k < s.size
    · have hbad : lowB s[k] = false → wordB s = false := fun h => by
        unfold wordB
        have : lowS s = false := by
          rw [Bool.eq_false_iff]; intro hl
          rw [lowS_at] at hl
          rw [hl k hlt] at h; cases h
        rw [this, Bool.and_false]
      have HBAD := Lib.hid hbad
      clear hbad
      go_wp2
      all_goals first
        | (go_ret; exact ⟨ret_bool (HBAD.out (by unfold lowB; simp; omega)).symm, rfl⟩)
        | (go_round; (case rel => exact ⟨k + 1, by omega, by go_num, fun j h h0 => by
            by_cases e : j = k
            · subst e; unfold lowB; simp; omega
            · exact HA.out j h (by omega)⟩); (case measure => simp [intOf]; omega))
    · obtain rfl : k = s.size := by omega
      have hl : lowS s = true := (lowS_at s).2 fun j h => HA.out j h h
      have HL := Lib.hid hl
      clear hl
      go_wp2_with (go_at_call 54; refine (C_l1In _ _ _ _).mono ?_; rintro e w' ⟨rfl, rfl⟩)
      go_ret
      exact ⟨ret_bool (by unfold wordB; rw [HL.out, Bool.and_true]), rfl⟩
end Go.Proofs.YtmhelhjjadoiaaaGreatDoor
