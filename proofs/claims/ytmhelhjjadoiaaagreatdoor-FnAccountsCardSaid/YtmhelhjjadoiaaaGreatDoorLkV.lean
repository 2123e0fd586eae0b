/- How many looks have a reason: the reference's count. No condition but those stated. -/
import Derived.Test.YtmhelhjjadoiaaaGreatDoorLkC
namespace Go.Proofs.YtmhelhjjadoiaaaGreatDoor
set_option linter.unusedVariables false
set_option linter.unusedSimpArgs false
open Go.RowKit Go.Sort
/-- How many of the first k looks have the reason s. -/
def cntS (R : Nat → Lk) (s : ByteArray) : Nat → Nat
  | 0 => 0
  | k + 1 => if (R k).why.toList == s.toList then cntS R s k + 1 else cntS R s k
theorem cntS_le (R : Nat → Lk) (s : ByteArray) (k : Nat) : cntS R s k ≤ k := by
  induction k with
  | zero => exact Nat.le_refl _
  | succ k ih => simp only [cntS]; split <;> omega
theorem cntS_yes {R : Nat → Lk} {s : ByteArray} {k : Nat} (h : ((R k).why.toList == s.toList) = true) : cntS R s (k + 1) = cntS R s k + 1 := by simp only [cntS, h, if_true]
theorem cntS_no {R : Nat → Lk} {s : ByteArray} {k : Nat} (h : ((R k).why.toList == s.toList) = false) : cntS R s (k + 1) = cntS R s k := by simp only [cntS, h]; rfl
theorem C_l22Count (v : Value) (n : Nat) (R : Nat → Lk) (s : ByteArray) (w : World) (h : LKs w v n R) (hn : n ≤ 1048576) :
    Calls Tryz.prog 72 #[v, .string s] w fun e w' => e = .returned (.int .i64 (cntS R s n : Nat)) ∧ w = w' := by
  obtain ⟨A, cap, rfl, hr, hc, hm⟩ := h
  have HR := Lib.hid hr; clear hr
  go_enter Tryz.func72, Tryz.ntmps72
  go_wp2
  go_loop [5, 6] (fun q i => ∃ k : Nat, k ≤ n ∧ i = .int .i64 k ∧ q = .int .i64 (cntS R s k : Nat)) (fun _ i => n - (intOf i).toNat)
  case atStart => exact ⟨0, Nat.zero_le _, rfl, rfl⟩
  case round =>
    obtain ⟨k, hk, rfl, rfl⟩ := hrel
    have hle := cntS_le R s k
    by_cases hlt : k < n
    · obtain ⟨b, off, rfl, hb, hcell⟩ := HR.out (by omega)
      obtain ⟨c0, c1, c2, c3, c4⟩ := hcell k hlt
      clear hcell
      cases he : ((R k).why.toList == s.toList)
      · have HE := Lib.hid he
        go_wp2
        go_round
        case rel => exact ⟨k + 1, by omega, by go_num, by rw [cntS_no HE.out]⟩
        case measure => simp [intOf]; omega
      · have HE := Lib.hid he
        go_wp2
        go_round
        case rel => exact ⟨k + 1, by omega, by go_num, by rw [cntS_yes HE.out]; go_num⟩
        case measure => simp [intOf]; omega
    · obtain rfl : k = n := by omega
      go_wp2
      go_ret
      exact ⟨rfl, rfl⟩
end Go.Proofs.YtmhelhjjadoiaaaGreatDoor
