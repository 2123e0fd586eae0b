/- What the functions on slices of texts compute, one contract for each. No condition but those stated. -/
import Derived.Test.YtmhelhjjadoiaaaGreatDoorTxtA
import Derived.Test.YtmhelhjjadoiaaaGreatDoorIntsA
namespace Go.Proofs.YtmhelhjjadoiaaaGreatDoor
set_option linter.unusedVariables false
set_option linter.unusedSimpArgs false
open Go.RowKit Go.Sort

/-- The sum of the first k lengths. -/
def sumT (f : Nat → ByteArray) : Nat → Nat
  | 0 => 0
  | k + 1 => sumT f k + (f k).size
theorem sumT_mono (f : Nat → ByteArray) {k n : Nat} (h : k ≤ n) : sumT f k ≤ sumT f n := by
  induction n with
  | zero => have : k = 0 := by omega
            subst this; exact Nat.le_refl _
  | succ n ih =>
    by_cases e : k = n + 1
    · subst e; exact Nat.le_refl _
    · exact Nat.le_trans (ih (by omega)) (by simp [sumT])
theorem sumT_at (f : Nat → ByteArray) {j n : Nat} (h : j < n) : (f j).size ≤ sumT f n :=
  Nat.le_trans (by simp [sumT]) (sumT_mono f (show j + 1 ≤ n from h))
def szT (left : Int) (n : Nat) (f : Nat → ByteArray) : Int := if left - n - sumT f n < 0 then -1 else left - n - sumT f n
theorem szT_small {left : Int} {n : Nat} {f : Nat → ByteArray} (h : 0 ≤ szT left n f) : (n : Int) ≤ left ∧ (sumT f n : Int) ≤ left ∧ ∀ j, j < n → ((f j).size : Int) ≤ left := by
  unfold szT at h
  split at h
  · omega
  · refine ⟨by omega, by omega, fun j hj => ?_⟩
    have := sumT_at f hj
    omega
theorem szT_le {left : Int} {n : Nat} {f : Nat → ByteArray} (h : 0 ≤ szT left n f) : szT left n f ≤ left := by
  unfold szT at h ⊢
  split at h <;> split <;> omega
theorem info_string : (Tryz.prog.info? 9).map (fun i => (i.zero, i.size, i.bytes)) = some (some (.string ByteArray.empty), 1, 16) := by kernel_rfl
/-- A new slice of n texts. -/
def FT (lo : Nat) (w : World) (v : Value) (n : Nat) (f : Nat → ByteArray) : Prop :=
  ∃ g, v = .slice (some ⟨g, 0, none⟩) n n ∧ lo ≤ g ∧ n ≤ 1048576 ∧ w.rowIs g 9 n (fun j => .string (f j))
theorem FT.ti {lo : Nat} {w : World} {v : Value} {n : Nat} {f : Nat → ByteArray} (h : FT lo w v n f) : TI w v n f := by
  obtain ⟨g, rfl, _, hn, hr⟩ := h
  exact ⟨_, _, rfl, fun h0 => ⟨g, 0, rfl, hr.lt, fun j hj => by simpa using hr.cell hj⟩, Nat.le_refl _, by omega⟩
theorem FT.below {lo : Nat} {w w' : World} {v : Value} {n : Nat} {f : Nat → ByteArray} (hb : Below w.heap.size w w') (h : FT lo w v n f) : FT lo w' v n f := by
  obtain ⟨g, e, hl, hn, hr⟩ := h
  exact ⟨g, e, hl, hn, hr.of_block (hb.block g hr.lt)⟩
def eqT (n m : Nat) (f g : Nat → ByteArray) : Bool := decide (n = m) && allB n fun j => (f j).toList == (g j).toList
theorem eqT_refl (n : Nat) (f : Nat → ByteArray) : eqT n n f f = true := by
  unfold eqT
  simp only [decide_true, Bool.true_and]
  exact allB_iff.2 fun j _ => by simp
end Go.Proofs.YtmhelhjjadoiaaaGreatDoor
