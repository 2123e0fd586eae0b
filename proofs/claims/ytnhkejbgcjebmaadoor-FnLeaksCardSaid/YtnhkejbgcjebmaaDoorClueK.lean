/- StepFor: what it counts. No condition but those stated. -/
import Derived.Test.YtnhkejbgcjebmaaDoorClueE
import Derived.Test.YtnhkejbgcjebmaaDoorClueF
import Derived.Test.YtnhkejbgcjebmaaDoorClueG
import Derived.Test.YtnhkejbgcjebmaaDoorMapC
namespace Go.Proofs.YtnhkejbgcjebmaaDoor
set_option linter.unusedVariables false
set_option linter.unusedSimpArgs false
open Go.RowKit Go.Sort Go.WideMaps Go.Maps
def kI (x : Int) : Lit := .int .i64 x
theorem kI_inj {x y : Int} (h : kI x = kI y) : x = y := by unfold kI at h; injection h
/-- The padded length of the word j. -/
def pF (f : Nat → ByteArray) (s : Int) (j : Nat) : Int := padN (f j).size s
/-- How many words have the padded length x. -/
def cP (n : Nat) (f : Nat → ByteArray) (s x : Int) : Nat := cntB n fun j => decide (pF f s j = x)
theorem cP_le (n : Nat) (f : Nat → ByteArray) (s x : Int) : cP n f s x ≤ n := cntB_le _ _
theorem cP_succ (n : Nat) (f : Nat → ByteArray) (s x : Int) : cP (n + 1) f s x = cP n f s x + (if pF f s n = x then 1 else 0) := by
  unfold cP
  by_cases h : pF f s n = x
  · rw [cntB_yes (by simpa using h), if_pos h]
  · rw [cntB_no (by simpa using h), if_neg h]; rfl
/-- The counts behind m words. -/
noncomputable def cM (f : Nat → ByteArray) (s : Int) : Nat → Lit → Int
  | 0 => fun _ => 0
  | m + 1 => updC (cM f s m) (kI (pF f s m)) (cM f s m (kI (pF f s m)) + 1)
theorem cM_at (f : Nat → ByteArray) (s : Int) (m : Nat) (x : Int) : cM f s m (kI x) = cP m f s x := by
  induction m with
  | zero => rfl
  | succ m ih =>
    rw [cP_succ]
    show updC (cM f s m) (kI (pF f s m)) (cM f s m (kI (pF f s m)) + 1) (kI x) = _
    by_cases h : pF f s m = x
    · subst h; rw [updC_same, ih, if_pos rfl]; omega
    · rw [updC_other (fun e => h (kI_inj e).symm), ih, if_neg h]; omega
/-- Enough words for the word i. -/
def ok1 (n : Nat) (f : Nat → ByteArray) (k s : Int) (i : Nat) : Bool := decide (k ≤ (cP n f s (pF f s i) : Int))
def okS (n : Nat) (f : Nat → ByteArray) (k : Int) (i : Nat) : Bool := allB n (ok1 n f k ((i : Int) + 1))
def stepB (n : Nat) (f : Nat → ByteArray) (k : Int) : Bool := anyB 10 (okS n f k)
def stepI (n : Nat) (f : Nat → ByteArray) (k : Int) : Int := if stepB n f k then firstB 10 (okS n f k) + 1 else 0
def stepG (n : Nat) (f : Nat → ByteArray) (k : Int) : Bool := dictB n f && within k 1 12
theorem stepI_some {n : Nat} {f : Nat → ByteArray} {k : Int} {i : Nat} (hi : i < 10) (h0 : anyB i (okS n f k) = false) (h : okS n f k i = true) : stepB n f k = true ∧ stepI n f k = (i : Int) + 1 := by
  have h1 : stepB n f k = true := anyB_iff.2 ⟨i, hi, h⟩
  refine ⟨h1, ?_⟩
  unfold stepI
  rw [if_pos h1, firstB_some hi h0 h]
theorem stepI_none {n : Nat} {f : Nat → ByteArray} {k : Int} (h0 : anyB 10 (okS n f k) = false) : stepB n f k = false ∧ stepI n f k = 0 := by
  have h1 : stepB n f k = false := h0
  exact ⟨h1, by unfold stepI; rw [h1]; rfl⟩
/-- A word with too few. -/
theorem ok_any (n m : Nat) (f : Nat → ByteArray) (k s : Int) : (anyB m fun j => decide ((cP n f s (pF f s j) : Int) < k)) = !allB m (ok1 n f k s) := by
  cases h : allB m (ok1 n f k s)
  · rw [show (!false) = true from rfl]
    rcases Classical.em (∃ j, j < m ∧ ok1 n f k s j = false) with ⟨j, hj, e⟩ | hno
    · refine anyB_iff.2 ⟨j, hj, ?_⟩
      unfold ok1 at e
      simp only [decide_eq_false_iff_not] at e
      simp only [decide_eq_true_eq]; omega
    · have : allB m (ok1 n f k s) = true := allB_iff.2 fun j hj => by
        cases e : ok1 n f k s j
        · exact absurd ⟨j, hj, e⟩ hno
        · rfl
      rw [this] at h; cases h
  · rw [show (!true) = false from rfl]
    cases e : (anyB m fun j => decide ((cP n f s (pF f s j) : Int) < k))
    · rfl
    · obtain ⟨j, hj, e2⟩ := anyB_iff.1 e
      have := allB_iff.1 h j hj
      unfold ok1 at this
      simp only [decide_eq_true_eq] at this e2
      omega
end Go.Proofs.YtnhkejbgcjebmaaDoor
