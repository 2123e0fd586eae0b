/- The order of reasons. No condition but those stated. -/
import Derived.Test.YtmhelhjjadoiaaaDoorSmA
import Derived.Sort.LotA
import Derived.Sort.Walk0
import Derived.Shelf.SlSortCmp.Whole1
namespace Go.Proofs.YtmhelhjjadoiaaaDoor
set_option linter.unusedVariables false
set_option linter.unusedSimpArgs false
open Go.RowKit Go.Sort Go.Lib
/-- A text that may be a key. -/
structure Wd where
  s : ByteArray
  le : s.size ≤ 9223372036854775807
instance : Inhabited Wd := ⟨⟨ByteArray.empty, by decide⟩⟩
def encW (x : Wd) : Value := .string x.1
def cfW (c : Lit → Int) (x y : Wd) : Int := cmpR c x.1 y.1
theorem cmpR_neg (c : Lit → Int) (a b : ByteArray) : cmpR c a b < 0 ↔ c (kS b) < c (kS a) ∨ (c (kS b) = c (kS a) ∧ a.toList < b.toList) := by
  unfold cmpR orI cmpI cmpS
  rw [bytesLess_eq]
  by_cases h1 : c (kS b) < c (kS a)
  · simp [h1]
  · by_cases h2 : c (kS a) < c (kS b)
    · have h3 : ¬ c (kS b) = c (kS a) := by omega
      simp [h1, h2, h3]
    · have h3 : c (kS b) = c (kS a) := by omega
      simp only [h1, h2, h3, if_false, if_true, true_and, false_or]
      by_cases h4 : a.toList < b.toList
      · simp [h4]
      · by_cases h5 : a.toList = b.toList
        · have hi : ¬ b.toList < b.toList := List.lt_irrefl _
          simp [h5, hi]
        · simp [h4, h5]
theorem lt_cfW (c : Lit → Int) (x y : Wd) : (ltOf (cfW c) x y = true) ↔ c (kS y.1) < c (kS x.1) ∨ (c (kS y.1) = c (kS x.1) ∧ x.1.toList < y.1.toList) := by
  rw [← cmpR_neg]
  unfold ltOf cfW
  exact decide_eq_true_iff
theorem swoW (c : Lit → Int) : SWO (ltOf (cfW c)) where
  irrefl x := by
    rw [Bool.eq_false_iff]
    intro h
    rcases (lt_cfW c x x).1 h with h | ⟨_, h⟩
    · omega
    · exact List.lt_irrefl _ h
  trans x y z h1 h2 := by
    rw [lt_cfW] at *
    rcases h1 with h1 | ⟨e1, h1⟩ <;> rcases h2 with h2 | ⟨e2, h2⟩
    · left; omega
    · left; omega
    · left; omega
    · right; exact ⟨by omega, List.lt_trans h1 h2⟩
  ntrans x y z h1 h2 := by
    rw [Bool.eq_false_iff] at *
    intro h
    rw [Ne, lt_cfW] at h1 h2
    rw [lt_cfW] at h
    rcases h with h | ⟨e, h⟩
    · by_cases h3 : c (kS y.1) < c (kS x.1)
      · exact h1 (.inl h3)
      · exact h2 (.inl (by omega))
    · by_cases h3 : c (kS y.1) < c (kS x.1)
      · exact h1 (.inl h3)
      · by_cases h4 : c (kS z.1) < c (kS y.1)
        · exact h2 (.inl h4)
        · have a1 : ¬ x.1.toList < y.1.toList := fun hh => h1 (.inr ⟨by omega, hh⟩)
          have a2 : ¬ y.1.toList < z.1.toList := fun hh => h2 (.inr ⟨by omega, hh⟩)
          exact absurd h (List.not_lt.2 (List.le_trans (List.not_lt.1 a2) (List.not_lt.1 a1)))
end Go.Proofs.YtmhelhjjadoiaaaDoor
