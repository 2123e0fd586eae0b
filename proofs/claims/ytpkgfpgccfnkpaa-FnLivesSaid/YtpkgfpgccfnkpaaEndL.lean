/- Plain facts on lives and their ends. No condition but those stated. -/
import Derived.Test.YtpkgfpgccfnkpaaLifeD
import Derived.Test.YtpkgfpgccfnkpaaLifeB
namespace Go.Proofs.Ytpkgfpgccfnkpaa
set_option linter.unusedVariables false
set_option linter.unusedSimpArgs false
open Go.RowKit
theorem ok_one {day act period closed holds : Int} (h : (⟨day, 1, act, period, closed, holds⟩ : Lf).ok = true) : 0 ≤ closed ∧ closed ≤ day := by
  simp [Lf.ok, within] at h; omega
theorem ends_fact {L : Lf} (h : L.ok = true) : canL L 7 0 = ready L := by
  obtain ⟨day, state, act, period, closed, holds⟩ := L
  obtain ⟨a1, a2, a3, a4, a5, a6, a7, a8, a9, a10, a11, a12⟩ := Lf.bounds h
  have e : canL ⟨day, state, act, period, closed, holds⟩ 7 0 = (decide (state = 1) && (⟨day, 1 + act, act, period, closed, holds⟩ : Lf).ok) := by
    simp [canL, h, stepOkI, within, fitsL, rawL]; rfl
  rw [e]
  by_cases h1 : state = 1
  · subst h1
    obtain ⟨b1, b2⟩ := ok_one h
    rw [Bool.eq_iff_iff]
    simp [Lf.ok, within, ready]
    have : ¬ 1 + act = 0 := by omega
    have : ¬ 1 + act = 1 := by omega
    simp [*]
    omega
  · have : ready ⟨day, state, act, period, closed, holds⟩ = false := by
      by_cases h0 : state = 0
      · simp [ready, h0]
      · have : state > 1 := by omega
        simp [ready, this]
    rw [this]; simp [h1]
theorem early_fact {L : Lf} (h : L.ok = true) (h1 : L.state = 1) (hd : 0 < daysToEnd L) : daysToEnd L = L.closed + L.period - L.day ∧ whyNotEnd L = ⟨#[101, 97, 114, 108, 121]⟩ := by
  obtain ⟨day, state, act, period, closed, holds⟩ := L
  simp only at h1
  subst h1
  simp only [daysToEnd, h, Bool.true_and, beq_self_eq_true, if_true] at hd ⊢
  refine ⟨by omega, ?_⟩
  simp only [whyNotEnd, h, if_true, whyNot]
  rw [if_neg (by omega), if_neg (by decide), if_pos (by omega)]
theorem later_fact {L : Lf} (h : L.ok = true) (h1 : L.state = 1) (hd : 0 < daysToEnd L) (hc : canL L 1 (daysToEnd L) = true) :
    (stepL L 1 (daysToEnd L)).ok = true ∧ (whyNotEnd (stepL L 1 (daysToEnd L)) = ⟨#[104, 101, 108, 100]⟩ ∨ whyNotEnd (stepL L 1 (daysToEnd L)) = ⟨#[114, 101, 97, 100, 121]⟩) := by
  obtain ⟨e, _⟩ := early_fact h h1 hd
  have hs : stepL L 1 (daysToEnd L) = rawL L 1 (daysToEnd L) := by simp [stepL, hc]
  have ho : (rawL L 1 (daysToEnd L)).ok = true := by
    simp only [canL, Bool.and_eq_true] at hc; exact hc.2
  rw [hs]
  refine ⟨ho, ?_⟩
  simp only [whyNotEnd, ho, if_true]
  obtain ⟨day, state, act, period, closed, holds⟩ := L
  simp only at h1 e
  subst h1
  simp only [rawL, e, beq_self_eq_true, if_true, whyNot]
  rw [if_neg (by omega), if_neg (by decide), if_neg (by omega)]
  split
  · exact .inl rfl
  · exact .inr rfl
theorem word_fact {L : Lf} (h : L.ok = true) : ((whyNotEnd L).toList == [114, 101, 97, 100, 121]) = ready L := by
  simp only [whyNotEnd, h, if_true]
  rcases whyNot_cases L with ⟨a, b⟩ | ⟨a, b⟩ | ⟨a, b⟩ | ⟨a, b⟩ | ⟨a, b⟩ <;> (rw [a, b]; decide +kernel)
theorem early_word {L : Lf} (h : L.ok = true) (h1 : L.state = 1) (hd : 0 < daysToEnd L) : ((whyNotEnd L).toList == [101, 97, 114, 108, 121]) = true := by
  rw [(early_fact h h1 hd).2]; decide +kernel
theorem later_word {L : Lf} (h : L.ok = true) (h1 : L.state = 1) (hd : 0 < daysToEnd L) (hc : canL L 1 (daysToEnd L) = true) :
    ((whyNotEnd (stepL L 1 (daysToEnd L))).toList == [101, 97, 114, 108, 121]) = false := by
  rcases (later_fact h h1 hd hc).2 with e | e <;> (rw [e]; decide +kernel)
end Go.Proofs.Ytpkgfpgccfnkpaa
