/- Plain facts on steps of lives. No condition but those stated. -/
import Derived.Test.YtpkgfpgccfnkpaaEndL
namespace Go.Proofs.Ytpkgfpgccfnkpaa
set_option linter.unusedVariables false
set_option linter.unusedSimpArgs false
open Go.RowKit
theorem canL_ok {L : Lf} {k x : Int} (h : canL L k x = true) : L.ok = true ∧ (rawL L k x).ok = true ∧ fitsL L k = true ∧ (k = 1 ∨ k = 2 ∨ k = 3 ∨ k = 4 ∨ k = 5 ∨ k = 6 ∨ k = 7) := by
  simp only [canL, Bool.and_eq_true] at h
  obtain ⟨⟨⟨h1, h2⟩, h3⟩, h4⟩ := h
  refine ⟨h1, h4, h3, ?_⟩
  by_cases e : k = 1 ∨ k = 6
  · rcases e with e | e <;> simp [e]
  · have e1 : ¬ k = 1 := fun a => e (.inl a)
    have e6 : ¬ k = 6 := fun a => e (.inr a)
    simp [stepOkI, e1, e6, within] at h2
    omega
theorem gone_fact {L : Lf} {k x : Int} (h : canL L k x = true) (hN : (stepL L k x).state = 4) (hL : L.state ≠ 4) :
    k = 7 ∧ L.ok = true ∧ ready L = true ∧ L.state = 1 ∧ daysToEnd L = 0 ∧ L.holds = 0 ∧ L.closed + L.period ≤ L.day ∧ (0 ≤ L.closed ∧ L.closed ≤ 20000) ∧ (0 ≤ L.period ∧ L.period ≤ 20000) ∧ (0 ≤ L.day ∧ L.day ≤ 20000) := by
  obtain ⟨h1, h2, h3, h4⟩ := canL_ok h
  rw [stepL, if_pos h] at hN
  obtain ⟨day, state, act, period, closed, holds⟩ := L
  obtain ⟨a1, a2, a3, a4, a5, a6, a7, a8, a9, a10, a11, a12⟩ := Lf.bounds h1
  simp only at hL
  have hk : k = 7 := by
    rcases h4 with rfl | rfl | rfl | rfl | rfl | rfl | rfl <;> simp [rawL] at hN
    all_goals first | rfl | exact absurd hN hL
  subst hk
  have hs : state = 1 := by simpa [fitsL] using h3
  subst hs
  simp [rawL] at hN
  have ha : act = 3 := by omega
  subst ha
  obtain ⟨b1, b2⟩ := ok_one h1
  have h5 : closed + period ≤ day ∧ holds = 0 := by
    simp [rawL, Lf.ok, within] at h2
    omega
  obtain ⟨h5, rfl⟩ := h5
  refine ⟨rfl, h1, ?_, rfl, ?_, rfl, h5, ⟨b1, a8⟩, ⟨a5, a6⟩, ⟨a1, a2⟩⟩
  · have : ¬ day < closed + period := by omega
    simp [ready, this]
  · have h6 : max (closed + period - day) 0 = 0 := by omega
    simp [daysToEnd, h1, h6]
theorem ended_fact {L : Lf} {k x : Int} (h : canL L k x = true) (hL : 1 < L.state) : k = 1 ∧ (stepL L k x).state = L.state := by
  obtain ⟨h1, h2, h3, h4⟩ := canL_ok h
  rw [stepL, if_pos h]
  obtain ⟨day, state, act, period, closed, holds⟩ := L
  simp only at hL
  have e0 : ¬ state = 0 := by omega
  have e1 : ¬ state = 1 := by omega
  rcases h4 with rfl | rfl | rfl | rfl | rfl | rfl | rfl
  · exact ⟨rfl, rfl⟩
  all_goals (simp [fitsL, e0, e1] at h3)
end Go.Proofs.Ytpkgfpgccfnkpaa
