/- Facts on looks that FnLooks and FnAccounts ask for. No condition but those stated. -/
import Derived.Test.YtmhelhjjadoiaaaGreatDoorLkD
import Derived.Test.YtmhelhjjadoiaaaGreatDoorLkE
import Derived.Test.YtmhelhjjadoiaaaGreatDoorLkF
import Derived.Test.YtmhelhjjadoiaaaGreatDoorLkQ
import Derived.Test.YtmhelhjjadoiaaaGreatDoorLkI
namespace Go.Proofs.YtmhelhjjadoiaaaGreatDoor
set_option linter.unusedVariables false
set_option linter.unusedSimpArgs false
theorem accB_lt {n : Nat} {R : Nat → Lk} (h : accB n R = true) : ∀ i j, i < j → j < n → (R i).tick < (R j).tick := by
  have hg : allB n (acc1 R) = true := by unfold accB at h; simp only [Bool.and_eq_true] at h; exact h.1
  have step : ∀ j, j + 1 < n → (R j).tick < (R (j + 1)).tick := fun j hj => by
    have := allB_iff.1 hg (j + 1) hj
    rw [acc1_succ, Bool.and_eq_true, decide_eq_true_eq] at this
    exact this.2
  intro i j
  induction j with
  | zero => intro h _; omega
  | succ j ih =>
    intro hi hj
    have := step j hj
    by_cases e : i = j
    · subst e; exact this
    · have := ih (by omega) (by omega); omega
theorem lastM_hit (R : Nat → Lk) (x : Int) : ∀ n, 0 ≤ lastM R x n → ∃ i, i < n ∧ lastM R x n = (i : Int) ∧ (R i).rid = x := by
  intro n
  induction n with
  | zero => intro h; simp [lastM] at h
  | succ n ih =>
    intro h
    simp only [lastM] at h ⊢
    split
    · rename_i hc
      simp only [Bool.and_eq_true, beq_iff_eq] at hc
      exact ⟨n, by omega, rfl, hc.1⟩
    · rename_i hc
      rw [if_neg hc] at h
      obtain ⟨i, h1, h2, h3⟩ := ih h
      exact ⟨i, by omega, h2, h3⟩
theorem whoL_mem (R : Nat → Lk) (x : Int) : ∀ n i, i < n → (R i).rid = x → (R i).who ∈ whoL R x n := by
  intro n
  induction n with
  | zero => intro i h; omega
  | succ n ih =>
    intro i hi hr
    by_cases e : i = n
    · subst e
      rw [whoL_yes (by simpa using hr)]; simp
    · have := ih i (by omega) hr
      cases hc : ((R n).rid == x)
      · rw [whoL_no hc]; exact this
      · rw [whoL_yes hc]; exact List.mem_append_left _ this
/-- Who changed a record last saw it. -/
theorem saw_fact {n : Nat} {R : Nat → Lk} {x : Int} (h : lcOk n R x = true) : anyB (wsL n R x).length (fun j => ai (wsL n R x) j == lcW n R x) = true := by
  have h0 := h
  unfold lcOk at h
  simp only [Bool.and_eq_true, decide_eq_true_eq] at h
  obtain ⟨⟨h1, h2⟩, h3⟩ := h
  obtain ⟨i, hi, he, hr⟩ := lastM_hit R x n h3
  have hw : wsOk n R x = true := by unfold wsOk; rw [h1, h2]; rfl
  have e1 : wsL n R x = once (whoL R x n) := by unfold wsL; rw [hw]; rfl
  have e2 : lcW n R x = (R i).who := by unfold lcW; rw [h0, if_pos rfl, he]; rfl
  rw [e1, e2, anyB_mem, once_mem]
  exact whoL_mem R x n i hi hr
/-- How many of the first k looks are at a record, behind a tick if there is one. -/
def cntL (R : Nat → Lk) (x : Int) (ok : Bool) (t : Int) : Nat → Nat
  | 0 => 0
  | k + 1 => cntL R x ok t k + (if ((R k).rid == x && (!ok || decide (t < (R k).tick))) = true then 1 else 0)
theorem cntL_le (R : Nat → Lk) (x : Int) (ok : Bool) (t : Int) (k : Nat) : cntL R x ok t k ≤ k := by
  induction k with
  | zero => exact Nat.le_refl _
  | succ k ih => simp only [cntL]; split <;> omega
/-- Reads since are the looks behind the last change. -/
theorem reads_fact (n : Nat) (R : Nat → Lk) (x : Int) : rsV n R x = if rsOk n R x then (cntL R x (lcOk n R x) (lcT n R x) n : Int) else 0 := by
  unfold rsV
  cases hr : rsOk n R x
  · rfl
  · simp only [if_true]
    have hr2 := hr
    unfold rsOk at hr2
    simp only [Bool.and_eq_true] at hr2
    have key : ∀ k, k ≤ n → rsM R x (lastM R x n) k = cntL R x (lcOk n R x) (lcT n R x) k := by
      intro k
      induction k with
      | zero => intro _; rfl
      | succ k ih =>
        intro hk
        have hi := ih (by omega)
        have e : (decide (lastM R x n < (k : Int)) && (R k).rid == x) = ((R k).rid == x && (!lcOk n R x || decide (lcT n R x < (R k).tick))) := by
          rw [Bool.and_comm]
          congr 1
          by_cases h3 : 0 ≤ lastM R x n
          · obtain ⟨i, hi2, he, _⟩ := lastM_hit R x n h3
            have hl : lcOk n R x = true := by unfold lcOk; rw [hr2.1, hr2.2]; simpa using h3
            have ht : lcT n R x = (R i).tick := by unfold lcT; rw [hl, if_pos rfl, he]; rfl
            rw [hl, ht, he]
            simp only [Bool.not_true, Bool.false_or]
            by_cases h4 : i < k
            · have := accB_lt hr2.1 i k h4 (by omega)
              rw [decide_eq_true (by omega), decide_eq_true this]
            · have : ¬ (R i).tick < (R k).tick := by
                by_cases h5 : i = k
                · subst h5; omega
                · have := accB_lt hr2.1 k i (by omega) hi2; omega
              rw [decide_eq_false (by omega), decide_eq_false this]
          · have hl : lcOk n R x = false := by unfold lcOk; rw [decide_eq_false h3, Bool.and_false]
            rw [hl, decide_eq_true (by omega)]; rfl
        simp only [rsM, cntL, e, hi]
        split <;> rfl
    rw [key n (Nat.le_refl _)]
theorem brM_grow (R : Nat → Lk) (z : Int) {g g' : Int} (hg : g ≤ g') : ∀ k, (brM R z g k).last = (brM R z g' k).last ∧ (brM R z g k).run ≤ (brM R z g' k).run ∧ (brM R z g k).most ≤ (brM R z g' k).most ∧ (0 < (brM R z g k).run ↔ 0 < (brM R z g' k).run) ∧ 0 ≤ (brM R z g k).run ∧ 0 ≤ (brM R z g' k).run := by
  intro k
  induction k with
  | zero => simp [brM]
  | succ k ih =>
    obtain ⟨h1, h2, h3, h4, h5, h6⟩ := ih
    simp only [brM]
    split
    · generalize brM R z g k = s at h1 h2 h3 h4 h5 h6
      generalize brM R z g' k = t at h1 h2 h3 h4 h5 h6
      unfold bstep
      by_cases c1 : 0 < s.run ∧ (R k).tick - s.last ≤ g
      · have c2 : 0 < t.run ∧ (R k).tick - t.last ≤ g' := ⟨h4.1 c1.1, by rw [← h1]; omega⟩
        rw [if_pos c1, if_pos c2]
        split <;> split <;> (refine ⟨rfl, ?_, ?_, ?_, ?_, ?_⟩ <;> (first | omega | (simp only; done) | (simp only; omega)))
      · rw [if_neg c1]
        by_cases c2 : 0 < t.run ∧ (R k).tick - t.last ≤ g'
        · rw [if_pos c2]
          split <;> split <;> (refine ⟨rfl, ?_, ?_, ?_, ?_, ?_⟩ <;> (first | omega | (simp only; done) | (simp only; omega)))
        · rw [if_neg c2]
          split <;> split <;> (refine ⟨rfl, ?_, ?_, ?_, ?_, ?_⟩ <;> (first | omega | (simp only; done) | (simp only; omega)))
    · exact ⟨h1, h2, h3, h4, h5, h6⟩
/-- No burst is longer with a smaller gap. -/
theorem burst_fact {n : Nat} {R : Nat → Lk} {z g : Int} (h : lbOk n R z (g + 1) = true) : lbM n R z g ≤ lbM n R z (g + 1) := by
  unfold lbM
  rw [h, if_pos rfl]
  have hm := (brM_grow R z (show g ≤ g + 1 by omega) n).2.2.1
  split
  · exact hm
  · have h2 := h
    unfold lbOk at h2
    simp only [Bool.and_eq_true] at h2
    exact (brM_bd z (g + 1) h2.1.1 n (Nat.le_refl _)).2.1.1
/-- Crossed looks are at one record by different people. -/
theorem cross_fact {n : Nat} {R : Nat → Lk} {z : Int} : ∀ row ∈ clL n R z, ∃ i j : Nat, row = [(i : Int), (j : Int)] ∧ i < n ∧ j < n ∧ (R i).rid = (R j).rid ∧ (R i).who ≠ (R j).who := by
  have h1 : ∀ i m, ∀ row ∈ inC R z i m, i + m < n → ∃ i j : Nat, row = [(i : Int), (j : Int)] ∧ i < n ∧ j < n ∧ (R i).rid = (R j).rid ∧ (R i).who ≠ (R j).who := by
    intro i m
    induction m with
    | zero => intro row h; cases h
    | succ m ih =>
      intro row h hn
      cases hc : crB (R i) (R (i + 1 + m)) z
      · rw [inC_no hc] at h
        exact ih row h (by omega)
      · rw [inC_yes hc] at h
        rcases List.mem_append.1 h with h | h
        · exact ih row h (by omega)
        · rw [List.mem_singleton.1 h]
          unfold crB acB at hc
          simp only [Bool.and_eq_true, beq_iff_eq, bne_iff_ne] at hc
          exact ⟨i, i + 1 + m, rfl, by omega, by omega, hc.1.1.1, hc.1.1.2⟩
  have h2 : ∀ k, k ≤ n → ∀ row ∈ outC R z n k, ∃ i j : Nat, row = [(i : Int), (j : Int)] ∧ i < n ∧ j < n ∧ (R i).rid = (R j).rid ∧ (R i).who ≠ (R j).who := by
    intro k
    induction k with
    | zero => intro _ row h; cases h
    | succ k ih =>
      intro hk row h
      simp only [outC, List.mem_append] at h
      rcases h with h | h
      · exact ih (by omega) row h
      · exact h1 k (n - (k + 1)) row h (by omega)
  intro row h
  unfold clL at h
  split at h
  · exact h2 n (Nat.le_refl _) row h
  · cases h
end Go.Proofs.YtmhelhjjadoiaaaGreatDoor
