/- Queries as plain trees: parsing, and what a tree says of a record. No condition but those stated. -/
import Derived.Test.YtjmfkenhnfdbjaaGreatDoorMem
namespace Go.Proofs.YtjmfkenhnfdbjaaGreatDoor
set_option linter.unusedVariables false
/-- A query: a test, a negation, or a list of parts of which all or any must match. -/
inductive Qy where
  | test (c : Nat) (n : Int)
  | neg (q : Qy)
  | seq (o : Bool) (n : Nat) (f : Nat → Qy)
instance : Inhabited Qy := ⟨.test 0 0⟩
/-- What a query asks of a record. -/
structure Rq where
  ser : Int
  id : Int
  made : Int
  ev : Int → Bool
def Qy.eval (r : Rq) : Qy → Bool
  | .test c n => if c = 115 then r.ser == n else if c = 105 then r.id == n else if c = 101 then r.ev n else decide (n ≤ r.made)
  | .neg q => !q.eval r
  | .seq true n f => anyB n fun j => (f j).eval r
  | .seq false n f => allB n fun j => (f j).eval r
structure Out where
  q : Qy
  d : Nat
  e : Nat
def okT (c : Nat) (n : Int) : Bool := (decide (c = 115) && within n 1 99) || (decide (c = 105) && within n 1 999) || (decide (c = 101) && within n 1 9) || (decide (c = 97) && within n 0 20000)
def atQ (l : List Qy) (j : Nat) : Qy := l.getD j default
section
variable (z : Nat) (b : Nat → Nat) (num : Nat → Option (Int × Nat))
def tstQ (a : Nat) : Option Out :=
  if a < z then (match num (a + 1) with
    | none => none
    | some p => if okT (b a) p.1 then some ⟨.test (b a) p.1, 0, p.2⟩ else none)
  else none
def loopQ (part : Nat → Option Out) (sgn : Nat) : Nat → List Qy → Nat → Nat → Option (List Qy × Nat × Nat)
  | 0, _, _, _ => none
  | k + 1, l, d, e => if e < z ∧ b e = sgn then (match part (e + 1) with
      | none => none
      | some o => loopQ part sgn k (l ++ [o.q]) (max d o.d) o.e)
    else some (l, d, e)
def pJ (part : Nat → Option Out) (sgn : Nat) (or_ : Bool) (a : Nat) : Option Out :=
  match part a with
  | none => none
  | some o => match loopQ z b part sgn (z + 1) [o.q] o.d o.e with
    | none => none
    | some p => some ⟨.seq or_ p.1.length (atQ p.1), p.2.1, p.2.2⟩
def pFac : Nat → Nat → Option Out
  | 0, _ => none
  | k + 1, a =>
    if a < z ∧ b a = 33 then (match pFac k (a + 1) with
      | none => none
      | some o => some ⟨.neg o.q, o.d, o.e⟩)
    else if a < z ∧ b a = 40 then (match pJ z b (pJ z b (pFac k) 38 false) 124 true (a + 1) with
      | none => none
      | some o => if o.e < z ∧ b o.e = 41 then some ⟨o.q, o.d + 1, o.e + 1⟩ else none)
    else tstQ z b num a
def pTer (k : Nat) : Nat → Option Out := pJ z b (pFac z b num k) 38 false
def pQue (k : Nat) : Nat → Option Out := pJ z b (pTer z b num k) 124 true
/-- The query that a text is, if it is one. -/
def parseQ : Option Out := match pQue z b num (z + 1) 0 with
  | none => none
  | some o => if o.e = z then some o else none
end
section
variable {z : Nat} {b : Nat → Nat} {num : Nat → Option (Int × Nat)}
theorem loopQ_stop {part : Nat → Option Out} {sgn k : Nat} {l : List Qy} {d e : Nat} (h : ¬ (e < z ∧ b e = sgn)) : loopQ z b part sgn (k + 1) l d e = some (l, d, e) := by
  rw [loopQ, if_neg h]
theorem loopQ_none {part : Nat → Option Out} {sgn k : Nat} {l : List Qy} {d e : Nat} (h : e < z ∧ b e = sgn) (hp : part (e + 1) = none) : loopQ z b part sgn (k + 1) l d e = none := by
  rw [loopQ, if_pos h, hp]
theorem loopQ_some {part : Nat → Option Out} {sgn k : Nat} {l : List Qy} {d e : Nat} {o : Out} (h : e < z ∧ b e = sgn) (hp : part (e + 1) = some o) : loopQ z b part sgn (k + 1) l d e = loopQ z b part sgn k (l ++ [o.q]) (max d o.d) o.e := by
  rw [loopQ, if_pos h, hp]
/-- What holds of a run of parts. -/
theorem loopQ_ind {part : Nat → Option Out} {sgn : Nat} {X : List Qy → Nat → Nat → Prop} (h2 : ∀ l d e o, X l d e → e < z → b e = sgn → part (e + 1) = some o → X (l ++ [o.q]) (max d o.d) o.e) :
    ∀ k l d e p, X l d e → loopQ z b part sgn k l d e = some p → X p.1 p.2.1 p.2.2 := by
  intro k
  induction k with
  | zero => intro l d e p _ h; cases h
  | succ k ih =>
    intro l d e p hX h
    by_cases hc : e < z ∧ b e = sgn
    · cases hp : part (e + 1) with
      | none => rw [loopQ_none hc hp] at h; cases h
      | some o =>
        rw [loopQ_some hc hp] at h
        exact ih _ _ _ _ (h2 l d e o hX hc.1 hc.2 hp) h
    · rw [loopQ_stop hc] at h
      injection h with h
      subst h
      exact hX
theorem pJ_ind {part : Nat → Option Out} {sgn a : Nat} {or_ : Bool} {o : Out} {X : List Qy → Nat → Nat → Prop} (h1 : ∀ o, part a = some o → X [o.q] o.d o.e)
    (h2 : ∀ l d e o, X l d e → e < z → b e = sgn → part (e + 1) = some o → X (l ++ [o.q]) (max d o.d) o.e) (h : pJ z b part sgn or_ a = some o) : ∃ l, X l o.d o.e ∧ o.q = .seq or_ l.length (atQ l) := by
  unfold pJ at h
  cases hp : part a with
  | none => rw [hp] at h; cases h
  | some o1 =>
    rw [hp] at h
    simp only at h
    cases hl : loopQ z b part sgn (z + 1) [o1.q] o1.d o1.e with
    | none => rw [hl] at h; cases h
    | some p =>
      rw [hl] at h
      simp only [Option.some.injEq] at h
      subst h
      exact ⟨p.1, loopQ_ind h2 _ _ _ _ p (h1 o1 hp) hl, rfl⟩
/-- Where numbers end. -/
def NumOk (z : Nat) (num : Nat → Option (Int × Nat)) : Prop := ∀ a p, a ≤ z → num a = some p → a ≤ p.2 ∧ p.2 ≤ z
theorem pJ_end {part : Nat → Option Out} {sgn : Nat} {or_ : Bool} (hp : ∀ a o, a ≤ z → part a = some o → a < o.e ∧ o.e ≤ z) : ∀ a o, a ≤ z → pJ z b part sgn or_ a = some o → a < o.e ∧ o.e ≤ z := by
  intro a o ha h
  obtain ⟨l, hX, _⟩ := pJ_ind (X := fun _ _ e => a < e ∧ e ≤ z) (fun o h => hp a o ha h) (fun l d e o hX he _ h => by
    have := hp (e + 1) o (by omega) h
    omega) h
  exact hX
theorem pFac_end (hn : NumOk z num) : ∀ k a o, a ≤ z → pFac z b num k a = some o → a < o.e ∧ o.e ≤ z := by
  intro k
  induction k with
  | zero => intro a o _ h; cases h
  | succ k ih =>
    intro a o ha h
    unfold pFac at h
    split at h
    · rename_i hc
      cases hp : pFac z b num k (a + 1) with
      | none => rw [hp] at h; cases h
      | some o1 =>
        rw [hp] at h
        simp only [Option.some.injEq] at h
        subst h
        have := ih (a + 1) o1 (by omega) hp
        simp only
        omega
    · split at h
      · rename_i hc
        cases hp : pJ z b (pJ z b (pFac z b num k) 38 false) 124 true (a + 1) with
        | none => rw [hp] at h; cases h
        | some o1 =>
          rw [hp] at h
          simp only at h
          split at h
          · simp only [Option.some.injEq] at h
            subst h
            have := pJ_end (pJ_end ih) (a + 1) o1 (by omega) hp
            simp only
            omega
          · cases h
      · unfold tstQ at h
        split at h
        · cases hp : num (a + 1) with
          | none => rw [hp] at h; cases h
          | some p =>
            rw [hp] at h
            simp only at h
            split at h
            · simp only [Option.some.injEq] at h
              subst h
              have := hn (a + 1) p (by omega) hp
              simp only
              omega
            · cases h
        · cases h
theorem pTer_end (hn : NumOk z num) (k a : Nat) (o : Out) (ha : a ≤ z) (h : pTer z b num k a = some o) : a < o.e ∧ o.e ≤ z := pJ_end (pFac_end hn k) a o ha h
theorem pQue_end (hn : NumOk z num) (k a : Nat) (o : Out) (ha : a ≤ z) (h : pQue z b num k a = some o) : a < o.e ∧ o.e ≤ z := pJ_end (pTer_end hn k) a o ha h
end
end Go.Proofs.YtjmfkenhnfdbjaaGreatDoor
