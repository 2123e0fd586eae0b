/- Queries as plain trees: letters, brackets, and the same query in another text. No condition but those stated. -/
import Derived.Test.YtjmfkenhnfdbjaaDoorQyA
namespace Go.Proofs.YtjmfkenhnfdbjaaDoor
set_option linter.unusedVariables false
/-- The tests of a query, in their order. -/
def Qy.tests : Qy → List (Nat × Int)
  | .test c n => [(c, n)]
  | .neg q => q.tests
  | .seq _ n f => (List.range n).flatMap fun j => (f j).tests
theorem atQ_app (l : List Qy) (q : Qy) : (List.range (l ++ [q]).length).flatMap (fun j => (atQ (l ++ [q]) j).tests) = (List.range l.length).flatMap (fun j => (atQ l j).tests) ++ q.tests := by
  rw [List.length_append, List.length_singleton, List.range_succ, List.flatMap_append]
  congr 1
  · rw [List.flatMap_def, List.flatMap_def]
    refine congrArg List.flatten (List.map_congr_left fun j hj => ?_)
    have hj := List.mem_range.1 hj
    unfold atQ
    rw [List.getD_eq_getElem?_getD, List.getElem?_append_left hj, List.getD_eq_getElem?_getD]
  · have : atQ (l ++ [q]) l.length = q := by
      unfold atQ
      rw [List.getD_eq_getElem?_getD, List.getElem?_append_right (Nat.le_refl _), Nat.sub_self]; rfl
    simp [this]
def isLet (c : Nat) : Bool := decide (97 ≤ c) && decide (c ≤ 122)
/-- The letters among the n bytes from a on. -/
def lets (b : Nat → Nat) (a : Nat) : Nat → List Nat
  | 0 => []
  | n + 1 => lets b a n ++ (if isLet (b (a + n)) then [a + n] else [])
theorem lets_add (b : Nat → Nat) (a n m : Nat) : lets b a (n + m) = lets b a n ++ lets b (a + n) m := by
  induction m with
  | zero => simp [lets]
  | succ m ih => rw [← Nat.add_assoc, lets, ih, lets, List.append_assoc, Nat.add_assoc]
theorem lets_none {b : Nat → Nat} {a n : Nat} (h : ∀ i, a ≤ i → i < a + n → isLet (b i) = false) : lets b a n = [] := by
  induction n with
  | zero => rfl
  | succ n ih => rw [lets, ih (fun i h1 h2 => h i h1 (by omega)), h (a + n) (by omega) (by omega)]; rfl
/-- Brackets: the greatest number that is open, and the number that is open. -/
def brk (st : Int × Int) (c : Nat) : Int × Int :=
  let op := if c = 40 then st.2 + 1 else if c = 41 then st.2 - 1 else st.2
  (max st.1 op, op)
def scn (b : Nat → Nat) (a : Nat) : Nat → Int × Int → Int × Int
  | 0, st => st
  | n + 1, st => brk (scn b a n st) (b (a + n))
theorem scn_add (b : Nat → Nat) (a n m : Nat) (st : Int × Int) : scn b a (n + m) st = scn b (a + n) m (scn b a n st) := by
  induction m with
  | zero => rfl
  | succ m ih => rw [← Nat.add_assoc, scn, ih, scn, Nat.add_assoc]
theorem brk_none {st : Int × Int} {c : Nat} (h : st.2 ≤ st.1) (h1 : c ≠ 40) (h2 : c ≠ 41) : brk st c = st := by
  unfold brk
  simp only [if_neg h1, if_neg h2]
  rw [Int.max_eq_left h]
theorem scn_none {b : Nat → Nat} {a n : Nat} {st : Int × Int} (hs : st.2 ≤ st.1) (h : ∀ i, a ≤ i → i < a + n → b i ≠ 40 ∧ b i ≠ 41) : scn b a n st = st := by
  induction n with
  | zero => rfl
  | succ n ih =>
    rw [scn, ih (fun i h1 h2 => h i h1 (by omega))]
    have := h (a + n) (by omega) (by omega)
    exact brk_none hs this.1 this.2
/-- The bytes from a up to e spell the tests ts, and their brackets go d deep. -/
structure Spl (b : Nat → Nat) (num : Nat → Option (Int × Nat)) (a e : Nat) (ts : List (Nat × Int)) (d : Nat) : Prop where
  le : a ≤ e
  ts : (lets b a (e - a)).map (fun i => (b i, (((num (i + 1)).map (·.1)).getD 0))) = ts
  nu : ∀ i ∈ lets b a (e - a), ∃ p, num (i + 1) = some p
  sc : ∀ m o : Int, o ≤ m → scn b a (e - a) (m, o) = (max m (o + d), o)
theorem Spl.add {b : Nat → Nat} {num : Nat → Option (Int × Nat)} {a c e : Nat} {ts us : List (Nat × Int)} {d f : Nat} (h : Spl b num a c ts d) (k : Spl b num c e us f) : Spl b num a e (ts ++ us) (max d f) := by
  have h1 := h.le
  have h2 := k.le
  have e1 : e - a = (c - a) + (e - c) := by omega
  have e2 : a + (c - a) = c := by omega
  refine ⟨by omega, ?_, ?_, fun m o ho => ?_⟩
  · rw [e1, lets_add, e2, List.map_append, h.ts, k.ts]
  · rw [e1, lets_add, e2]
    intro i hi
    rcases List.mem_append.1 hi with hi | hi
    · exact h.nu i hi
    · exact k.nu i hi
  · rw [e1, scn_add, e2, h.sc m o ho, k.sc _ _ (by omega)]
    congr 1
    omega
/-- One byte that is neither a letter nor a bracket. -/
theorem Spl.one {b : Nat → Nat} {num : Nat → Option (Int × Nat)} {a : Nat} (h1 : isLet (b a) = false) (h2 : b a ≠ 40) (h3 : b a ≠ 41) : Spl b num a (a + 1) [] 0 := by
  have e : a + 1 - a = 1 := by omega
  refine ⟨by omega, ?_, ?_, fun m o ho => ?_⟩
  · rw [e]; simp [lets, h1]
  · rw [e]; simp [lets, h1]
  · rw [e]
    show brk (m, o) (b (a + 0)) = _
    rw [Nat.add_zero, brk_none ho h2 h3]
    congr 1
    show m = max m (o + ((0 : Nat) : Int))
    omega
/-- Brackets around. -/
theorem Spl.wrap {b : Nat → Nat} {num : Nat → Option (Int × Nat)} {a e : Nat} {ts : List (Nat × Int)} {d : Nat} (h : Spl b num (a + 1) e ts d) (h1 : b a = 40) (h2 : b e = 41) : Spl b num a (e + 1) ts (d + 1) := by
  have hl := h.le
  have e1 : e + 1 - a = 1 + (e - (a + 1)) + 1 := by omega
  have e2 : a + (1 + (e - (a + 1))) = e := by omega
  have l1 : lets b a 1 = [] := by simp [lets, h1, isLet]
  have l2 : isLet (b e) = false := by rw [h2]; rfl
  have key : lets b a (e + 1 - a) = lets b (a + 1) (e - (a + 1)) := by
    rw [e1, lets, lets_add, l1, e2, l2]; simp
  refine ⟨by omega, ?_, ?_, fun m o ho => ?_⟩
  · rw [key]; exact h.ts
  · rw [key]; exact h.nu
  · have s1 : scn b a 1 (m, o) = (max m (o + 1), o + 1) := by
      show brk (m, o) (b (a + 0)) = _
      rw [Nat.add_zero, h1]; rfl
    rw [e1, scn, scn_add, s1, h.sc _ _ (by omega), e2, h2]
    show (max (max (max m (o + 1)) (o + 1 + (d : Int))) (o + 1 - 1), o + 1 - 1) = _
    have : o + 1 - 1 = o := by omega
    rw [this]
    congr 1
    have : ((d + 1 : Nat) : Int) = (d : Int) + 1 := by omega
    rw [this]
    omega
section
variable {z : Nat} {b : Nat → Nat} {num : Nat → Option (Int × Nat)}
/-- A number is digits alone. -/
def NumDig (b : Nat → Nat) (num : Nat → Option (Int × Nat)) : Prop := ∀ a p, num a = some p → ∀ i, a ≤ i → i < p.2 → 48 ≤ b i ∧ b i ≤ 57
theorem okT_let {c : Nat} {n : Int} (h : okT c n = true) : c = 115 ∨ c = 105 ∨ c = 101 ∨ c = 97 := by
  unfold okT at h
  simp only [Bool.or_eq_true, Bool.and_eq_true, decide_eq_true_eq] at h
  omega
theorem tst_spl (hn : NumOk z num) (hd : NumDig b num) {a : Nat} {o : Out} (h : tstQ z b num a = some o) : Spl b num a o.e o.q.tests o.d := by
  unfold tstQ at h
  split at h
  · rename_i ha
    cases hp : num (a + 1) with
    | none => rw [hp] at h; cases h
    | some p =>
      rw [hp] at h
      simp only at h
      split at h
      · rename_i hk
        simp only [Option.some.injEq] at h
        subst h
        have h1 := hn (a + 1) p (by omega) hp
        have h2 := hd (a + 1) p hp
        have hl : isLet (b a) = true := by
          rcases okT_let hk with e | e | e | e <;> rw [e] <;> rfl
        have hb : b a ≠ 40 ∧ b a ≠ 41 := by
          rcases okT_let hk with e | e | e | e <;> rw [e] <;> decide
        have e1 : p.2 - a = 1 + (p.2 - (a + 1)) := by omega
        have l1 : lets b a 1 = [a] := by simp [lets, hl]
        have l2 : lets b (a + 1) (p.2 - (a + 1)) = [] := lets_none fun i h3 h4 => by
          have := h2 i h3 (by omega)
          unfold isLet
          have : ¬ 97 ≤ b i := by omega
          simp [this]
        refine ⟨by simp only; omega, ?_, ?_, fun m o ho => ?_⟩
        · show (lets b a (p.2 - a)).map _ = [(b a, p.1)]
          rw [e1, lets_add, l1, l2]
          simp [hp]
        · show ∀ i ∈ lets b a (p.2 - a), _
          rw [e1, lets_add, l1, l2]
          intro i hi
          simp at hi
          subst hi
          exact ⟨p, hp⟩
        · show scn b a (p.2 - a) (m, o) = (max m (o + ((0 : Nat) : Int)), o)
          rw [scn_none ho (fun i h3 h4 => ?_)]
          · congr 1; omega
          · by_cases e : i = a
            · subst e; exact hb
            · have := h2 i (by omega) (by omega)
              omega
      · cases h
  · cases h
theorem pJ_spl {part : Nat → Option Out} {sgn : Nat} {or_ : Bool} (hs : sgn = 38 ∨ sgn = 124) (hp : ∀ a o, a ≤ z → part a = some o → Spl b num a o.e o.q.tests o.d) : ∀ a o, a ≤ z → pJ z b part sgn or_ a = some o → Spl b num a o.e o.q.tests o.d := by
  intro a o ha h
  obtain ⟨l, hX, hq⟩ := pJ_ind (X := fun l d e => Spl b num a e ((List.range l.length).flatMap fun j => (atQ l j).tests) d) (fun o h => by
    have := hp a o ha h
    simpa [atQ] using this) (fun l d e o hX he hb h => by
    rw [atQ_app]
    have h1 : Spl b num e (e + 1) [] 0 := Spl.one (by rcases hs with rfl | rfl <;> rw [hb] <;> rfl) (by rcases hs with rfl | rfl <;> rw [hb] <;> decide) (by rcases hs with rfl | rfl <;> rw [hb] <;> decide)
    have h2 := hp (e + 1) o (by omega) h
    have h3 := hX.add (h1.add h2)
    rw [List.nil_append, Nat.zero_max] at h3
    exact h3) h
  rw [hq]
  exact hX
theorem pFac_spl (hn : NumOk z num) (hd : NumDig b num) : ∀ k a o, a ≤ z → pFac z b num k a = some o → Spl b num a o.e o.q.tests o.d := by
  intro k
  induction k with
  | zero => intro a o _ h; cases h
  | succ k ih =>
    intro a o ha h
    unfold pFac at h
    split at h
    · rename_i hc
      cases hp : pFac z b num k (a + 1) with
      | none => rw [hp] at h; cases h
      | some o1 =>
        rw [hp] at h
        simp only [Option.some.injEq] at h
        subst h
        have h1 : Spl b num a (a + 1) [] 0 := Spl.one (by rw [hc.2]; rfl) (by rw [hc.2]; decide) (by rw [hc.2]; decide)
        have h3 := h1.add (ih (a + 1) o1 (by omega) hp)
        rw [List.nil_append, Nat.zero_max] at h3
        exact h3
    · split at h
      · rename_i hc
        cases hp : pJ z b (pJ z b (pFac z b num k) 38 false) 124 true (a + 1) with
        | none => rw [hp] at h; cases h
        | some o1 =>
          rw [hp] at h
          simp only at h
          split at h
          · rename_i hc2
            simp only [Option.some.injEq] at h
            subst h
            exact (pJ_spl (.inr rfl) (pJ_spl (.inl rfl) ih) (a + 1) o1 (by omega) hp).wrap hc.2 hc2.2
          · cases h
      · exact tst_spl hn hd h
theorem parse_spl (hn : NumOk z num) (hd : NumDig b num) {o : Out} (h : parseQ z b num = some o) : Spl b num 0 z o.q.tests o.d := by
  unfold parseQ at h
  cases hp : pQue z b num (z + 1) 0 with
  | none => rw [hp] at h; cases h
  | some o1 =>
    rw [hp] at h
    simp only at h
    split at h
    · rename_i he
      simp only [Option.some.injEq] at h
      subst h
      have := pJ_spl (.inr rfl) (pJ_spl (.inl rfl) (pFac_spl hn hd (z + 1))) 0 o1 (by omega) hp
      rw [he] at this
      exact this
    · cases h
theorem tests_pos : ∀ k a o, pFac z b num k a = some o → 1 ≤ o.q.tests.length := by
  have hJ : ∀ {part : Nat → Option Out} {sgn : Nat} {or_ : Bool}, (∀ a o, part a = some o → 1 ≤ o.q.tests.length) → ∀ a o, pJ z b part sgn or_ a = some o → 1 ≤ o.q.tests.length := by
    intro part sgn or_ hp a o h
    obtain ⟨l, hX, hq⟩ := pJ_ind (X := fun l d e => 1 ≤ ((List.range l.length).flatMap fun j => (atQ l j).tests).length) (fun o h => by
      have := hp a o h
      simpa [atQ] using this) (fun l d e o hX he hb h => by
      rw [atQ_app, List.length_append]; omega) h
    rw [hq]; exact hX
  intro k
  induction k with
  | zero => intro a o h; cases h
  | succ k ih =>
    intro a o h
    unfold pFac at h
    split at h
    · cases hp : pFac z b num k (a + 1) with
      | none => rw [hp] at h; cases h
      | some o1 =>
        rw [hp] at h
        simp only [Option.some.injEq] at h
        subst h
        exact ih (a + 1) o1 hp
    · split at h
      · cases hp : pJ z b (pJ z b (pFac z b num k) 38 false) 124 true (a + 1) with
        | none => rw [hp] at h; cases h
        | some o1 =>
          rw [hp] at h
          simp only at h
          split at h
          · simp only [Option.some.injEq] at h
            subst h
            exact hJ (hJ ih) (a + 1) o1 hp
          · cases h
      · unfold tstQ at h
        split at h
        · cases hp : num (a + 1) with
          | none => rw [hp] at h; cases h
          | some p =>
            rw [hp] at h
            simp only at h
            split at h
            · simp only [Option.some.injEq] at h
              subst h
              exact Nat.le_refl _
            · cases h
        · cases h
end
end Go.Proofs.YtjmfkenhnfdbjaaDoor
