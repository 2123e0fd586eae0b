/- Texts of this claim in one: QyB, QyC, QzF, Once, Put, Each, QzG, QzI, QzJ. No condition but those stated. -/
import Derived.Test.YtjmfkenhnfdbjaaGreatDoorQyA
import Derived.Test.YtjmfkenhnfdbjaaGreatDoorQyU
import Derived.Test.YtjmfkenhnfdbjaaGreatDoorLkO
import Derived.Lib.SlicesCompact
import Derived.Test.YtjmfkenhnfdbjaaGreatDoorShelf
import Derived.Deep.RegionHeld3
import Derived.Deep.DrawnRows
import Derived.Lib.OwnBridge
import Derived.Test.YtjmfkenhnfdbjaaGreatDoorQyX
import Derived.Maps.AppendAt
import Derived.Test.YtjmfkenhnfdbjaaGreatDoorQyR
/- Queries as plain trees: letters, brackets, and the same query in another text. No condition but those stated. -/
namespace Go.Proofs.YtjmfkenhnfdbjaaGreatDoor
set_option linter.unusedVariables false
/-- The tests of a query, in their order. -/
def Qy.tests : Qy → List (Nat × Int)
  | .test c n => [(c, n)]
  | .neg q => q.tests
  | .seq _ n f => (List.range n).flatMap fun j => (f j).tests
theorem atQ_app (l : List Qy) (q : Qy) : (List.range (l ++ [q]).length).flatMap (fun j => (atQ (l ++ [q]) j).tests) = (List.range l.length).flatMap (fun j => (atQ l j).tests) ++ q.tests := by
  rw [List.length_append, List.length_singleton, List.range_succ, List.flatMap_append]
  congr 1
  · rw [List.flatMap_def, List.flatMap_def]
    refine congrArg List.flatten (List.map_congr_left fun j hj => ?_)
    have hj := List.mem_range.1 hj
    unfold atQ
    rw [List.getD_eq_getElem?_getD, List.getElem?_append_left hj, List.getD_eq_getElem?_getD]
  · have : atQ (l ++ [q]) l.length = q := by
      unfold atQ
      rw [List.getD_eq_getElem?_getD, List.getElem?_append_right (Nat.le_refl _), Nat.sub_self]; rfl
    simp [this]
def isLet (c : Nat) : Bool := decide (97 ≤ c) && decide (c ≤ 122)
/-- The letters among the n bytes from a on. -/
def lets (b : Nat → Nat) (a : Nat) : Nat → List Nat
  | 0 => []
  | n + 1 => lets b a n ++ (if isLet (b (a + n)) then [a + n] else [])
theorem lets_add (b : Nat → Nat) (a n m : Nat) : lets b a (n + m) = lets b a n ++ lets b (a + n) m := by
  induction m with
  | zero => simp [lets]
  | succ m ih => rw [← Nat.add_assoc, lets, ih, lets, List.append_assoc, Nat.add_assoc]
theorem lets_none {b : Nat → Nat} {a n : Nat} (h : ∀ i, a ≤ i → i < a + n → isLet (b i) = false) : lets b a n = [] := by
  induction n with
  | zero => rfl
  | succ n ih => rw [lets, ih (fun i h1 h2 => h i h1 (by omega)), h (a + n) (by omega) (by omega)]; rfl
/-- Brackets: the greatest number that is open, and the number that is open. -/
def brk (st : Int × Int) (c : Nat) : Int × Int :=
  let op := if c = 40 then st.2 + 1 else if c = 41 then st.2 - 1 else st.2
  (max st.1 op, op)
def scn (b : Nat → Nat) (a : Nat) : Nat → Int × Int → Int × Int
  | 0, st => st
  | n + 1, st => brk (scn b a n st) (b (a + n))
theorem scn_add (b : Nat → Nat) (a n m : Nat) (st : Int × Int) : scn b a (n + m) st = scn b (a + n) m (scn b a n st) := by
  induction m with
  | zero => rfl
  | succ m ih => rw [← Nat.add_assoc, scn, ih, scn, Nat.add_assoc]
theorem brk_none {st : Int × Int} {c : Nat} (h : st.2 ≤ st.1) (h1 : c ≠ 40) (h2 : c ≠ 41) : brk st c = st := by
  unfold brk
  simp only [if_neg h1, if_neg h2]
  rw [Int.max_eq_left h]
theorem scn_none {b : Nat → Nat} {a n : Nat} {st : Int × Int} (hs : st.2 ≤ st.1) (h : ∀ i, a ≤ i → i < a + n → b i ≠ 40 ∧ b i ≠ 41) : scn b a n st = st := by
  induction n with
  | zero => rfl
  | succ n ih =>
    rw [scn, ih (fun i h1 h2 => h i h1 (by omega))]
    have := h (a + n) (by omega) (by omega)
    exact brk_none hs this.1 this.2
/-- The bytes from a up to e spell the tests ts, and their brackets go d deep. -/
structure Spl (b : Nat → Nat) (num : Nat → Option (Int × Nat)) (a e : Nat) (ts : List (Nat × Int)) (d : Nat) : Prop where
  le : a ≤ e
  ts : (lets b a (e - a)).map (fun i => (b i, (((num (i + 1)).map (·.1)).getD 0))) = ts
  nu : ∀ i ∈ lets b a (e - a), ∃ p, num (i + 1) = some p
  sc : ∀ m o : Int, o ≤ m → scn b a (e - a) (m, o) = (max m (o + d), o)
theorem Spl.add {b : Nat → Nat} {num : Nat → Option (Int × Nat)} {a c e : Nat} {ts us : List (Nat × Int)} {d f : Nat} (h : Spl b num a c ts d) (k : Spl b num c e us f) : Spl b num a e (ts ++ us) (max d f) := by
  have h1 := h.le
  have h2 := k.le
  have e1 : e - a = (c - a) + (e - c) := by omega
  have e2 : a + (c - a) = c := by omega
  refine ⟨by omega, ?_, ?_, fun m o ho => ?_⟩
  · rw [e1, lets_add, e2, List.map_append, h.ts, k.ts]
  · rw [e1, lets_add, e2]
    intro i hi
    rcases List.mem_append.1 hi with hi | hi
    · exact h.nu i hi
    · exact k.nu i hi
  · rw [e1, scn_add, e2, h.sc m o ho, k.sc _ _ (by omega)]
    congr 1
    omega
/-- One byte that is neither a letter nor a bracket. -/
theorem Spl.one {b : Nat → Nat} {num : Nat → Option (Int × Nat)} {a : Nat} (h1 : isLet (b a) = false) (h2 : b a ≠ 40) (h3 : b a ≠ 41) : Spl b num a (a + 1) [] 0 := by
  have e : a + 1 - a = 1 := by omega
  refine ⟨by omega, ?_, ?_, fun m o ho => ?_⟩
  · rw [e]; simp [lets, h1]
  · rw [e]; simp [lets, h1]
  · rw [e]
    show brk (m, o) (b (a + 0)) = _
    rw [Nat.add_zero, brk_none ho h2 h3]
    congr 1
    show m = max m (o + ((0 : Nat) : Int))
    omega
/-- Brackets around. -/
theorem Spl.wrap {b : Nat → Nat} {num : Nat → Option (Int × Nat)} {a e : Nat} {ts : List (Nat × Int)} {d : Nat} (h : Spl b num (a + 1) e ts d) (h1 : b a = 40) (h2 : b e = 41) : Spl b num a (e + 1) ts (d + 1) := by
  have hl := h.le
  have e1 : e + 1 - a = 1 + (e - (a + 1)) + 1 := by omega
  have e2 : a + (1 + (e - (a + 1))) = e := by omega
  have l1 : lets b a 1 = [] := by simp [lets, h1, isLet]
  have l2 : isLet (b e) = false := by rw [h2]; rfl
  have key : lets b a (e + 1 - a) = lets b (a + 1) (e - (a + 1)) := by
    rw [e1, lets, lets_add, l1, e2, l2]; simp
  refine ⟨by omega, ?_, ?_, fun m o ho => ?_⟩
  · rw [key]; exact h.ts
  · rw [key]; exact h.nu
  · have s1 : scn b a 1 (m, o) = (max m (o + 1), o + 1) := by
      show brk (m, o) (b (a + 0)) = _
      rw [Nat.add_zero, h1]; rfl
    rw [e1, scn, scn_add, s1, h.sc _ _ (by omega), e2, h2]
    show (max (max (max m (o + 1)) (o + 1 + (d : Int))) (o + 1 - 1), o + 1 - 1) = _
    have : o + 1 - 1 = o := by omega
    rw [this]
    congr 1
    have : ((d + 1 : Nat) : Int) = (d : Int) + 1 := by omega
    rw [this]
    omega
section
variable {z : Nat} {b : Nat → Nat} {num : Nat → Option (Int × Nat)}
/-- A number is digits alone. -/
def NumDig (b : Nat → Nat) (num : Nat → Option (Int × Nat)) : Prop := ∀ a p, num a = some p → ∀ i, a ≤ i → i < p.2 → 48 ≤ b i ∧ b i ≤ 57
theorem okT_let {c : Nat} {n : Int} (h : okT c n = true) : c = 115 ∨ c = 105 ∨ c = 101 ∨ c = 97 := by
  unfold okT at h
  simp only [Bool.or_eq_true, Bool.and_eq_true, decide_eq_true_eq] at h
  omega
theorem tst_spl (hn : NumOk z num) (hd : NumDig b num) {a : Nat} {o : Out} (h : tstQ z b num a = some o) : Spl b num a o.e o.q.tests o.d := by
  unfold tstQ at h
  split at h
  · rename_i ha
    cases hp : num (a + 1) with
    | none => rw [hp] at h; cases h
    | some p =>
      rw [hp] at h
      simp only at h
      split at h
      · rename_i hk
        simp only [Option.some.injEq] at h
        subst h
        have h1 := hn (a + 1) p (by omega) hp
        have h2 := hd (a + 1) p hp
        have hl : isLet (b a) = true := by
          rcases okT_let hk with e | e | e | e <;> rw [e] <;> rfl
        have hb : b a ≠ 40 ∧ b a ≠ 41 := by
          rcases okT_let hk with e | e | e | e <;> rw [e] <;> decide
        have e1 : p.2 - a = 1 + (p.2 - (a + 1)) := by omega
        have l1 : lets b a 1 = [a] := by simp [lets, hl]
        have l2 : lets b (a + 1) (p.2 - (a + 1)) = [] := lets_none fun i h3 h4 => by
          have := h2 i h3 (by omega)
          unfold isLet
          have : ¬ 97 ≤ b i := by omega
          simp [this]
        refine ⟨by simp only; omega, ?_, ?_, fun m o ho => ?_⟩
        · show (lets b a (p.2 - a)).map _ = [(b a, p.1)]
          rw [e1, lets_add, l1, l2]
          simp [hp]
        · show ∀ i ∈ lets b a (p.2 - a), _
          rw [e1, lets_add, l1, l2]
          intro i hi
          simp at hi
          subst hi
          exact ⟨p, hp⟩
        · show scn b a (p.2 - a) (m, o) = (max m (o + ((0 : Nat) : Int)), o)
          rw [scn_none ho (fun i h3 h4 => ?_)]
          · congr 1; omega
          · by_cases e : i = a
            · subst e; exact hb
            · have := h2 i (by omega) (by omega)
              omega
      · cases h
  · cases h
theorem pJ_spl {part : Nat → Option Out} {sgn : Nat} {or_ : Bool} (hs : sgn = 38 ∨ sgn = 124) (hp : ∀ a o, a ≤ z → part a = some o → Spl b num a o.e o.q.tests o.d) : ∀ a o, a ≤ z → pJ z b part sgn or_ a = some o → Spl b num a o.e o.q.tests o.d := by
  intro a o ha h
  obtain ⟨l, hX, hq⟩ := pJ_ind (X := fun l d e => Spl b num a e ((List.range l.length).flatMap fun j => (atQ l j).tests) d) (fun o h => by
    have := hp a o ha h
    simpa [atQ] using this) (fun l d e o hX he hb h => by
    rw [atQ_app]
    have h1 : Spl b num e (e + 1) [] 0 := Spl.one (by rcases hs with rfl | rfl <;> rw [hb] <;> rfl) (by rcases hs with rfl | rfl <;> rw [hb] <;> decide) (by rcases hs with rfl | rfl <;> rw [hb] <;> decide)
    have h2 := hp (e + 1) o (by omega) h
    have h3 := hX.add (h1.add h2)
    rw [List.nil_append, Nat.zero_max] at h3
    exact h3) h
  rw [hq]
  exact hX
theorem pFac_spl (hn : NumOk z num) (hd : NumDig b num) : ∀ k a o, a ≤ z → pFac z b num k a = some o → Spl b num a o.e o.q.tests o.d := by
  intro k
  induction k with
  | zero => intro a o _ h; cases h
  | succ k ih =>
    intro a o ha h
    unfold pFac at h
    split at h
    · rename_i hc
      cases hp : pFac z b num k (a + 1) with
      | none => rw [hp] at h; cases h
      | some o1 =>
        rw [hp] at h
        simp only [Option.some.injEq] at h
        subst h
        have h1 : Spl b num a (a + 1) [] 0 := Spl.one (by rw [hc.2]; rfl) (by rw [hc.2]; decide) (by rw [hc.2]; decide)
        have h3 := h1.add (ih (a + 1) o1 (by omega) hp)
        rw [List.nil_append, Nat.zero_max] at h3
        exact h3
    · split at h
      · rename_i hc
        cases hp : pJ z b (pJ z b (pFac z b num k) 38 false) 124 true (a + 1) with
        | none => rw [hp] at h; cases h
        | some o1 =>
          rw [hp] at h
          simp only at h
          split at h
          · rename_i hc2
            simp only [Option.some.injEq] at h
            subst h
            exact (pJ_spl (.inr rfl) (pJ_spl (.inl rfl) ih) (a + 1) o1 (by omega) hp).wrap hc.2 hc2.2
          · cases h
      · exact tst_spl hn hd h
theorem parse_spl (hn : NumOk z num) (hd : NumDig b num) {o : Out} (h : parseQ z b num = some o) : Spl b num 0 z o.q.tests o.d := by
  unfold parseQ at h
  cases hp : pQue z b num (z + 1) 0 with
  | none => rw [hp] at h; cases h
  | some o1 =>
    rw [hp] at h
    simp only at h
    split at h
    · rename_i he
      simp only [Option.some.injEq] at h
      subst h
      have := pJ_spl (.inr rfl) (pJ_spl (.inl rfl) (pFac_spl hn hd (z + 1))) 0 o1 (by omega) hp
      rw [he] at this
      exact this
    · cases h
theorem tests_pos : ∀ k a o, pFac z b num k a = some o → 1 ≤ o.q.tests.length := by
  have hJ : ∀ {part : Nat → Option Out} {sgn : Nat} {or_ : Bool}, (∀ a o, part a = some o → 1 ≤ o.q.tests.length) → ∀ a o, pJ z b part sgn or_ a = some o → 1 ≤ o.q.tests.length := by
    intro part sgn or_ hp a o h
    obtain ⟨l, hX, hq⟩ := pJ_ind (X := fun l d e => 1 ≤ ((List.range l.length).flatMap fun j => (atQ l j).tests).length) (fun o h => by
      have := hp a o h
      simpa [atQ] using this) (fun l d e o hX he hb h => by
      rw [atQ_app, List.length_append]; omega) h
    rw [hq]; exact hX
  intro k
  induction k with
  | zero => intro a o h; cases h
  | succ k ih =>
    intro a o h
    unfold pFac at h
    split at h
    · cases hp : pFac z b num k (a + 1) with
      | none => rw [hp] at h; cases h
      | some o1 =>
        rw [hp] at h
        simp only [Option.some.injEq] at h
        subst h
        exact ih (a + 1) o1 hp
    · split at h
      · cases hp : pJ z b (pJ z b (pFac z b num k) 38 false) 124 true (a + 1) with
        | none => rw [hp] at h; cases h
        | some o1 =>
          rw [hp] at h
          simp only at h
          split at h
          · simp only [Option.some.injEq] at h
            subst h
            exact hJ (hJ ih) (a + 1) o1 hp
          · cases h
      · unfold tstQ at h
        split at h
        · cases hp : num (a + 1) with
          | none => rw [hp] at h; cases h
          | some p =>
            rw [hp] at h
            simp only at h
            split at h
            · simp only [Option.some.injEq] at h
              subst h
              exact Nat.le_refl _
            · cases h
        · cases h
end
end Go.Proofs.YtjmfkenhnfdbjaaGreatDoor

/- Queries as plain trees: a query inside brackets in a longer text. No condition but those stated. -/
namespace Go.Proofs.YtjmfkenhnfdbjaaGreatDoor
set_option linter.unusedVariables false
/-- The text of z bytes stands in another one from p on, with a closing bracket behind it. -/
structure Ins (z : Nat) (b : Nat → Nat) (num : Nat → Option (Int × Nat)) (p z' : Nat) (b' : Nat → Nat) (num' : Nat → Option (Int × Nat)) : Prop where
  lt : z + p < z'
  by_ : ∀ i, i < z → b' (i + p) = b i
  cl : b' (z + p) = 41
  nu : ∀ a q, a ≤ z → num a = some q → num' (a + p) = some (q.1, q.2 + p)
section
variable {z : Nat} {b : Nat → Nat} {num : Nat → Option (Int × Nat)} {p z' : Nat} {b' : Nat → Nat} {num' : Nat → Option (Int × Nat)}
def Sh (z p : Nat) (part part' : Nat → Option Out) : Prop := ∀ a o, a ≤ z → part a = some o → part' (a + p) = some ⟨o.q, o.d, o.e + p⟩ ∧ a < o.e ∧ o.e ≤ z
theorem loop_shift (hI : Ins z b num p z' b' num') {part part' : Nat → Option Out} (hp : Sh z p part part') {sgn : Nat} (hs : sgn ≠ 41) :
    ∀ k l d e r, e ≤ z → loopQ z b part sgn k l d e = some r → ∀ k', k ≤ k' → loopQ z' b' part' sgn k' l d (e + p) = some (r.1, r.2.1, r.2.2 + p) := by
  intro k
  induction k with
  | zero => intro l d e r _ h; cases h
  | succ k ih =>
    intro l d e r he h k' hk
    obtain ⟨k', rfl⟩ : ∃ q, k' = q + 1 := ⟨k' - 1, by omega⟩
    have hlt := hI.lt
    by_cases hc : e < z ∧ b e = sgn
    · have hc' : e + p < z' ∧ b' (e + p) = sgn := ⟨by omega, by rw [hI.by_ e hc.1]; exact hc.2⟩
      cases hq : part (e + 1) with
      | none => rw [loopQ_none hc hq] at h; cases h
      | some o =>
        rw [loopQ_some hc hq] at h
        obtain ⟨h1, h2, h3⟩ := hp (e + 1) o (by omega) hq
        rw [loopQ_some hc' (by rw [show e + p + 1 = e + 1 + p by omega]; exact h1)]
        exact ih _ _ _ _ h3 h k' (by omega)
    · rw [loopQ_stop hc] at h
      injection h with h
      subst h
      have hc' : ¬ (e + p < z' ∧ b' (e + p) = sgn) := by
        rintro ⟨h1, h2⟩
        by_cases he2 : e < z
        · rw [hI.by_ e he2] at h2; exact hc ⟨he2, h2⟩
        · have : e = z := by omega
          subst this
          rw [hI.cl] at h2
          exact hs h2.symm
      rw [loopQ_stop hc']
theorem pJ_shift (hI : Ins z b num p z' b' num') {part part' : Nat → Option Out} (hp : Sh z p part part') {sgn : Nat} (hs : sgn ≠ 41) {or_ : Bool} : Sh z p (pJ z b part sgn or_) (pJ z' b' part' sgn or_) := by
  intro a o ha h
  have hend := pJ_end (fun a o ha h => (hp a o ha h).2) a o ha h
  refine ⟨?_, hend⟩
  unfold pJ at h ⊢
  cases hq : part a with
  | none => rw [hq] at h; cases h
  | some o1 =>
    rw [hq] at h
    simp only at h
    obtain ⟨h1, h2, h3⟩ := hp a o1 ha hq
    rw [h1]
    simp only
    cases hl : loopQ z b part sgn (z + 1) [o1.q] o1.d o1.e with
    | none => rw [hl] at h; cases h
    | some r =>
      rw [hl] at h
      simp only [Option.some.injEq] at h
      subst h
      have := hI.lt
      rw [loop_shift hI hp hs (z + 1) _ _ _ r h3 hl (z' + 1) (by omega)]
theorem pFac_shift (hI : Ins z b num p z' b' num') (hn : NumOk z num) : ∀ k k', k ≤ k' → Sh z p (pFac z b num k) (pFac z' b' num' k') := by
  intro k
  induction k with
  | zero => intro k' _ a o _ h; cases h
  | succ k ih =>
    intro k' hk a o ha h
    have hend := pFac_end hn (k + 1) a o ha h
    refine ⟨?_, hend⟩
    obtain ⟨k', rfl⟩ : ∃ q, k' = q + 1 := ⟨k' - 1, by omega⟩
    have hlt := hI.lt
    unfold pFac at h ⊢
    split at h
    · rename_i hc
      have hc' : a + p < z' ∧ b' (a + p) = 33 := ⟨by omega, by rw [hI.by_ a hc.1]; exact hc.2⟩
      rw [if_pos hc']
      cases hq : pFac z b num k (a + 1) with
      | none => rw [hq] at h; cases h
      | some o1 =>
        rw [hq] at h
        simp only [Option.some.injEq] at h
        subst h
        have := (ih k' (by omega) (a + 1) o1 (by omega) hq).1
        rw [show a + p + 1 = a + 1 + p by omega, this]
    · rename_i hc1
      split at h
      · rename_i hc
        have hc' : ¬ (a + p < z' ∧ b' (a + p) = 33) := by
          rintro ⟨_, h2⟩
          rw [hI.by_ a hc.1, hc.2] at h2
          exact absurd h2 (by decide)
        have hc2 : a + p < z' ∧ b' (a + p) = 40 := ⟨by omega, by rw [hI.by_ a hc.1]; exact hc.2⟩
        rw [if_neg hc', if_pos hc2]
        cases hq : pJ z b (pJ z b (pFac z b num k) 38 false) 124 true (a + 1) with
        | none => rw [hq] at h; cases h
        | some o1 =>
          rw [hq] at h
          simp only at h
          split at h
          · rename_i hc3
            simp only [Option.some.injEq] at h
            subst h
            have := (pJ_shift hI (pJ_shift hI (ih k' (by omega)) (sgn := 38) (by decide) (or_ := false)) (sgn := 124) (by decide) (or_ := true) (a + 1) o1 (by omega) hq).1
            rw [show a + p + 1 = a + 1 + p by omega, this]
            simp only
            rw [if_pos (show o1.e + p < z' ∧ b' (o1.e + p) = 41 from ⟨by omega, by rw [hI.by_ o1.e hc3.1]; exact hc3.2⟩)]
            rw [show o1.e + p + 1 = o1.e + 1 + p by omega]
          · cases h
      · rename_i hc2
        unfold tstQ at h
        split at h
        · rename_i hc
          have e := hI.by_ a hc
          rw [if_neg (fun h => hc1 ⟨hc, by rw [← e]; exact h.2⟩), if_neg (fun h => hc2 ⟨hc, by rw [← e]; exact h.2⟩)]
          unfold tstQ
          rw [if_pos (by omega)]
          cases hq : num (a + 1) with
          | none => rw [hq] at h; cases h
          | some q =>
            rw [hq] at h
            simp only at h
            rw [show a + p + 1 = a + 1 + p by omega, hI.nu (a + 1) q (by omega) hq]
            simp only
            rw [e]
            split at h
            · rename_i hk
              simp only [Option.some.injEq] at h
              subst h
              rw [if_pos hk]
            · cases h
        · cases h
theorem pQue_shift (hI : Ins z b num p z' b' num') (hn : NumOk z num) {k k' : Nat} (hk : k ≤ k') : Sh z p (pQue z b num k) (pQue z' b' num' k') :=
  pJ_shift hI (pJ_shift hI (pFac_shift hI hn k k' hk) (sgn := 38) (by decide)) (sgn := 124) (by decide)
theorem parse_que {o : Out} (h : parseQ z b num = some o) : pQue z b num (z + 1) 0 = some o ∧ o.e = z := by
  unfold parseQ at h
  cases hp : pQue z b num (z + 1) 0 with
  | none => rw [hp] at h; cases h
  | some o1 =>
    rw [hp] at h
    simp only at h
    split at h
    · rename_i he
      simp only [Option.some.injEq] at h
      subst h
      exact ⟨rfl, he⟩
    · cases h
/-- A query in brackets, as a factor. -/
theorem pFac_brackets (hI : Ins z b num (p + 1) z' b' num') (hn : NumOk z num) (hb : b' p = 40) {o : Out} (h : parseQ z b num = some o) {k : Nat} (hk : z + 1 ≤ k) :
    pFac z' b' num' (k + 1) p = some ⟨o.q, o.d + 1, z + (p + 1) + 1⟩ := by
  obtain ⟨h1, h2⟩ := parse_que h
  have h3 := (pQue_shift hI hn hk 0 o (by omega) h1).1
  rw [Nat.zero_add, h2] at h3
  have hlt := hI.lt
  unfold pFac
  have n1 : ¬ (p < z' ∧ b' p = 33) := fun h => by rw [hb] at h; exact absurd h.2 (by decide)
  have y1 : p < z' ∧ b' p = 40 := by constructor <;> first | omega | exact hb
  rw [if_neg n1, if_pos y1]
  show (match pQue z' b' num' k (p + 1) with
      | none => none
      | some o => if o.e < z' ∧ b' o.e = 41 then some (⟨o.q, o.d + 1, o.e + 1⟩ : Out) else none) = _
  rw [h3]
  simp only
  rw [if_pos (show z + (p + 1) < z' ∧ b' (z + (p + 1)) = 41 from ⟨by omega, hI.cl⟩)]
theorem loopQ_here {part : Nat → Option Out} {sgn k : Nat} {l : List Qy} {d e : Nat} (hk : 0 < k) (h : ¬ (e < z ∧ b e = sgn)) : loopQ z b part sgn k l d e = some (l, d, e) := by
  obtain ⟨k, rfl⟩ : ∃ q, k = q + 1 := ⟨k - 1, by omega⟩
  exact loopQ_stop h
end
/-- A query of one part of one part. -/
def one2 (q : Qy) : Qy := .seq true 1 (atQ [.seq false 1 (atQ [q])])
theorem one2_eval (q : Qy) (r : Rq) : (one2 q).eval r = q.eval r := by
  show anyB 1 (fun j => (atQ [Qy.seq false 1 (atQ [q])] j).eval r) = _
  have h1 : ∀ p : Nat → Bool, anyB 1 p = p 0 := fun p => by simp [anyB]
  have h2 : ∀ p : Nat → Bool, allB 1 p = p 0 := fun p => by simp [allB]
  rw [h1]
  show (Qy.seq false 1 (atQ [q])).eval r = _
  show allB 1 (fun j => (atQ [q] j).eval r) = _
  rw [h2]; rfl
theorem one2_tests (q : Qy) : (one2 q).tests = q.tests := by
  show (List.range 1).flatMap (fun j => (atQ [Qy.seq false 1 (atQ [q])] j).tests) = _
  have h1 : ∀ p : Nat → List (Nat × Int), (List.range 1).flatMap p = p 0 := fun p => by simp [List.range_succ]
  rw [h1]
  show (Qy.seq false 1 (atQ [q])).tests = _
  show (List.range 1).flatMap (fun j => (atQ [q] j).tests) = _
  rw [h1]; rfl
section
variable {z : Nat} {b : Nat → Nat} {num : Nat → Option (Int × Nat)} {z' : Nat} {b' : Nat → Nat} {num' : Nat → Option (Int × Nat)}
theorem que_one {k a e d : Nat} {q : Qy} (h : pFac z b num k a = some ⟨q, d, e⟩) (he : e = z) : pQue z b num k a = some ⟨one2 q, d, e⟩ := by
  subst he
  have h1 : pTer e b num k a = some ⟨.seq false 1 (atQ [q]), d, e⟩ := by
    unfold pTer pJ
    rw [h]
    simp only
    rw [loopQ_here (by omega) (by omega)]
    rfl
  unfold pQue pJ
  rw [h1]
  simp only
  rw [loopQ_here (by omega) (by omega)]
  rfl
/-- The negation of a query, read. -/
theorem parse_not (hI : Ins z b num 2 z' b' num') (hn : NumOk z num) (hz : z' = z + 3) (h0 : b' 0 = 33) (h1 : b' 1 = 40) {o : Out} (h : parseQ z b num = some o) : parseQ z' b' num' = some ⟨one2 (.neg o.q), o.d + 1, z'⟩ := by
  have hf := pFac_brackets (p := 1) hI hn h1 h (k := z' - 1) (by omega)
  rw [show z' - 1 + 1 = z' by omega] at hf
  have hg : pFac z' b' num' (z' + 1) 0 = some ⟨.neg o.q, o.d + 1, z'⟩ := by
    rw [pFac, if_pos ⟨by omega, h0⟩]
    show (match pFac z' b' num' z' (0 + 1) with
      | none => none
      | some o => some (⟨.neg o.q, o.d, o.e⟩ : Out)) = _
    rw [Nat.zero_add, hf]
    simp only [Option.some.injEq, Out.mk.injEq, true_and]
    omega
  unfold parseQ
  rw [que_one hg rfl]
  simp only [if_true]
/-- Two queries, both of which are to match. -/
def two2 (p q : Qy) : Qy := .seq true 1 (atQ [.seq false 2 (atQ [p, q])])
theorem two2_eval (p q : Qy) (r : Rq) : (two2 p q).eval r = (p.eval r && q.eval r) := by
  show anyB 1 (fun j => (atQ [Qy.seq false 2 (atQ [p, q])] j).eval r) = _
  have h1 : ∀ p : Nat → Bool, anyB 1 p = p 0 := fun p => by simp [anyB]
  have h2 : ∀ p : Nat → Bool, allB 2 p = (p 0 && p 1) := fun p => by simp [allB, List.range_succ]
  rw [h1]
  show allB 2 (fun j => (atQ [p, q] j).eval r) = _
  rw [h2]; rfl
theorem parse_both {y : Nat} {c : Nat → Nat} {nuc : Nat → Option (Int × Nat)} (hI : Ins z b num 1 z' b' num') (hJ : Ins y c nuc (z + 4) z' b' num') (hn : NumOk z num) (hm : NumOk y nuc) (hz : z' = z + y + 5)
    (h0 : b' 0 = 40) (h2 : b' (z + 2) = 38) (h3 : b' (z + 3) = 40) {o u : Out} (h : parseQ z b num = some o) (k : parseQ y c nuc = some u) : parseQ z' b' num' = some ⟨two2 o.q u.q, max (o.d + 1) (u.d + 1), z'⟩ := by
  have hf := pFac_brackets (p := 0) hI hn h0 h (k := z') (by omega)
  have hg := pFac_brackets (p := z + 3) hJ hm h3 k (k := z') (by omega)
  have h1 : pTer z' b' num' (z' + 1) 0 = some ⟨.seq false 2 (atQ [o.q, u.q]), max (o.d + 1) (u.d + 1), z'⟩ := by
    unfold pTer pJ
    rw [hf]
    simp only
    rw [loopQ_some (o := ⟨u.q, u.d + 1, z'⟩) ⟨by omega, by rw [show z + (0 + 1) + 1 = z + 2 by omega]; exact h2⟩ (by
      rw [show z + (0 + 1) + 1 + 1 = z + 3 by omega, hg]
      simp only [Option.some.injEq, Out.mk.injEq, true_and]
      omega)]
    rw [loopQ_here (by omega) (by simp)]
    rfl
  unfold parseQ pQue
  rw [pJ, h1]
  simp only
  rw [loopQ_here (by omega) (by omega)]
  simp only [if_true]
  rfl
end
end Go.Proofs.YtjmfkenhnfdbjaaGreatDoor

/- The tests of a query, one by one: the program's walk over the tree. No condition but those stated. -/
namespace Go.Proofs.YtjmfkenhnfdbjaaGreatDoor
set_option linter.unusedVariables false
set_option linter.unusedSimpArgs false
open Go.RowKit Go.Sort
/-- The block is the variable P's, or of the row that the variable holds. -/
def OwnB (w : World) (P b : Nat) : Prop := b = P ∨ ∃ v, w.cell? ⟨P, 0, none⟩ = some v ∧ v.ownBlock = some b
/-- Nothing but the variable and its row has turned. -/
structure Kp (P : Nat) (w w' : World) : Prop where
  os : w'.os = w.os
  tape : w'.tape = w.tape
  output : w'.output = w.output
  size : w.heap.size ≤ w'.heap.size
  block : ∀ b, b < w.heap.size → ¬ OwnB w P b → w'.heap[b]? = w.heap[b]? ∧ ¬ OwnB w' P b
theorem Kp.trans {P : Nat} {a b c : World} (h : Kp P a b) (k : Kp P b c) : Kp P a c :=
  ⟨k.os.trans h.os, k.tape.trans h.tape, k.output.trans h.output, Nat.le_trans h.size k.size, fun i hi hn =>
    let ⟨e, n⟩ := h.block i hi hn
    let ⟨e2, n2⟩ := k.block i (Nat.lt_of_lt_of_le hi h.size) n
    ⟨e2.trans e, n2⟩⟩
theorem Kp.of_below {P : Nat} {w w' : World} (hP : P < w.heap.size) (hb : Below w.heap.size w w') : Kp P w w' :=
  ⟨hb.os, hb.tape, hb.output, hb.size, fun b hl hn => ⟨hb.block b hl, fun ho => hn (by
    rcases ho with e | ⟨v, hv, h2⟩
    · exact .inl e
    · exact .inr ⟨v, (hb.cell (p := ⟨P, 0, none⟩) hP).symm.trans hv, h2⟩)⟩⟩
theorem Kp.below {P : Nat} {w w' : World} (h : Kp P w w') (ho : ∀ b, OwnB w P b → P ≤ b) (hP : P ≤ w.heap.size) : Below P w w' :=
  ⟨h.os, h.tape, h.output, h.size, fun k hk => (h.block k (by omega) (fun hh => by have := ho k hh; omega)).1⟩
theorem Kp.tr {P : Nat} {w w' : World} {D : Nat → Prop} {q : Qy} {x : Tq} (h : Kp P w w') (ho : ∀ b, OwnB w P b → P ≤ b) (hd : ∀ g, D g → g < P) (ht : TR w D q x) : TR w' D q x :=
  TR.frame (fun g hg hl => (h.block g hl (fun hh => by have := ho g hh; have := hd g hg; omega)).1) h.size q x ht
theorem TR.inside {w : World} {D : Nat → Prop} : ∀ (q : Qy) (x : Tq), TR w D q x → TR w (fun g => g < w.heap.size) q x := by
  intro q
  induction q with
  | test c n => intro x h; exact h
  | neg q ih =>
    intro x h
    obtain ⟨g, k, y, e, h1, h2, h3, h6⟩ := h
    exact ⟨g, k, y, e, h2, h2, h3, ih y h6⟩
  | seq o m f ih =>
    intro x h
    obtain ⟨g, k, e, h1, h2, h3, h4, h5⟩ := h
    refine ⟨g, k, e, h2, h2, h3, h4, fun j hj => ?_⟩
    obtain ⟨y, k1, k4⟩ := h5 j hj
    exact ⟨y, k1, ih j y k4⟩
/-- A function that visits tests and keeps its state in the variable P. -/
structure Vis (P : Nat) (St : World → List (Nat × Int) → Prop) (fc : Nat) : Prop where
  own : ∀ w ts, St w ts → P < w.heap.size ∧ ∀ b, OwnB w P b → P ≤ b ∧ b < w.heap.size
  bel : ∀ w w' ts, Below w.heap.size w w' → St w ts → St w' ts
  call : ∀ (w : World) (c : Nat) (n : Int) ts, ts.length < 1048576 → St w ts → Calls Tryz.prog fc #[.agg #[.int .u8 (c : Int), .int .i64 n, .slice none 0 0], .pointer (some ⟨P, 0, none⟩)] w fun e w' => e = .returned (.tuple #[]) ∧ St w' (ts ++ [(c, n)]) ∧ Kp P w w'
def flat (qs : Nat → Qy) (j : Nat) : List (Nat × Int) := (List.range j).flatMap fun i => (qs i).tests
theorem flat_succ (qs : Nat → Qy) (j : Nat) : flat qs (j + 1) = flat qs j ++ (qs j).tests := by
  unfold flat; rw [List.range_succ, List.flatMap_append]; simp
theorem flat_le (qs : Nat → Qy) {j m : Nat} (h : j < m) : (flat qs j).length + (qs j).tests.length ≤ (flat qs m).length := by
  induction m with
  | zero => omega
  | succ m ih =>
    rw [flat_succ qs m, List.length_append]
    by_cases e : j = m
    · subst e; exact Nat.le_refl _
    · have := ih (by omega); omega
set_option maxHeartbeats 4000000 in
theorem C_eachSeq (fc P : Nat) (St : World → List (Nat × Int) → Prop) (V : Vis P St fc) (s : Int) (g m k : Nat) (y : Nat → Tq) (qs : Nat → Qy) (w : World) (ts : List (Nat × Int)) (hm : 0 < m) (hmk : m ≤ 9223372036854775807) (hg : g < P)
    (hst : St w ts) (hlen : ts.length + (flat qs m).length ≤ 1048576)
    (hc : ∀ j, j < m → w.cell? ⟨g, j * 3, none⟩ = some (.int .u8 (y j).c) ∧ w.cell? ⟨g, j * 3 + 1, none⟩ = some (.int .i64 (y j).n) ∧ w.cell? ⟨g, j * 3 + 2, none⟩ = some (.slice (y j).A (y j).m (y j).k))
    (hI : ∀ j, j < m → ∀ w' ts', St w' ts' → Kp P w w' → ts'.length + (qs j).tests.length ≤ 1048576 → Calls Tryz.prog 47 #[.agg #[.int .u8 (y j).c, .int .i64 (y j).n, .slice (y j).A (y j).m (y j).k], .func (.func fc) #[] #[.pointer (some ⟨P, 0, none⟩)]] w' fun e w'' => e = .returned (.tuple #[]) ∧ St w'' (ts' ++ (qs j).tests) ∧ Kp P w' w'') :
    Calls Tryz.prog 47 #[.agg #[.int .u8 ((⟨s, 0, some ⟨g, 0, none⟩, m, k⟩ : Tq)).c, .int .i64 ((⟨s, 0, some ⟨g, 0, none⟩, m, k⟩ : Tq)).n, .slice ((⟨s, 0, some ⟨g, 0, none⟩, m, k⟩ : Tq)).A ((⟨s, 0, some ⟨g, 0, none⟩, m, k⟩ : Tq)).m ((⟨s, 0, some ⟨g, 0, none⟩, m, k⟩ : Tq)).k], .func (.func fc) #[] #[.pointer (some ⟨P, 0, none⟩)]] w fun e w' => e = .returned (.tuple #[]) ∧ St w' (ts ++ flat qs m) ∧ Kp P w w' := by
  obtain ⟨hP, hown⟩ := V.own w ts hst
  obtain ⟨w0, hw0⟩ : ∃ w0, w0 = w.alloc (.cells #[.int .u8 ((⟨s, 0, some ⟨g, 0, none⟩, m, k⟩ : Tq)).c, .int .i64 ((⟨s, 0, some ⟨g, 0, none⟩, m, k⟩ : Tq)).n, .slice ((⟨s, 0, some ⟨g, 0, none⟩, m, k⟩ : Tq)).A ((⟨s, 0, some ⟨g, 0, none⟩, m, k⟩ : Tq)).m ((⟨s, 0, some ⟨g, 0, none⟩, m, k⟩ : Tq)).k] 61) := ⟨_, rfl⟩
  have HW0 := Lib.hid hw0.symm
  have B0 : Below w.heap.size w w0 := by rw [hw0]; exact (Below.refl _ _).alloc (Nat.le_refl _) _
  have q2 : w0.cell? ⟨w.heap.size, 2, none⟩ = some (.slice (some ⟨g, 0, none⟩) m k) := by rw [hw0]; simp
  have hne : ((m : Int) == 0) = false := by rw [beq_eq_false_iff_ne]; omega
  have HST := Lib.hid (V.bel _ _ _ B0 hst)
  have HK := Lib.hid (Kp.of_below hP B0)
  have HC := Lib.hid hc
  have HI := Lib.hid hI
  have HL := Lib.hid hlen
  have HO := Lib.hid (fun b hb => (hown b hb).1)
  have HV := Lib.hid V
  clear hc hI hlen hst hown hw0 B0 V
  go_enter Tryz.func47, Tryz.ntmps47
  go_upto_region 1 with fail
  rw [HW0.out]
  go_wp2
  clear q2
  go_loopw [16] (fun i wr => ∃ j : Nat, j ≤ m ∧ i = .int .i64 j ∧ St wr (ts ++ flat qs j) ∧ Kp P w wr) (fun i _ => m - (intOf i).toNat)
  case atStart => exact ⟨0, Nat.zero_le _, rfl, by simpa [flat] using HST.out, HK.out⟩
  case round =>
    obtain ⟨j, hj, rfl, hst, hkp⟩ := hrel
    have HS := Lib.hid hst
    have HKP := Lib.hid hkp
    clear hst HST HK
    by_cases hlt : j < m
    · obtain ⟨e0, e1, e2⟩ := HC.out j hlt
      have hblk := (hkp.block g (by omega) (fun hh => by have := HO.out g hh; omega)).1
      have d0 := (World.cell?_of_block (w := w) (a := ⟨g, j * 3, none⟩) hblk).trans e0
      have d1 := (World.cell?_of_block (w := w) (a := ⟨g, j * 3 + 1, none⟩) hblk).trans e1
      have d2 := (World.cell?_of_block (w := w) (a := ⟨g, j * 3 + 2, none⟩) hblk).trans e2
      obtain ⟨W, hW⟩ : ∃ W, W = wr.alloc (.cells #[.int .u8 (y j).c, .int .i64 (y j).n, .slice (y j).A (y j).m (y j).k] 61) := ⟨_, rfl⟩
      have BW : Below wr.heap.size wr W := by rw [hW]; exact (Below.refl _ _).alloc (Nat.le_refl _) _
      obtain ⟨x0, x1, x2⟩ : W.cell? ⟨wr.heap.size, 0, none⟩ = some (.int .u8 (y j).c) ∧ W.cell? ⟨wr.heap.size, 1, none⟩ = some (.int .i64 (y j).n) ∧ W.cell? ⟨wr.heap.size, 2, none⟩ = some (.slice (y j).A (y j).m (y j).k) := by rw [hW]; exact ⟨cell_new _ _ _ _ _ rfl, cell_new _ _ _ _ _ rfl, cell_new _ _ _ _ _ rfl⟩
      have hPr : P < wr.heap.size := Nat.lt_of_lt_of_le hP hkp.size
      have HKW := Lib.hid (hkp.trans (Kp.of_below hPr BW))
      have HSW := Lib.hid (HV.out.bel _ _ _ BW HS.out)
      have HWE := Lib.hid hW.symm
      have HFL := Lib.hid (flat_succ qs j)
      have hle := flat_le qs hlt
      have hLL := HL.out
      have HCL := Lib.hid (HI.out j hlt W (ts ++ flat qs j) HSW.out HKW.out (by rw [List.length_append]; omega))
      clear e0 e1 e2 hkp hblk hW BW hle hLL
      go_upto_region 6 with fail
      rw [HWE.out]
      go_wp2_with fail
      refine HCL.out.mono ?_; rintro e w3 ⟨rfl, hs3, hk3⟩
      have HS3 := Lib.hid hs3
      have HK3 := Lib.hid hk3
      clear hs3 hk3 x0 x1 x2 d0 d1 d2
      go_wp2
      go_roundw
      case rel => exact ⟨j + 1, by omega, by go_num, by rw [HFL.out, ← List.append_assoc]; exact HS3.out, HKW.out.trans HK3.out⟩
      case measure => simp [intOf]; omega
    · obtain rfl : j = m := by omega
      go_wp2
      go_end0
      exact ⟨rfl, HS.out, HKP.out⟩
set_option maxRecDepth 100000 in
set_option maxHeartbeats 4000000 in
theorem C_eachS (P : Nat) (St : World → List (Nat × Int) → Prop) (V : Vis P St 57) (D : Nat → Prop) (hD : ∀ g, D g → g < P) : ∀ (q : Qy) (x : Tq) (w : World) (ts : List (Nat × Int)), TR w D q x → q.wf → St w ts → ts.length + q.tests.length ≤ 1048576 →
    Calls Tryz.prog 47 #[.agg #[.int .u8 (x).c, .int .i64 (x).n, .slice (x).A (x).m (x).k], .func (.func 57) #[] #[.pointer (some ⟨P, 0, none⟩)]] w fun e w' => e = .returned (.tuple #[]) ∧ St w' (ts ++ q.tests) ∧ Kp P w w' := by
  intro q
  induction q with
  | test c n =>
    intro x w ts ht hwf hst hlen
    have ht : x = ⟨(c : Int), n, none, 0, 0⟩ := ht
    subst ht
    obtain ⟨hP, hown⟩ := V.own w ts hst
    obtain ⟨w0, hw0⟩ : ∃ w0, w0 = w.alloc (.cells #[.int .u8 ((⟨(c : Int), n, none, 0, 0⟩ : Tq)).c, .int .i64 ((⟨(c : Int), n, none, 0, 0⟩ : Tq)).n, .slice ((⟨(c : Int), n, none, 0, 0⟩ : Tq)).A ((⟨(c : Int), n, none, 0, 0⟩ : Tq)).m ((⟨(c : Int), n, none, 0, 0⟩ : Tq)).k] 61) := ⟨_, rfl⟩
    have HW0 := Lib.hid hw0.symm
    have B0 : Below w.heap.size w w0 := by rw [hw0]; exact (Below.refl _ _).alloc (Nat.le_refl _) _
    have q0 : w0.cell? ⟨w.heap.size, 0, none⟩ = some (.int .u8 (c : Int)) := by rw [hw0]; simp
    have q1 : w0.cell? ⟨w.heap.size, 1, none⟩ = some (.int .i64 n) := by rw [hw0]; simp
    have q2 : w0.cell? ⟨w.heap.size, 2, none⟩ = some (.slice none 0 0) := by rw [hw0]; simp
    have hz : w.heap.size < w0.heap.size := by rw [hw0]; simp
    have HK := Lib.hid (Kp.of_below hP B0)
    have hno : ¬ OwnB w0 P w.heap.size := by
      rintro (e | ⟨v, hv, h2⟩)
      · omega
      · have := hown w.heap.size (.inr ⟨v, (B0.cell (p := ⟨P, 0, none⟩) hP).symm.trans hv, h2⟩)
        omega
    have HNO := Lib.hid hno
    have HCL := Lib.hid (V.call w0 c n ts (by have : (Qy.test c n).tests.length = 1 := rfl; omega) (V.bel _ _ _ B0 hst))
    have HQ2 := Lib.hid q2
    clear hwf hst hlen hown hw0 B0 V hno
    go_enter Tryz.func47, Tryz.ntmps47
    go_upto_region 1 with fail
    rw [HW0.out]
    go_wp2_with fail
    refine HCL.out.mono ?_; rintro e w1 ⟨rfl, hs1, hk1⟩
    have HS1 := Lib.hid hs1
    have HK1 := Lib.hid (HK.out.trans hk1)
    have d2 := (World.cell?_of_block (w := w0) (a := ⟨w.heap.size, 2, none⟩) (hk1.block w.heap.size hz HNO.out).1).trans HQ2.out
    clear hs1 hk1 q0 q1 q2
    go_wp2
    go_loopw [16] (fun i wr => i = .int .i64 0 ∧ wr = w1) (fun _ _ => 0)
    case atStart => exact ⟨rfl, rfl⟩
    case round =>
      obtain ⟨rfl, rfl⟩ := hrel
      go_wp2
      go_end0
      exact ⟨rfl, HS1.out, HK1.out⟩
  | neg q ih =>
    intro x w ts ht hwf hst hlen
    obtain ⟨g, k, y, rfl, hd, hg, ⟨c0, c1, c2⟩, hty⟩ := ht
    obtain ⟨hP, hown⟩ := V.own w ts hst
    have e1 : flat (fun _ => q) 1 = q.tests := by simp [flat]
    have e2 : (Qy.neg q).tests = q.tests := rfl
    rw [e2] at hlen ⊢
    have := C_eachSeq 57 P St V 33 g 1 k (fun _ => y) (fun _ => q) w ts (by omega) (by omega) (hD g hd) hst (by rw [e1]; exact hlen)
      (fun j hj => by obtain rfl : j = 0 := (by omega); exact ⟨c0, c1, c2⟩)
      (fun j hj w' ts' hs' hk' hl' => ih y w' ts' (hk'.tr (fun b hb => (hown b hb).1) hD hty) hwf hs' hl')
    rw [e1] at this
    exact this
  | seq o m f ih =>
    intro x w ts ht hwf hst hlen
    obtain ⟨g, k, rfl, hd, hg, hmk, hk, hp⟩ := ht
    obtain ⟨hP, hown⟩ := V.own w ts hst
    have key : ∀ j, ∃ y : Tq, j < m → (w.cell? ⟨g, j * 3, none⟩ = some (.int .u8 y.c) ∧ w.cell? ⟨g, j * 3 + 1, none⟩ = some (.int .i64 y.n) ∧ w.cell? ⟨g, j * 3 + 2, none⟩ = some (.slice y.A y.m y.k)) ∧ TR w D (f j) y := by
      intro j
      by_cases hj : j < m
      · obtain ⟨y, hy⟩ := hp j hj
        exact ⟨y, fun _ => hy⟩
      · exact ⟨zeroQ, fun hh => absurd hh hj⟩
    obtain ⟨y, hy⟩ := Classical.axiomOfChoice key
    exact C_eachSeq 57 P St V _ g m k y f w ts hwf.1 (by omega) (hD g hd) hst hlen (fun j hj => (hy j hj).1)
      (fun j hj w' ts' hs' hk' hl' => ih j (y j) w' ts' (hk'.tr (fun b hb => (hown b hb).1) hD (hy j hj).2) (hwf.2 j hj) hs' hl')
set_option maxRecDepth 100000 in
set_option maxHeartbeats 4000000 in
theorem C_eachC (P : Nat) (St : World → List (Nat × Int) → Prop) (V : Vis P St 48) (D : Nat → Prop) (hD : ∀ g, D g → g < P) : ∀ (q : Qy) (x : Tq) (w : World) (ts : List (Nat × Int)), TR w D q x → q.wf → St w ts → ts.length + q.tests.length ≤ 1048576 →
    Calls Tryz.prog 47 #[.agg #[.int .u8 (x).c, .int .i64 (x).n, .slice (x).A (x).m (x).k], .func (.func 48) #[] #[.pointer (some ⟨P, 0, none⟩)]] w fun e w' => e = .returned (.tuple #[]) ∧ St w' (ts ++ q.tests) ∧ Kp P w w' := by
  intro q
  induction q with
  | test c n =>
    intro x w ts ht hwf hst hlen
    have ht : x = ⟨(c : Int), n, none, 0, 0⟩ := ht
    subst ht
    obtain ⟨hP, hown⟩ := V.own w ts hst
    obtain ⟨w0, hw0⟩ : ∃ w0, w0 = w.alloc (.cells #[.int .u8 ((⟨(c : Int), n, none, 0, 0⟩ : Tq)).c, .int .i64 ((⟨(c : Int), n, none, 0, 0⟩ : Tq)).n, .slice ((⟨(c : Int), n, none, 0, 0⟩ : Tq)).A ((⟨(c : Int), n, none, 0, 0⟩ : Tq)).m ((⟨(c : Int), n, none, 0, 0⟩ : Tq)).k] 61) := ⟨_, rfl⟩
    have HW0 := Lib.hid hw0.symm
    have B0 : Below w.heap.size w w0 := by rw [hw0]; exact (Below.refl _ _).alloc (Nat.le_refl _) _
    have q0 : w0.cell? ⟨w.heap.size, 0, none⟩ = some (.int .u8 (c : Int)) := by rw [hw0]; simp
    have q1 : w0.cell? ⟨w.heap.size, 1, none⟩ = some (.int .i64 n) := by rw [hw0]; simp
    have q2 : w0.cell? ⟨w.heap.size, 2, none⟩ = some (.slice none 0 0) := by rw [hw0]; simp
    have hz : w.heap.size < w0.heap.size := by rw [hw0]; simp
    have HK := Lib.hid (Kp.of_below hP B0)
    have hno : ¬ OwnB w0 P w.heap.size := by
      rintro (e | ⟨v, hv, h2⟩)
      · omega
      · have := hown w.heap.size (.inr ⟨v, (B0.cell (p := ⟨P, 0, none⟩) hP).symm.trans hv, h2⟩)
        omega
    have HNO := Lib.hid hno
    have HCL := Lib.hid (V.call w0 c n ts (by have : (Qy.test c n).tests.length = 1 := rfl; omega) (V.bel _ _ _ B0 hst))
    have HQ2 := Lib.hid q2
    clear hwf hst hlen hown hw0 B0 V hno
    go_enter Tryz.func47, Tryz.ntmps47
    go_upto_region 1 with fail
    rw [HW0.out]
    go_wp2_with fail
    refine HCL.out.mono ?_; rintro e w1 ⟨rfl, hs1, hk1⟩
    have HS1 := Lib.hid hs1
    have HK1 := Lib.hid (HK.out.trans hk1)
    have d2 := (World.cell?_of_block (w := w0) (a := ⟨w.heap.size, 2, none⟩) (hk1.block w.heap.size hz HNO.out).1).trans HQ2.out
    clear hs1 hk1 q0 q1 q2
    go_wp2
    go_loopw [16] (fun i wr => i = .int .i64 0 ∧ wr = w1) (fun _ _ => 0)
    case atStart => exact ⟨rfl, rfl⟩
    case round =>
      obtain ⟨rfl, rfl⟩ := hrel
      go_wp2
      go_end0
      exact ⟨rfl, HS1.out, HK1.out⟩
  | neg q ih =>
    intro x w ts ht hwf hst hlen
    obtain ⟨g, k, y, rfl, hd, hg, ⟨c0, c1, c2⟩, hty⟩ := ht
    obtain ⟨hP, hown⟩ := V.own w ts hst
    have e1 : flat (fun _ => q) 1 = q.tests := by simp [flat]
    have e2 : (Qy.neg q).tests = q.tests := rfl
    rw [e2] at hlen ⊢
    have := C_eachSeq 48 P St V 33 g 1 k (fun _ => y) (fun _ => q) w ts (by omega) (by omega) (hD g hd) hst (by rw [e1]; exact hlen)
      (fun j hj => by obtain rfl : j = 0 := (by omega); exact ⟨c0, c1, c2⟩)
      (fun j hj w' ts' hs' hk' hl' => ih y w' ts' (hk'.tr (fun b hb => (hown b hb).1) hD hty) hwf hs' hl')
    rw [e1] at this
    exact this
  | seq o m f ih =>
    intro x w ts ht hwf hst hlen
    obtain ⟨g, k, rfl, hd, hg, hmk, hk, hp⟩ := ht
    obtain ⟨hP, hown⟩ := V.own w ts hst
    have key : ∀ j, ∃ y : Tq, j < m → (w.cell? ⟨g, j * 3, none⟩ = some (.int .u8 y.c) ∧ w.cell? ⟨g, j * 3 + 1, none⟩ = some (.int .i64 y.n) ∧ w.cell? ⟨g, j * 3 + 2, none⟩ = some (.slice y.A y.m y.k)) ∧ TR w D (f j) y := by
      intro j
      by_cases hj : j < m
      · obtain ⟨y, hy⟩ := hp j hj
        exact ⟨y, fun _ => hy⟩
      · exact ⟨zeroQ, fun hh => absurd hh hj⟩
    obtain ⟨y, hy⟩ := Classical.axiomOfChoice key
    exact C_eachSeq 48 P St V _ g m k y f w ts hwf.1 (by omega) (hD g hd) hst hlen (fun j hj => (hy j hj).1)
      (fun j hj w' ts' hs' hk' hl' => ih j (y j) w' ts' (hk'.tr (fun b hb => (hown b hb).1) hD (hy j hj).2) (hwf.2 j hj) hs' hl')
end Go.Proofs.YtjmfkenhnfdbjaaGreatDoor

/- Numbers put to their places, each once: the plain law. No condition but those stated. -/
namespace Go.Proofs.YtjmfkenhnfdbjaaGreatDoor
set_option linter.unusedVariables false
open Go.Lib
/-- A number put to its place, once. -/
def put : List Int → Int → List Int
  | [], x => [x]
  | a :: r, x => if a < x then a :: put r x else if a = x then a :: r else x :: a :: r
def Srt (l : List Int) : Prop := l.Pairwise (· < ·)
theorem put_mem {l : List Int} {x y : Int} : y ∈ put l x ↔ y = x ∨ y ∈ l := by
  induction l with
  | nil => simp [put]
  | cons a r ih =>
    unfold put
    split
    · simp only [List.mem_cons, ih]
      constructor
      · rintro (h | h | h)
        · exact .inr (.inl h)
        · exact .inl h
        · exact .inr (.inr h)
      · rintro (h | h | h)
        · exact .inr (.inl h)
        · exact .inl h
        · exact .inr (.inr h)
    · split
      · rename_i h1 h2
        subst h2
        simp only [List.mem_cons]
        constructor
        · exact .inr
        · rintro (h | h)
          · exact .inl h
          · exact h
      · simp only [List.mem_cons]
theorem put_srt {l : List Int} {x : Int} (h : Srt l) : Srt (put l x) := by
  induction l with
  | nil => exact List.pairwise_singleton _ _
  | cons a r ih =>
    obtain ⟨h1, h2⟩ := List.pairwise_cons.1 h
    unfold put
    split
    · rename_i hlt
      refine List.pairwise_cons.2 ⟨fun y hy => ?_, ih h2⟩
      rcases put_mem.1 hy with rfl | hm
      · exact hlt
      · exact h1 y hm
    · split
      · exact h
      · rename_i hn he
        refine List.pairwise_cons.2 ⟨fun y hy => ?_, h⟩
        rcases List.mem_cons.1 hy with rfl | hm
        · omega
        · have := h1 y hm; omega
theorem srt_ext : ∀ {a b : List Int}, Srt a → Srt b → (∀ x, x ∈ a ↔ x ∈ b) → a = b
  | [], [], _, _, _ => rfl
  | [], y :: s, _, _, h => absurd ((h y).2 (List.mem_cons_self ..)) (by simp)
  | x :: r, [], _, _, h => absurd ((h x).1 (List.mem_cons_self ..)) (by simp)
  | x :: r, y :: s, ha, hb, h => by
    obtain ⟨a1, a2⟩ := List.pairwise_cons.1 ha
    obtain ⟨b1, b2⟩ := List.pairwise_cons.1 hb
    have hxy : x = y := by
      rcases List.mem_cons.1 ((h x).1 (List.mem_cons_self ..)) with e | e
      · exact e
      · rcases List.mem_cons.1 ((h y).2 (List.mem_cons_self ..)) with e2 | e2
        · exact e2.symm
        · have := b1 x e; have := a1 y e2; omega
    subst hxy
    rw [srt_ext a2 b2 fun z => ?_]
    constructor
    · intro hz
      rcases List.mem_cons.1 ((h z).1 (List.mem_cons_of_mem _ hz)) with e | e
      · subst e; have := a1 z hz; omega
      · exact e
    · intro hz
      rcases List.mem_cons.1 ((h z).2 (List.mem_cons_of_mem _ hz)) with e | e
      · subst e; have := b1 z hz; omega
      · exact e
theorem put_has {l : List Int} {x : Int} (h : Srt l) (hx : x ∈ l) : put l x = l :=
  srt_ext (put_srt h) h fun y => by
    rw [put_mem]
    constructor
    · intro hm
      rcases hm with rfl | hm
      · exact hx
      · exact hm
    · exact .inr
def once (zs : List Int) : List Int := zs.foldl put []
theorem fold_mem (zs : List Int) : ∀ acc y, y ∈ zs.foldl put acc ↔ y ∈ acc ∨ y ∈ zs := by
  induction zs with
  | nil => intro acc y; simp
  | cons z r ih =>
    intro acc y
    rw [List.foldl_cons, ih, put_mem, List.mem_cons]
    constructor
    · rintro ((h | h) | h)
      · exact .inr (.inl h)
      · exact .inl h
      · exact .inr (.inr h)
    · rintro (h | h | h)
      · exact .inl (.inr h)
      · exact .inl (.inl h)
      · exact .inr h
theorem fold_srt (zs : List Int) : ∀ acc, Srt acc → Srt (zs.foldl put acc) := by
  induction zs with
  | nil => intro acc h; exact h
  | cons z r ih => intro acc h; exact ih _ (put_srt h)
theorem once_mem {zs : List Int} {y : Int} : y ∈ once zs ↔ y ∈ zs := by unfold once; rw [fold_mem]; simp
theorem once_srt (zs : List Int) : Srt (once zs) := fold_srt zs [] List.Pairwise.nil
theorem once_snoc (zs : List Int) (x : Int) : once (zs ++ [x]) = put (once zs) x := by unfold once; rw [List.foldl_append]; rfl
theorem once_len (zs : List Int) : (once zs).length ≤ zs.length := by
  have hp : ∀ l x, (put l x).length ≤ l.length + 1 := by
    intro l x
    induction l with
    | nil => simp [put]
    | cons a r ih => unfold put; split <;> (try split) <;> simp <;> omega
  have key : ∀ (zs acc : List Int), (zs.foldl put acc).length ≤ acc.length + zs.length := by
    intro zs
    induction zs with
    | nil => intro acc; simp
    | cons z r ih => intro acc; have := ih (put acc z); have := hp acc z; simp only [List.foldl_cons, List.length_cons]; omega
  have := key zs []
  simpa [once] using this
theorem compact_law (d : Array Int) (hs : ∀ i j, i ≤ j → j < d.size → d[i]! ≤ d[j]!) : ∀ m, m ≤ d.size → Srt (compactUpTo d m) ∧ ∀ y, y ∈ compactUpTo d m ↔ ∃ j, j < m ∧ d[j]! = y := by
  intro m
  induction m with
  | zero => intro _; exact ⟨by simp [compactUpTo, Srt], fun y => by simp [compactUpTo]⟩
  | succ m ih =>
    intro hm
    obtain ⟨h1, h2⟩ := ih (by omega)
    rw [compactUpTo_succ]
    cases hk : keeps d m with
    | true =>
      simp only [if_true]
      refine ⟨List.pairwise_append.2 ⟨h1, List.pairwise_singleton _ _, fun a ha b hb => ?_⟩, fun y => ?_⟩
      · rw [List.mem_singleton] at hb
        subst hb
        obtain ⟨j, hj, rfl⟩ := (h2 a).1 ha
        have hne : d[m]! ≠ d[m - 1]! := by
          unfold keeps at hk
          simp only [decide_eq_true_eq] at hk
          rcases hk with h | h
          · omega
          · exact h
        have a1 := hs j (m - 1) (by omega) (by omega)
        have a2 := hs (m - 1) m (by omega) (by omega)
        omega
      · rw [List.mem_append, h2, List.mem_singleton]
        constructor
        · rintro (⟨j, hj, e⟩ | rfl)
          · exact ⟨j, by omega, e⟩
          · exact ⟨m, by omega, rfl⟩
        · rintro ⟨j, hj, e⟩
          by_cases hjm : j = m
          · subst hjm; exact .inr e.symm
          · exact .inl ⟨j, by omega, e⟩
    | false =>
      simp only [Bool.false_eq_true, if_false, List.append_nil]
      refine ⟨h1, fun y => ?_⟩
      rw [h2]
      have hpos : 0 < m ∧ d[m]! = d[m - 1]! := by
        unfold keeps at hk
        simp only [decide_eq_false_iff_not, not_or, Classical.not_not] at hk
        exact ⟨by omega, hk.2⟩
      constructor
      · rintro ⟨j, hj, e⟩; exact ⟨j, by omega, e⟩
      · rintro ⟨j, hj, e⟩
        by_cases hjm : j = m
        · subst hjm; exact ⟨j - 1, by omega, by rw [← hpos.2]; exact e⟩
        · exact ⟨j, by omega, e⟩
theorem compact_sort (zs : List Int) : compact (zs.mergeSort fun x y => decide (x ≤ y)) = once zs := by
  obtain ⟨s, hs⟩ : ∃ s, zs.mergeSort (fun x y => decide (x ≤ y)) = s := ⟨_, rfl⟩
  have hperm : s.Perm zs := by rw [← hs]; exact List.mergeSort_perm _ _
  have hpw : s.Pairwise (· ≤ ·) := by
    have := List.pairwise_mergeSort (le := fun x y : Int => decide (x ≤ y)) (fun a b c h1 h2 => by simp at *; omega) (fun a b => by simp; omega) zs
    rw [hs] at this
    exact this.imp fun h => by simpa using h
  rw [hs]
  have hget : ∀ j, j < s.length → s.toArray[j]! = s.getD j 0 := fun j hj => by
    rw [List.getD_eq_getElem?_getD, List.getElem?_eq_getElem hj]
    simp [hj]
  have hord : ∀ i j, i ≤ j → j < s.toArray.size → s.toArray[i]! ≤ s.toArray[j]! := fun i j hij hj => by
    have hj' : j < s.length := by simpa using hj
    by_cases e : i = j
    · subst e; exact Int.le_refl _
    · have := List.pairwise_iff_getElem.1 hpw i j (by omega) hj' (by omega)
      simpa [hj', show i < s.length by omega] using this
  obtain ⟨h1, h2⟩ := compact_law s.toArray hord s.length (by simp)
  refine srt_ext h1 (once_srt zs) fun x => ?_
  show x ∈ compactUpTo s.toArray s.length ↔ _
  rw [h2, once_mem, ← hperm.mem_iff]
  constructor
  · rintro ⟨j, hj, rfl⟩
    have : s.toArray[j]! = s[j] := by simp [hj]
    rw [this]; exact List.getElem_mem _
  · intro hx
    obtain ⟨j, hj, rfl⟩ := List.mem_iff_getElem.1 hx
    exact ⟨j, hj, by simp [hj]⟩
end Go.Proofs.YtjmfkenhnfdbjaaGreatDoor

/- l1Put and eachOnce. No condition but those stated. -/
namespace Go.Proofs.YtjmfkenhnfdbjaaGreatDoor
set_option linter.unusedVariables false
set_option linter.unusedSimpArgs false
open Go.RowKit Go.Sort
theorem SI.cut {w : World} {A : Option Addr} {n cap k : Nat} {f : Nat → Int} (h : SI w (.slice A n cap) n f) (hk : k ≤ n) : SI w (.slice A k cap) k f := by
  obtain ⟨A', cap', e, hr, hc, hm⟩ := h
  cases e
  refine ⟨A, cap, rfl, fun h0 => ?_, by omega, hm⟩
  obtain ⟨b, off, rfl, hl, hcell⟩ := hr (by omega)
  exact ⟨b, off, rfl, hl, fun j hj => hcell j (by omega)⟩
theorem SI.tail {w : World} {b off n cap k : Nat} {f : Nat → Int} (h : SI w (.slice (some ⟨b, off, none⟩) n cap) n f) (hk : k ≤ n) : SI w (.slice (some ⟨b, off + k, none⟩) (n - k) (cap - k)) (n - k) (fun j => f (k + j)) := by
  obtain ⟨A', cap', e, hr, hc, hm⟩ := h
  cases e
  refine ⟨_, _, rfl, fun h0 => ?_, by omega, by omega⟩
  obtain ⟨b', off', e, hl, hcell⟩ := hr (by omega)
  cases e
  exact ⟨b, off + k, rfl, hl, fun j hj => by rw [Nat.add_assoc]; exact hcell (k + j) (by omega)⟩
theorem SI.tailIf {w : World} {b off n cap k : Nat} {f : Nat → Int} (h : SI w (.slice (some ⟨b, off, none⟩) n cap) n f) (hk : k ≤ n) : SI w (.slice (if cap = k then some ⟨b, off, none⟩ else some ⟨b, off + k, none⟩) (n - k) (cap - k)) (n - k) (fun j => f (k + j)) := by
  by_cases e : cap = k
  · rw [if_pos e]
    have hc := h
    obtain ⟨A', cap', e', _, hc1, hc2⟩ := hc
    cases e'
    exact ⟨_, _, rfl, fun h0 => absurd h0 (by omega), by omega, by omega⟩
  · rw [if_neg e]; exact h.tail hk
theorem step_appN (w : World) {ops : Array Oper} {o : Oper} {a : Act} {K : Act → World → Prop} {Q : Exit → Act → World → Prop} {E : Prop} (hgd : o.guard = none) (s x : Operand)
    (ho : o.op = .call { callee := .builtin .append, args := #[s, x], argTypes := #[45, 45] })
    (wb : World) (v : Value) (xs : List Int) (hs : a.eval s = v) (hown : OI wb.heap.size w v xs) (hb : Below wb.heap.size wb w) (A : Option Addr) (m c : Nat) (f : Nat → Int) (hx : a.eval x = .slice A m c) (hr : SI w (.slice A m c) m f)
    (hlen : xs.length + m ≤ 1099511627776)
    (h : ∀ v' w', OI wb.heap.size w' v' (xs ++ lst m f) → Below wb.heap.size wb w' → K (a.put o.dst v') w') : if Region.wanted o (yielded ops a.tmps) = true then Oper.wp Tryz.prog o a w K Q else E := by
  obtain ⟨i0, hi, hz0, hz1, hz2⟩ := info_parts info_int
  have hbase := hb.size
  refine step_append_any w hgd s x 45 ho wb.heap.size 3 i0 (.int .i64 0) 1 8 Tryz.underlying45 hi hz0 hz1 hz2 rfl (by omega) v xs.length (xs.map (Value.int .i64)) hs hown w.heap.size A m c _ hx hr.reads
    (fun u hu => ?_) (by unfold maxLen; omega) (by omega) hbase (fun v' w' h1 h2 _ => h v' w' ?_ ?_)
  · obtain ⟨y, _, rfl⟩ := List.mem_map.1 hu; rfl
  · unfold OI; rw [List.length_append, lst_length, List.map_append]; exact h1
  · exact hb.trans ((Below.refl _ w).grown h2 hbase (fun k hk => (World.ownsRow.lt hown k hk).1))
/-- Putting behind the numbers that are smaller. -/
theorem put_split (l : List Int) (x : Int) (k : Nat) (hk : k ≤ l.length) (hlo : ∀ j, j < k → ai l j < x) (hhi : k < l.length → ¬ ai l k < x) :
    put l x = if k < l.length ∧ ai l k = x then l else l.take k ++ x :: l.drop k := by
  induction l generalizing k with
  | nil =>
    have : k = 0 := by simpa using hk
    subst this
    simp [put]
  | cons a r ih =>
    unfold put
    cases k with
    | zero =>
      have h := hhi (by simp)
      have e : ai (a :: r) 0 = a := rfl
      rw [e] at h ⊢
      rw [if_neg h]
      by_cases h2 : a = x
      · rw [if_pos h2, if_pos ⟨by simp, h2⟩]
      · rw [if_neg h2, if_neg (fun hh => h2 hh.2)]; simp
    | succ k =>
      have h0 := hlo 0 (by omega)
      have e : ai (a :: r) 0 = a := rfl
      rw [e] at h0
      rw [if_pos h0]
      have es : ∀ j, ai (a :: r) (j + 1) = ai r j := fun j => rfl
      rw [ih k (by simpa using hk) (fun j hj => by have := hlo (j + 1) (by omega); rwa [es] at this) (fun hj => by have := hhi (by simpa using hj); rwa [es] at this)]
      rw [es]
      by_cases h2 : k < r.length ∧ ai r k = x
      · rw [if_pos h2, if_pos ⟨by simpa using h2.1, h2.2⟩]
      · rw [if_neg h2, if_neg (fun hh => h2 ⟨by simpa using hh.1, hh.2⟩)]; simp
theorem lst_ai (l : List Int) (k : Nat) (hk : k ≤ l.length) : lst k (ai l) = l.take k := by
  show (List.range k).map (ai l) = l.take k
  apply List.ext_getElem
  · rw [List.length_map, List.length_range, List.length_take]; omega
  · intro j h1 h2
    rw [List.getElem_map, List.getElem_range, List.getElem_take]
    have hj : j < l.length := by simp at h1; omega
    have := ai_lt hj
    rw [List.getElem?_eq_getElem hj] at this
    injection this with this
    exact this.symm
theorem lst_ai_drop (l : List Int) (k : Nat) (hk : k ≤ l.length) : lst (l.length - k) (fun j => ai l (k + j)) = l.drop k := by
  show (List.range (l.length - k)).map (fun j => ai l (k + j)) = l.drop k
  apply List.ext_getElem
  · rw [List.length_map, List.length_range, List.length_drop]
  · intro j h1 h2
    rw [List.getElem_map, List.getElem_range, List.getElem_drop]
    have hj : k + j < l.length := by simp at h1; omega
    have := ai_lt hj
    rw [List.getElem?_eq_getElem hj] at this
    injection this with this
    exact this.symm
theorem step_appK (w : World) {ops : Array Oper} {o : Oper} {a : Act} {K : Act → World → Prop} {Q : Exit → Act → World → Prop} {E : Prop} (hgd : o.guard = none) (s x : Operand)
    (ho : o.op = .call { callee := .builtin .append, args := #[s, x], argTypes := #[45, 45] })
    (wb : World) (v : Value) (xs : List Int) (hs : a.eval s = v) (hown : OI wb.heap.size w v xs) (hb : Below wb.heap.size wb w) (A : Option Addr) (m c : Nat) (f : Nat → Int) (hx : a.eval x = .slice A m c) (hr : SI w (.slice A m c) m f)
    (hlen : xs.length + m ≤ 1099511627776)
    (h : ∀ v' w', OI wb.heap.size w' v' (xs ++ lst m f) → Below wb.heap.size wb w' → (∀ q, q < w.heap.size → v.ownBlock ≠ some q → w'.heap[q]? = w.heap[q]?) → w.heap.size ≤ w'.heap.size → K (a.put o.dst v') w') : if Region.wanted o (yielded ops a.tmps) = true then Oper.wp Tryz.prog o a w K Q else E := by
  obtain ⟨i0, hi, hz0, hz1, hz2⟩ := info_parts info_int
  have hbase := hb.size
  refine step_append_any w hgd s x 45 ho wb.heap.size 3 i0 (.int .i64 0) 1 8 Tryz.underlying45 hi hz0 hz1 hz2 rfl (by omega) v xs.length (xs.map (Value.int .i64)) hs hown w.heap.size A m c _ hx hr.reads
    (fun u hu => ?_) (by unfold maxLen; omega) (by omega) hbase (fun v' w' h1 h2 _ => h v' w' ?_ ?_ (fun q hq hn => h2.block q hq (fun e => hn e.symm)) h2.size)
  · obtain ⟨y, _, rfl⟩ := List.mem_map.1 hu; rfl
  · unfold OI; rw [List.length_append, lst_length, List.map_append]; exact h1
  · exact hb.trans ((Below.refl _ w).grown h2 hbase (fun k hk => (World.ownsRow.lt hown k hk).1))
theorem OI.emptyAt {base : Nat} {W : World} {g : Nat} (hg : g = W.heap.size) (hb : base ≤ g) : OI base (W.alloc (.cells #[] 3)) (.slice (some ⟨g, 0, none⟩) 0 0) [] := by
  subst hg; exact OI.empty hb
theorem si_cell {w : World} {g : Nat} {x : Int} (hg : g < w.heap.size) (h : w.cell? ⟨g, 0, none⟩ = some (.int .i64 x)) : SI w (.slice (some ⟨g, 0, none⟩) 1 1) 1 (fun _ => x) :=
  ⟨_, _, rfl, fun _ => ⟨g, 0, rfl, hg, fun j hj => by obtain rfl : j = 0 := (by omega); exact h⟩, Nat.le_refl _, by omega⟩
theorem si_lit (W : World) (x : Int) (T : TypeId) : SI (W.alloc (.cells #[.int .i64 x] T)) (.slice (some ⟨W.heap.size, 0, none⟩) 1 1) 1 (fun _ => x) :=
  si_cell (by simp) (cell_new _ _ _ _ _ rfl)
theorem lit_kept1 {w w2 : World} {T T' : TypeId} {x : Int} (hq : ∀ q, q < ((w.alloc (.cells #[] T)).alloc (.cells #[.int .i64 x] T')).heap.size → (Value.slice (some ⟨w.heap.size, 0, none⟩) 0 0).ownBlock ≠ some q → w2.heap[q]? = ((w.alloc (.cells #[] T)).alloc (.cells #[.int .i64 x] T')).heap[q]?)
    (hs : ((w.alloc (.cells #[] T)).alloc (.cells #[.int .i64 x] T')).heap.size ≤ w2.heap.size) : SI w2 (.slice (some ⟨w.heap.size + 1, 0, none⟩) 1 1) 1 (fun _ => x) := by
  simp only [World.size_alloc] at hs
  refine si_cell (by omega) ((World.cell?_of_block (a := ⟨w.heap.size + 1, 0, none⟩) (hq (w.heap.size + 1) (by simp) (by simp [Value.ownBlock]))).trans ?_)
  have := cell_new (w.alloc (.cells #[] T)) #[.int .i64 x] T' 0 _ rfl
  rw [World.size_alloc] at this
  exact this
theorem lit_kept0 {w w2 : World} {T T' : TypeId} {x : Int} (hq : ∀ q, q < ((w.alloc (.cells #[.int .i64 x] T')).alloc (.cells #[] T)).heap.size → (Value.slice (some ⟨w.heap.size + 1, 0, none⟩) 0 0).ownBlock ≠ some q → w2.heap[q]? = ((w.alloc (.cells #[.int .i64 x] T')).alloc (.cells #[] T)).heap[q]?)
    (hs : ((w.alloc (.cells #[.int .i64 x] T')).alloc (.cells #[] T)).heap.size ≤ w2.heap.size) : SI w2 (.slice (some ⟨w.heap.size, 0, none⟩) 1 1) 1 (fun _ => x) := by
  simp only [World.size_alloc] at hs
  exact si_cell (by omega) ((World.cell?_of_block (a := ⟨w.heap.size, 0, none⟩) (hq w.heap.size (by simp) (by simp [Value.ownBlock]))).trans (cell_old _ (by simp) (cell_new _ _ _ _ _ rfl)))
set_option maxRecDepth 100000 in
set_option maxHeartbeats 4000000 in
theorem C_l1Put (base : Nat) (v : Value) (xs : List Int) (x : Int) (w : World) (h : OI base w v xs) (hn : xs.length ≤ 1048576) (hb : base ≤ w.heap.size) :
    Calls Tryz.prog 61 #[v, .int .i64 x] w fun e w' => ∃ v', e = .returned v' ∧ OI base w' v' (put xs x) ∧ Below w.heap.size w w' := by
  have HO := Lib.hid h
  have HS := Lib.hid h.wi.si
  obtain ⟨A, cap, rfl, hr, hc, hm⟩ := h.wi.si
  have HR := Lib.hid hr
  clear hr h
  obtain ⟨n, hne⟩ : ∃ n, xs.length = n := ⟨_, rfl⟩
  obtain ⟨f, hf⟩ : ∃ f, ai xs = f := ⟨_, rfl⟩
  have hps := fun k => put_split xs x k
  rw [hne, hf] at hps
  have HPS := Lib.hid hps
  have HN := Lib.hid hne
  have HF := Lib.hid hf
  rw [hne] at hn hc HR HS HO ⊢
  rw [hf] at HR HS
  clear hps hne hf
  go_enter Tryz.func61, Tryz.ntmps61
  go_wp2
  go_loop [5] (fun i => ∃ k : Nat, k ≤ n ∧ i = .int .i64 k ∧ ∀ j, j < k → f j < x) (fun i => n - (intOf i).toNat)
  case atStart => exact ⟨0, Nat.zero_le _, rfl, fun j hj => absurd hj (by omega)⟩
  case round =>
    obtain ⟨k, hk, rfl, ha⟩ := hrel
    have HA := Lib.hid ha; clear ha
    by_cases hlt : k < n
    · obtain ⟨b, off, rfl, hb2, hcell⟩ := HR.out (by omega)
      have hck := hcell k hlt
      clear hcell
      by_cases hx : f k < x
      · go_wp2
        go_round
        case rel => exact ⟨k + 1, by omega, by go_num, fun j hj => by
          by_cases e : j = k
          · subst e; exact hx
          · exact HA.out j (by omega)⟩
        case measure => simp [intOf]; omega
      · have hki : (k : Int) < (n : Int) := by omega
        cases he : (f k == x)
        · have hput : put xs x = (xs.take k ++ [x]) ++ xs.drop k := by
            rw [HPS.out k hk HA.out (fun _ => by omega), if_neg (fun hh => by rw [hh.2] at he; simp at he)]; simp
          have heq : [] ++ lst k f ++ lst 1 (fun _ => x) ++ lst (n - k) (fun j => f (k + j)) = put xs x := by
            rw [hput, ← HF.out, ← HN.out, lst_ai xs k (by rw [HN.out]; omega), lst_ai_drop xs k (by rw [HN.out]; omega)]; rfl
          have HEQ := Lib.hid heq
          clear hput heq
          have HTL := Lib.hid (HS.out.tail (k := k) (by omega))
          have HC := Lib.hid (HS.out.cut (k := k) (by omega))
          have hk0 : (0 : Int) ≤ (k : Int) := by omega
          have hk1 : (k : Int) ≤ (n : Int) := by omega
          have hk2 : (k : Int) ≤ (cap : Int) := by omega
          have hk3 : (n : Int) ≤ (cap : Int) := by omega
          have hk4 : ¬ cap = k := by omega
          go_wp2
          go_region_held3 (fun W => Below w.heap.size w W) (((repeat (first | with_reducible exact Below.refl _ _ | with_reducible exact below_regrown _ _ _ | with_reducible refine bel_step0 (by assumption) ?_ | with_reducible refine bel_alloc0 ?_ _ | with_reducible refine bel_regrown0 ?_ _ _ | with_reducible refine bel_regrown ?_ (by first | omega | (simp; done) | (simp; omega)) _ _ | with_reducible refine below_drewN ?_ _ | with_reducible refine Below.drew ?_ | with_reducible refine Below.alloc ?_ (by first | omega | (simp; done) | (simp; omega)) _ | with_reducible refine Below.setCell ?_ (by first | omega | (simp; done) | (simp; omega)) _ | with_reducible refine bel_step (by assumption) (by first | omega | (simp; done) | (simp; omega)) ?_ | with_reducible refine bel_grown (by assumption) (by first | omega | (simp; done) | (simp; omega)) (by first | omega | (simp; done) | (simp; omega)) ?_)))) (first | ((refine step_appK _ (by rfl) (.tmp 33) (.tmp 36) (by rfl) w _ _ (by rfl) (by first | exact OI.emptyAt (by simp) (by simp) | exact OI.alloc _ (OI.emptyAt (by simp) (by simp))) (by (repeat (first | with_reducible exact Below.refl _ _ | with_reducible exact below_regrown _ _ _ | with_reducible refine bel_step0 (by assumption) ?_ | with_reducible refine bel_alloc0 ?_ _ | with_reducible refine bel_regrown0 ?_ _ _ | with_reducible refine bel_regrown ?_ (by first | omega | (simp; done) | (simp; omega)) _ _ | with_reducible refine below_drewN ?_ _ | with_reducible refine Below.drew ?_ | with_reducible refine Below.alloc ?_ (by first | omega | (simp; done) | (simp; omega)) _ | with_reducible refine Below.setCell ?_ (by first | omega | (simp; done) | (simp; omega)) _ | with_reducible refine bel_step (by assumption) (by first | omega | (simp; done) | (simp; omega)) ?_ | with_reducible refine bel_grown (by assumption) (by first | omega | (simp; done) | (simp; omega)) (by first | omega | (simp; done) | (simp; omega)) ?_))) _ _ _ _ (by rfl) (HC.out.below (by (repeat (first | with_reducible exact Below.refl _ _ | with_reducible exact below_regrown _ _ _ | with_reducible refine bel_step0 (by assumption) ?_ | with_reducible refine bel_alloc0 ?_ _ | with_reducible refine bel_regrown0 ?_ _ _ | with_reducible refine bel_regrown ?_ (by first | omega | (simp; done) | (simp; omega)) _ _ | with_reducible refine below_drewN ?_ _ | with_reducible refine Below.drew ?_ | with_reducible refine Below.alloc ?_ (by first | omega | (simp; done) | (simp; omega)) _ | with_reducible refine Below.setCell ?_ (by first | omega | (simp; done) | (simp; omega)) _ | with_reducible refine bel_step (by assumption) (by first | omega | (simp; done) | (simp; omega)) ?_ | with_reducible refine bel_grown (by assumption) (by first | omega | (simp; done) | (simp; omega)) (by first | omega | (simp; done) | (simp; omega)) ?_)))) (by simp; omega) ?_; intro v2 w2 ho2 hb2 hq2 hs2; have HQ2 := Lib.hid hq2; have HS2 := Lib.hid hs2; clear hq2 hs2)) | ((refine step_appK _ (by rfl) (.tmp 37) (.tmp 39) (by rfl) w _ _ (by rfl) (by first | exact ho2 | exact OI.alloc _ ho2) (by (repeat (first | with_reducible exact Below.refl _ _ | with_reducible exact below_regrown _ _ _ | with_reducible refine bel_step0 (by assumption) ?_ | with_reducible refine bel_alloc0 ?_ _ | with_reducible refine bel_regrown0 ?_ _ _ | with_reducible refine bel_regrown ?_ (by first | omega | (simp; done) | (simp; omega)) _ _ | with_reducible refine below_drewN ?_ _ | with_reducible refine Below.drew ?_ | with_reducible refine Below.alloc ?_ (by first | omega | (simp; done) | (simp; omega)) _ | with_reducible refine Below.setCell ?_ (by first | omega | (simp; done) | (simp; omega)) _ | with_reducible refine bel_step (by assumption) (by first | omega | (simp; done) | (simp; omega)) ?_ | with_reducible refine bel_grown (by assumption) (by first | omega | (simp; done) | (simp; omega)) (by first | omega | (simp; done) | (simp; omega)) ?_))) _ _ _ _ (by rfl) (by first | exact si_lit _ _ _ | exact lit_kept1 HQ2.out HS2.out | exact lit_kept0 HQ2.out HS2.out) (by rw [List.nil_append, lst_length]; omega) ?_; intro v3 w3 ho3 hb3 hq3 hs3; clear hq3 hs3)) | ((refine step_appK _ (by rfl) (.tmp 40) (.tmp 43) (by rfl) w _ _ (by rfl) ho3 (by (repeat (first | with_reducible exact Below.refl _ _ | with_reducible exact below_regrown _ _ _ | with_reducible refine bel_step0 (by assumption) ?_ | with_reducible refine bel_alloc0 ?_ _ | with_reducible refine bel_regrown0 ?_ _ _ | with_reducible refine bel_regrown ?_ (by first | omega | (simp; done) | (simp; omega)) _ _ | with_reducible refine below_drewN ?_ _ | with_reducible refine Below.drew ?_ | with_reducible refine Below.alloc ?_ (by first | omega | (simp; done) | (simp; omega)) _ | with_reducible refine Below.setCell ?_ (by first | omega | (simp; done) | (simp; omega)) _ | with_reducible refine bel_step (by assumption) (by first | omega | (simp; done) | (simp; omega)) ?_ | with_reducible refine bel_grown (by assumption) (by first | omega | (simp; done) | (simp; omega)) (by first | omega | (simp; done) | (simp; omega)) ?_))) _ _ _ _ (by rfl) (HTL.out.below (by (repeat (first | with_reducible exact Below.refl _ _ | with_reducible exact below_regrown _ _ _ | with_reducible refine bel_step0 (by assumption) ?_ | with_reducible refine bel_alloc0 ?_ _ | with_reducible refine bel_regrown0 ?_ _ _ | with_reducible refine bel_regrown ?_ (by first | omega | (simp; done) | (simp; omega)) _ _ | with_reducible refine below_drewN ?_ _ | with_reducible refine Below.drew ?_ | with_reducible refine Below.alloc ?_ (by first | omega | (simp; done) | (simp; omega)) _ | with_reducible refine Below.setCell ?_ (by first | omega | (simp; done) | (simp; omega)) _ | with_reducible refine bel_step (by assumption) (by first | omega | (simp; done) | (simp; omega)) ?_ | with_reducible refine bel_grown (by assumption) (by first | omega | (simp; done) | (simp; omega)) (by first | omega | (simp; done) | (simp; omega)) ?_)))) (by rw [List.length_append, List.nil_append, lst_length, lst_length]; omega) ?_; intro v4 w4 ho4 hb4 hq4 hs4; clear hq4 hs4)))
          all_goals go_wp2
          all_goals go_ret
          all_goals exact ⟨_, rfl, by rw [← HEQ.out]; exact ho4.mono hb, hb4⟩
        · have hput : put xs x = xs := by rw [HPS.out k hk HA.out (fun _ => by omega), if_pos ⟨hlt, by simpa using he⟩]
          have HPUT := Lib.hid hput
          clear hput
          go_wp2
          go_ret
          exact ⟨_, rfl, by rw [HPUT.out]; exact HO.out, Below.refl _ _⟩
    · obtain rfl : k = n := by omega
      have hput : put xs x = xs ++ [x] := by
        rw [HPS.out k hk HA.out (fun h => absurd h hlt), if_neg (fun hh => hlt hh.1), ← HN.out]; simp
      have heq : [] ++ lst k f ++ lst 1 (fun _ => x) ++ lst 0 (fun _ => 0) = put xs x := by
        rw [hput, ← HF.out, lst_ai xs k (by rw [HN.out]; omega), List.take_of_length_le (by rw [HN.out]; exact Nat.le_refl _)]; simp [lst]
      have HEQ := Lib.hid heq
      clear hput heq
      have HC := Lib.hid (HS.out.cut (k := k) (Nat.le_refl _))
      have hk0 : (0 : Int) ≤ (k : Int) := by omega
      have hk2 : (k : Int) ≤ (cap : Int) := by omega
      have hz : ∀ W A c, c ≤ 9223372036854775807 → SI W (.slice A 0 c) 0 (fun _ => 0) := fun W A c hc => ⟨A, c, rfl, fun h => absurd h (by omega), by omega, hc⟩
      have HZ := Lib.hid hz
      clear hz
      by_cases hcn : cap = k
      · subst hcn
        go_wp2
        go_region_held3 (fun W => Below w.heap.size w W) (((repeat (first | with_reducible exact Below.refl _ _ | with_reducible exact below_regrown _ _ _ | with_reducible refine bel_step0 (by assumption) ?_ | with_reducible refine bel_alloc0 ?_ _ | with_reducible refine bel_regrown0 ?_ _ _ | with_reducible refine bel_regrown ?_ (by first | omega | (simp; done) | (simp; omega)) _ _ | with_reducible refine below_drewN ?_ _ | with_reducible refine Below.drew ?_ | with_reducible refine Below.alloc ?_ (by first | omega | (simp; done) | (simp; omega)) _ | with_reducible refine Below.setCell ?_ (by first | omega | (simp; done) | (simp; omega)) _ | with_reducible refine bel_step (by assumption) (by first | omega | (simp; done) | (simp; omega)) ?_ | with_reducible refine bel_grown (by assumption) (by first | omega | (simp; done) | (simp; omega)) (by first | omega | (simp; done) | (simp; omega)) ?_)))) (first | ((refine step_appK _ (by rfl) (.tmp 33) (.tmp 36) (by rfl) w _ _ (by rfl) (by first | exact OI.emptyAt (by simp) (by simp) | exact OI.alloc _ (OI.emptyAt (by simp) (by simp))) (by (repeat (first | with_reducible exact Below.refl _ _ | with_reducible exact below_regrown _ _ _ | with_reducible refine bel_step0 (by assumption) ?_ | with_reducible refine bel_alloc0 ?_ _ | with_reducible refine bel_regrown0 ?_ _ _ | with_reducible refine bel_regrown ?_ (by first | omega | (simp; done) | (simp; omega)) _ _ | with_reducible refine below_drewN ?_ _ | with_reducible refine Below.drew ?_ | with_reducible refine Below.alloc ?_ (by first | omega | (simp; done) | (simp; omega)) _ | with_reducible refine Below.setCell ?_ (by first | omega | (simp; done) | (simp; omega)) _ | with_reducible refine bel_step (by assumption) (by first | omega | (simp; done) | (simp; omega)) ?_ | with_reducible refine bel_grown (by assumption) (by first | omega | (simp; done) | (simp; omega)) (by first | omega | (simp; done) | (simp; omega)) ?_))) _ _ _ _ (by rfl) (HC.out.below (by (repeat (first | with_reducible exact Below.refl _ _ | with_reducible exact below_regrown _ _ _ | with_reducible refine bel_step0 (by assumption) ?_ | with_reducible refine bel_alloc0 ?_ _ | with_reducible refine bel_regrown0 ?_ _ _ | with_reducible refine bel_regrown ?_ (by first | omega | (simp; done) | (simp; omega)) _ _ | with_reducible refine below_drewN ?_ _ | with_reducible refine Below.drew ?_ | with_reducible refine Below.alloc ?_ (by first | omega | (simp; done) | (simp; omega)) _ | with_reducible refine Below.setCell ?_ (by first | omega | (simp; done) | (simp; omega)) _ | with_reducible refine bel_step (by assumption) (by first | omega | (simp; done) | (simp; omega)) ?_ | with_reducible refine bel_grown (by assumption) (by first | omega | (simp; done) | (simp; omega)) (by first | omega | (simp; done) | (simp; omega)) ?_)))) (by simp; omega) ?_; intro v2 w2 ho2 hb2 hq2 hs2; have HQ2 := Lib.hid hq2; have HS2 := Lib.hid hs2; clear hq2 hs2)) | ((refine step_appK _ (by rfl) (.tmp 37) (.tmp 39) (by rfl) w _ _ (by rfl) (by first | exact ho2 | exact OI.alloc _ ho2) (by (repeat (first | with_reducible exact Below.refl _ _ | with_reducible exact below_regrown _ _ _ | with_reducible refine bel_step0 (by assumption) ?_ | with_reducible refine bel_alloc0 ?_ _ | with_reducible refine bel_regrown0 ?_ _ _ | with_reducible refine bel_regrown ?_ (by first | omega | (simp; done) | (simp; omega)) _ _ | with_reducible refine below_drewN ?_ _ | with_reducible refine Below.drew ?_ | with_reducible refine Below.alloc ?_ (by first | omega | (simp; done) | (simp; omega)) _ | with_reducible refine Below.setCell ?_ (by first | omega | (simp; done) | (simp; omega)) _ | with_reducible refine bel_step (by assumption) (by first | omega | (simp; done) | (simp; omega)) ?_ | with_reducible refine bel_grown (by assumption) (by first | omega | (simp; done) | (simp; omega)) (by first | omega | (simp; done) | (simp; omega)) ?_))) _ _ _ _ (by rfl) (by first | exact si_lit _ _ _ | exact lit_kept1 HQ2.out HS2.out | exact lit_kept0 HQ2.out HS2.out) (by rw [List.nil_append, lst_length]; omega) ?_; intro v3 w3 ho3 hb3 hq3 hs3; clear hq3 hs3)) | ((refine step_appK _ (by rfl) (.tmp 40) (.tmp 43) (by rfl) w _ _ (by rfl) ho3 (by (repeat (first | with_reducible exact Below.refl _ _ | with_reducible exact below_regrown _ _ _ | with_reducible refine bel_step0 (by assumption) ?_ | with_reducible refine bel_alloc0 ?_ _ | with_reducible refine bel_regrown0 ?_ _ _ | with_reducible refine bel_regrown ?_ (by first | omega | (simp; done) | (simp; omega)) _ _ | with_reducible refine below_drewN ?_ _ | with_reducible refine Below.drew ?_ | with_reducible refine Below.alloc ?_ (by first | omega | (simp; done) | (simp; omega)) _ | with_reducible refine Below.setCell ?_ (by first | omega | (simp; done) | (simp; omega)) _ | with_reducible refine bel_step (by assumption) (by first | omega | (simp; done) | (simp; omega)) ?_ | with_reducible refine bel_grown (by assumption) (by first | omega | (simp; done) | (simp; omega)) (by first | omega | (simp; done) | (simp; omega)) ?_))) _ _ _ _ (by rfl) (HZ.out _ _ _ (by omega)) (by rw [List.length_append, List.nil_append, lst_length, lst_length]; omega) ?_; intro v4 w4 ho4 hb4 hq4 hs4; clear hq4 hs4)))
        all_goals go_wp2
        all_goals go_ret
        all_goals exact ⟨_, rfl, by rw [← HEQ.out]; exact ho4.mono hb, hb4⟩
      · rcases A with _ | ⟨b, off, spot⟩
        · exfalso
          rcases HO.out.2 with ⟨e, h0⟩ | ⟨g, cap', cur, e, _⟩
          · injection e with _ e1 e2; omega
          · injection e with e1 _ _; cases e1
        · go_wp2
          go_region_held3 (fun W => Below w.heap.size w W) (((repeat (first | with_reducible exact Below.refl _ _ | with_reducible exact below_regrown _ _ _ | with_reducible refine bel_step0 (by assumption) ?_ | with_reducible refine bel_alloc0 ?_ _ | with_reducible refine bel_regrown0 ?_ _ _ | with_reducible refine bel_regrown ?_ (by first | omega | (simp; done) | (simp; omega)) _ _ | with_reducible refine below_drewN ?_ _ | with_reducible refine Below.drew ?_ | with_reducible refine Below.alloc ?_ (by first | omega | (simp; done) | (simp; omega)) _ | with_reducible refine Below.setCell ?_ (by first | omega | (simp; done) | (simp; omega)) _ | with_reducible refine bel_step (by assumption) (by first | omega | (simp; done) | (simp; omega)) ?_ | with_reducible refine bel_grown (by assumption) (by first | omega | (simp; done) | (simp; omega)) (by first | omega | (simp; done) | (simp; omega)) ?_)))) (first | ((refine step_appK _ (by rfl) (.tmp 33) (.tmp 36) (by rfl) w _ _ (by rfl) (by first | exact OI.emptyAt (by simp) (by simp) | exact OI.alloc _ (OI.emptyAt (by simp) (by simp))) (by (repeat (first | with_reducible exact Below.refl _ _ | with_reducible exact below_regrown _ _ _ | with_reducible refine bel_step0 (by assumption) ?_ | with_reducible refine bel_alloc0 ?_ _ | with_reducible refine bel_regrown0 ?_ _ _ | with_reducible refine bel_regrown ?_ (by first | omega | (simp; done) | (simp; omega)) _ _ | with_reducible refine below_drewN ?_ _ | with_reducible refine Below.drew ?_ | with_reducible refine Below.alloc ?_ (by first | omega | (simp; done) | (simp; omega)) _ | with_reducible refine Below.setCell ?_ (by first | omega | (simp; done) | (simp; omega)) _ | with_reducible refine bel_step (by assumption) (by first | omega | (simp; done) | (simp; omega)) ?_ | with_reducible refine bel_grown (by assumption) (by first | omega | (simp; done) | (simp; omega)) (by first | omega | (simp; done) | (simp; omega)) ?_))) _ _ _ _ (by rfl) (HC.out.below (by (repeat (first | with_reducible exact Below.refl _ _ | with_reducible exact below_regrown _ _ _ | with_reducible refine bel_step0 (by assumption) ?_ | with_reducible refine bel_alloc0 ?_ _ | with_reducible refine bel_regrown0 ?_ _ _ | with_reducible refine bel_regrown ?_ (by first | omega | (simp; done) | (simp; omega)) _ _ | with_reducible refine below_drewN ?_ _ | with_reducible refine Below.drew ?_ | with_reducible refine Below.alloc ?_ (by first | omega | (simp; done) | (simp; omega)) _ | with_reducible refine Below.setCell ?_ (by first | omega | (simp; done) | (simp; omega)) _ | with_reducible refine bel_step (by assumption) (by first | omega | (simp; done) | (simp; omega)) ?_ | with_reducible refine bel_grown (by assumption) (by first | omega | (simp; done) | (simp; omega)) (by first | omega | (simp; done) | (simp; omega)) ?_)))) (by simp; omega) ?_; intro v2 w2 ho2 hb2 hq2 hs2; have HQ2 := Lib.hid hq2; have HS2 := Lib.hid hs2; clear hq2 hs2)) | ((refine step_appK _ (by rfl) (.tmp 37) (.tmp 39) (by rfl) w _ _ (by rfl) (by first | exact ho2 | exact OI.alloc _ ho2) (by (repeat (first | with_reducible exact Below.refl _ _ | with_reducible exact below_regrown _ _ _ | with_reducible refine bel_step0 (by assumption) ?_ | with_reducible refine bel_alloc0 ?_ _ | with_reducible refine bel_regrown0 ?_ _ _ | with_reducible refine bel_regrown ?_ (by first | omega | (simp; done) | (simp; omega)) _ _ | with_reducible refine below_drewN ?_ _ | with_reducible refine Below.drew ?_ | with_reducible refine Below.alloc ?_ (by first | omega | (simp; done) | (simp; omega)) _ | with_reducible refine Below.setCell ?_ (by first | omega | (simp; done) | (simp; omega)) _ | with_reducible refine bel_step (by assumption) (by first | omega | (simp; done) | (simp; omega)) ?_ | with_reducible refine bel_grown (by assumption) (by first | omega | (simp; done) | (simp; omega)) (by first | omega | (simp; done) | (simp; omega)) ?_))) _ _ _ _ (by rfl) (by first | exact si_lit _ _ _ | exact lit_kept1 HQ2.out HS2.out | exact lit_kept0 HQ2.out HS2.out) (by rw [List.nil_append, lst_length]; omega) ?_; intro v3 w3 ho3 hb3 hq3 hs3; clear hq3 hs3)) | ((refine step_appK _ (by rfl) (.tmp 40) (.tmp 43) (by rfl) w _ _ (by rfl) ho3 (by (repeat (first | with_reducible exact Below.refl _ _ | with_reducible exact below_regrown _ _ _ | with_reducible refine bel_step0 (by assumption) ?_ | with_reducible refine bel_alloc0 ?_ _ | with_reducible refine bel_regrown0 ?_ _ _ | with_reducible refine bel_regrown ?_ (by first | omega | (simp; done) | (simp; omega)) _ _ | with_reducible refine below_drewN ?_ _ | with_reducible refine Below.drew ?_ | with_reducible refine Below.alloc ?_ (by first | omega | (simp; done) | (simp; omega)) _ | with_reducible refine Below.setCell ?_ (by first | omega | (simp; done) | (simp; omega)) _ | with_reducible refine bel_step (by assumption) (by first | omega | (simp; done) | (simp; omega)) ?_ | with_reducible refine bel_grown (by assumption) (by first | omega | (simp; done) | (simp; omega)) (by first | omega | (simp; done) | (simp; omega)) ?_))) _ _ _ _ (by rfl) (HZ.out _ _ _ (by omega)) (by rw [List.length_append, List.nil_append, lst_length, lst_length]; omega) ?_; intro v4 w4 ho4 hb4 hq4 hs4; clear hq4 hs4)))
          all_goals go_wp2
          all_goals go_ret
          all_goals exact ⟨_, rfl, by rw [← HEQ.out]; exact ho4.mono hb, hb4⟩
end Go.Proofs.YtjmfkenhnfdbjaaGreatDoor

/- Each number once: sorted and compacted. No condition but those stated. -/
namespace Go.Proofs.YtjmfkenhnfdbjaaGreatDoor
set_option linter.unusedVariables false
set_option linter.unusedSimpArgs false
open Go.RowKit Go.Sort Go.Lib
theorem below_grow0 (W : World) (os : Array Obj) : Below W.heap.size W (grow W os) :=
  ⟨rfl, rfl, rfl, by simp [grow], fun k hk => by simp [grow, Array.getElem?_append, hk]⟩
theorem C_SortI (base : Nat) (v : Value) (xs : List Int) (w : World) (h : OI base w v xs) (hn : xs.length ≤ 1048576) :
    Calls Tryz.prog 79 #[v] w fun e w' => e = .returned (.tuple #[]) ∧ OI base w' v (xs.mergeSort fun x y => decide (x ≤ y)) ∧ (base ≤ w.heap.size → Below base w w') := by
  by_cases hv : v = .slice none 0 0
  · subst hv
    have h0 : xs.length = 0 := by
      rcases h.2 with ⟨_, h0⟩ | ⟨g, cap, cur, e, _⟩
      · exact h0
      · injection e with e1 _ _; cases e1
    have hx : xs = [] := List.length_eq_zero_iff.1 h0
    subst hx
    exact (show Calls Tryz.prog 79 #[.slice none 0 0] w fun e w' => e = .returned (.tuple #[]) ∧ w' = w from Any.slices_Sort_int_none Tryz.lays189 none 0 w).mono fun e w' ⟨h1, h2⟩ => ⟨h1, by rw [h2]; simpa using h, fun _ => by rw [h2]; exact Below.refl _ _⟩
  · have hO := h
    obtain ⟨g, cap, rfl, hbg, hg, hnc, hcm, hl, hH⟩ := holds_of_ownsRow h hv
    refine (show Calls Tryz.prog 79 #[.slice (some ⟨g, 0, none⟩) xs.length cap] w fun e w' => e = .returned (.tuple #[]) ∧ ∃ n os, w' = grow (putRow (Value.int .i64) (Sort.ahead w n) g 0 (xs.mergeSort fun x y => decide (x ≤ y)).toArray) os from
      Any.slices_Sort_int Tryz.lays189 g 0 cap xs w hH hg (by omega)).mono fun e w' ⟨h1, q, os, h2⟩ => ⟨h1, ?_, fun hb => ?_⟩
    · have hlen : (xs.mergeSort fun x y => decide (x ≤ y)).length = xs.length := List.length_mergeSort _
      have := ownsRow_putRow (q := q) hO hlen (Nat.le_refl _)
      rw [List.take_of_length_le (by rw [hlen]; exact Nat.le_refl _)] at this
      rw [h2]
      refine OI.below (below_grow0 _ _) ?_
      unfold OI
      rw [hlen]; exact this
    · rw [h2]
      exact (below_putRow (Below.refl _ _) hbg).trans ((below_grow0 _ _).mono (by rw [size_putRow]; exact hb))
theorem C_compact0 (blk off cap : Nat) (zs : List Int) (w : World) (hH : Holds (Value.int .i64) w blk off zs.toArray) (hsz : zs.length ≤ 9223372036854775807) (hcap : zs.length ≤ cap) :
    Calls Tryz.prog 80 #[.slice (some ⟨blk, off, none⟩) zs.length cap] w fun e w' => e = .returned (.slice (some ⟨blk, off, none⟩) (Lib.compact zs).length cap) ∧ ∃ q, w' = putRow (Value.int .i64) (Sort.ahead w q) blk off (Lib.compact zs ++ List.replicate (zs.length - (Lib.compact zs).length) 0).toArray := Any.slices_Compact_int Tryz.laysNm220 blk off cap zs w hH hsz hcap
theorem C_CompactI (base : Nat) (v : Value) (xs : List Int) (w : World) (h : OI base w v xs) (hn : xs.length ≤ 1048576) :
    Calls Tryz.prog 80 #[v] w fun e w' => ∃ v', e = .returned v' ∧ OI base w' v' (compact xs) ∧ (base ≤ w.heap.size → Below base w w') := by
  by_cases hv : v = .slice none 0 0
  · subst hv
    have h0 : xs.length = 0 := by
      rcases h.2 with ⟨_, h0⟩ | ⟨g, cap, cur, e, _⟩
      · exact h0
      · injection e with e1 _ _; cases e1
    have hx : xs = [] := List.length_eq_zero_iff.1 h0
    subst hx
    exact (show Calls Tryz.prog 80 #[.slice none 0 0] w fun e w' => e = .returned (.slice none 0 0) ∧ w' = w from Any.slices_Compact_int_empty Tryz.laysNm220 none 0 w).mono fun e w' ⟨h1, h2⟩ => ⟨_, h1, by rw [h2]; simpa [compact, compactUpTo] using h, fun _ => by rw [h2]; exact Below.refl _ _⟩
  · have hO := h
    obtain ⟨g, cap, rfl, hbg, hg, hnc, hcm, hl, hH⟩ := holds_of_ownsRow h hv
    have hcl : (compact xs).length ≤ xs.length := by
      unfold compact compactUpTo
      rw [List.length_map]
      exact Nat.le_trans (List.length_filter_le _ _) (by simp)
    have hsz : xs.length ≤ 9223372036854775807 := by omega
    refine (C_compact0 g 0 cap xs w hH hsz hnc).mono fun e w' ⟨h1, q, h2⟩ => ⟨_, h1, ?_, fun hb => ?_⟩
    · have := ownsRow_putRow (q := q) (k := (compact xs).length) (ys := compact xs ++ List.replicate (xs.length - (compact xs).length) 0) hO (by rw [List.length_append, List.length_replicate]; omega) hcl
      rw [List.take_left] at this
      rw [h2]; exact this
    · rw [h2]; exact below_putRow (Below.refl _ _) hbg
theorem C_eachOnce (base : Nat) (v : Value) (xs : List Int) (w : World) (h : OI base w v xs) (hn : xs.length ≤ 1048576) (hb : base ≤ w.heap.size) :
    Calls Tryz.prog 58 #[v] w fun e w' => ∃ v', e = .returned v' ∧ OI base w' v' (once xs) ∧ Below base w w' := by
  have HO := Lib.hid h
  obtain ⟨A, cap, rfl, hr, hc, hm⟩ := h.wi.si
  clear hr h
  have HX := Lib.hid hn
  go_enter Tryz.func58, Tryz.ntmps58
  go_wp2_with fail
  refine (C_SortI base _ xs _ HO.out hn).mono ?_; rintro e w1 ⟨rfl, ho1, hb1⟩
  have HB1 := Lib.hid (hb1 hb)
  have HO1 := Lib.hid ho1
  clear ho1 hb1
  go_wp2_with fail
  refine (C_CompactI base _ _ _ HO1.out (by rw [List.length_mergeSort]; exact hn)).mono ?_; rintro e w2 ⟨v2, rfl, ho2, hb2⟩
  have HB2 := Lib.hid (hb2 (Nat.le_trans hb HB1.out.size))
  rw [compact_sort] at ho2
  have HO2 := Lib.hid ho2
  clear ho2 hb2
  go_wp2_with fail
  go_ret
  exact ⟨_, rfl, HO2.out, HB1.out.trans HB2.out⟩
end Go.Proofs.YtjmfkenhnfdbjaaGreatDoor

/- The series that a query names: both sides. No condition but those stated. -/
namespace Go.Proofs.YtjmfkenhnfdbjaaGreatDoor
set_option linter.unusedVariables false
set_option linter.unusedSimpArgs false
open Go.RowKit Go.Sort
theorem wp_app1x (w : World) {ops : Array Oper} {rest : List Oper} {o : Oper} {a : Act} {Q : Exit → Act → World → Prop} (hgd : o.guard = none) (s x : Operand)
    (ho : o.op = .call { callee := .builtin .append, args := #[s, x], argTypes := #[45, 45] })
    (base : Nat) (v : Value) (xs : List Int) (hs : a.eval s = v) (hown : OI base w v xs) (g : Nat) (y : Int) (hx : a.eval x = .slice (some ⟨g, 0, none⟩) 1 1) (hc : w.cell? ⟨g, 0, none⟩ = some (.int .i64 y))
    (hlen : xs.length ≤ 1099511627776) (hbase : base ≤ w.heap.size)
    (h : ∀ v' w', OI base w' v' (xs ++ [y]) → w.grownBy w' v.ownBlock → (v'.ownBlock = v.ownBlock ∨ v'.ownBlock = some w.heap.size) → (∃ A c, v' = .slice A (xs ++ [y]).length c) → wpList Tryz.prog ops Q rest (a.put o.dst v') w') : wpList Tryz.prog ops Q (o :: rest) a w := by
  obtain ⟨i0, hi, hz0, hz1, hz2⟩ := info_parts info_int
  refine wpList_append_own_at w hgd s x 45 ho base 3 i0 (.int .i64 0) 1 8 Tryz.underlying45 hi hz0 hz1 hz2 rfl (by omega) v xs.length (xs.map (Value.int .i64)) hs hown ⟨g, 0, none⟩ 1 1 [.int .i64 y] hx rfl
    (fun j u hu => ?_) (fun u hu => ?_) (by unfold maxLen; omega) (by omega) hbase (fun v' w' h1 h2 _ h4 => h v' w' (by unfold OI; simpa using h1) h2 h4 ?_)
  · match j, hu with
    | 0, hu => simp only [List.getElem?_cons_zero, Option.some.injEq] at hu; subst hu; simpa [Addr.add] using hc
    | j + 1, hu => simp at hu
  · simp only [List.mem_singleton] at hu; subst hu; rfl
  · have h1' : OI base w' v' (xs ++ [y]) := by unfold OI; simpa using h1
    obtain ⟨A, c, e, _⟩ := h1'.wi
    exact ⟨A, c, e⟩
/-- The series among tests. -/
def sersT (ts : List (Nat × Int)) : List Int := (ts.filter fun p => p.1 == 115).map (·.2)
theorem sersT_snoc (ts : List (Nat × Int)) (c : Nat) (n : Int) : sersT (ts ++ [(c, n)]) = sersT ts ++ (if c = 115 then [n] else []) := by
  unfold sersT
  rw [List.filter_append, List.map_append]
  congr 1
  by_cases h : c = 115
  · subst h; rfl
  · rw [if_neg h, List.filter_cons_of_neg (by simpa using h)]; rfl
theorem sersT_len (ts : List (Nat × Int)) : (sersT ts).length ≤ ts.length := by
  unfold sersT; rw [List.length_map]; exact List.length_filter_le _ _
/-- The series among the first k bytes of a text. -/
def scS (s : ByteArray) : Nat → List Int
  | 0 => []
  | k + 1 => scS s k ++ (if bN s k = 115 then [numF s (k + 1)] else [])
theorem scS_len (s : ByteArray) (k : Nat) : (scS s k).length ≤ k := by
  induction k with
  | zero => simp [scS]
  | succ k ih => simp only [scS, List.length_append]; split <;> simp <;> omega
theorem lets_len (b : Nat → Nat) (a n : Nat) : (lets b a n).length ≤ n := by
  induction n with
  | zero => simp [lets]
  | succ n ih => simp only [lets, List.length_append]; split <;> simp <;> omega
theorem scS_lets (s : ByteArray) (k : Nat) : scS s k = sersT ((lets (bN s) 0 k).map (fun i => (bN s i, (((numA s (i + 1)).map (·.1)).getD 0)))) := by
  induction k with
  | zero => rfl
  | succ k ih =>
    rw [scS, lets, ih, List.map_append]
    by_cases hl : isLet (bN s (0 + k)) = true
    · rw [if_pos hl, List.map_cons, List.map_nil, sersT_snoc, Nat.zero_add]
      congr 1
      have : numF s (k + 1) = ((numA s (k + 1)).map (·.1)).getD 0 := by
        unfold numF; cases numA s (k + 1) <;> rfl
      rw [this]
    · have hn : ¬ bN s k = 115 := fun e => hl (by rw [Nat.zero_add, e]; rfl)
      rw [if_neg hl, if_neg hn, List.map_nil, List.append_nil, List.append_nil]
theorem digE_dig (s : ByteArray) : ∀ k a i, a ≤ i → i < digE s k a → dB s i = true := by
  intro k
  induction k with
  | zero => intro a i h1 h2; simp only [digE] at h2; omega
  | succ k ih =>
    intro a i h1 h2
    simp only [digE] at h2
    split at h2
    · rename_i hd
      by_cases e : i = a
      · subst e; exact hd
      · exact ih (a + 1) i (by omega) h2
    · omega
theorem numDig (s : ByteArray) : NumDig (bN s) (numA s) := by
  intro a p h i h1 h2
  unfold numA at h
  split at h
  · cases h
  · injection h with h
    subst h
    exact (dB_iff.1 (digE_dig s _ _ i h1 h2)).2
theorem read_parse {s : ByteArray} {o : Out} (h : readQ s = some o) : parseQ s.size (bN s) (numA s) = some o := by
  unfold readQ at h
  split at h
  · exact h
  · cases h
theorem scS_tests {s : ByteArray} {o : Out} (h : readQ s = some o) : scS s s.size = sersT o.q.tests := by
  have := parse_spl (numOk s) (numDig s) (read_parse h)
  rw [scS_lets, ← this.ts, Nat.sub_zero]
theorem tests_len {s : ByteArray} {o : Out} (h : readQ s = some o) : o.q.tests.length ≤ s.size := by
  have := parse_spl (numOk s) (numDig s) (read_parse h)
  rw [← this.ts, List.length_map, Nat.sub_zero]
  exact lets_len _ _ _
/-- The series named. -/
def snL (s : ByteArray) : List Int := if goodQ s then once (scS s s.size) else []
theorem snL_len (s : ByteArray) (h : s.size ≤ 1048576) : (snL s).length ≤ 1048576 := by
  unfold snL; split
  · have := once_len (scS s s.size); have := scS_len s s.size; omega
  · simp
theorem has_mem {xs : List Int} {x : Int} : (anyB xs.length fun j => ai xs j == x) = decide (x ∈ xs) := by
  rw [Bool.eq_iff_iff, anyB_iff, decide_eq_true_eq, List.mem_iff_getElem]
  constructor
  · rintro ⟨j, hj, e⟩
    have := ai_lt hj
    rw [List.getElem?_eq_getElem hj] at this
    injection this with this
    exact ⟨j, hj, this.trans (by simpa using e)⟩
  · rintro ⟨j, hj, e⟩
    have := ai_lt hj
    rw [List.getElem?_eq_getElem hj] at this
    injection this with this
    exact ⟨j, hj, by rw [← this, e]; simp⟩
theorem put_same {zs : List Int} {x : Int} (h : decide (x ∈ once zs) = true) : once (zs ++ [x]) = once zs := by
  rw [once_snoc, put_has (once_srt zs) (of_decide_eq_true h)]
set_option maxHeartbeats 8000000 in
theorem C_SeriesS (s : ByteArray) (hs : s.size ≤ 1048576) (w : World) :
    Calls Tryz.prog 30 #[.string s] w fun e w' => ∃ v', e = .returned (.tuple #[v', .bool (goodQ s)]) ∧ OI w.heap.size w' v' (snL s) ∧ Below w.heap.size w w' := by
  obtain ⟨w0, hw0⟩ : ∃ w0, w0 = w.alloc (.cells #[] 3) := ⟨_, rfl⟩
  have HW0 := Lib.hid hw0.symm
  have O0 : OI w.heap.size w0 (.slice (some ⟨w.heap.size, 0, none⟩) 0 0) [] := by rw [hw0]; exact OI.empty (Nat.le_refl _)
  have B0 : Below w.heap.size w w0 := by rw [hw0]; exact (Below.refl _ _).alloc (Nat.le_refl _) _
  have HC := Lib.hid (C_l19Good s hs w0)
  have HO0 := Lib.hid O0
  have HB0 := Lib.hid B0
  clear hw0 O0 B0
  cases hg : goodQ s
  · have HV := Lib.hid (show snL s = [] by unfold snL; rw [hg]; rfl)
    rw [hg] at HC
    clear hg
    go_enter Tryz.func30, Tryz.ntmps30
    go_upto_region 2 with fail
    rw [HW0.out]
    go_wp2_with fail
    refine HC.out.mono ?_; rintro e w1 ⟨rfl, hb1⟩
    go_wp2
    go_ret2
    rw [HV.out]
    exact ⟨_, rfl, HO0.out.below hb1, bel_step0 hb1 HB0.out⟩
  · have HV := Lib.hid (show snL s = once (scS s s.size) by unfold snL; rw [hg]; rfl)
    rw [hg] at HC
    clear hg
    go_enter Tryz.func30, Tryz.ntmps30
    go_upto_region 2 with fail
    rw [HW0.out]
    go_wp2_with fail
    refine HC.out.mono ?_; rintro e w1 ⟨rfl, hb1⟩
    have HO1 := Lib.hid (HO0.out.below hb1)
    have HB1 := Lib.hid (bel_step0 hb1 HB0.out)
    clear hb1 HC HW0
    go_wp2
    go_loopw [4, 5] (fun q i wr => ∃ k : Nat, k ≤ s.size ∧ i = .int .i64 k ∧ OI w.heap.size wr q (once (scS s k)) ∧ Below w.heap.size w wr) (fun _ i _ => s.size - (intOf i).toNat)
    case atStart => exact ⟨0, Nat.zero_le _, rfl, HO1.out, HB1.out⟩
    case round =>
      obtain ⟨k, hk, rfl, ho, hB⟩ := hrel
      have HO := Lib.hid ho
      have HB := Lib.hid hB
      have hbz := hB.size
      clear HO0 HO1 HB0 HB1 hB
      by_cases hlt : k < s.size
      · have hk2 : (k : Int) < (s.size : Int) := by omega
        have hk0 : (0 : Int) ≤ (k : Int) := by omega
        have HSC := Lib.hid (show scS s (k + 1) = scS s k ++ (if bN s k = 115 then [numF s (k + 1)] else []) from rfl)
        have hbk := bN_at hlt
        by_cases hc : s[k].toNat = 115
        · have e1 : ((s[k].toNat : Int) != 115) = false := by rw [hc]; rfl
          have HS2 := Lib.hid (show scS s (k + 1) = scS s k ++ [numF s (k + 1)] by rw [HSC.out, hbk, if_pos hc])
          have HN := Lib.hid (C_l19Number s hs (k + 1) hlt wr)
          rw [show ((k + 1 : Nat) : Int) = (k : Int) + 1 by omega] at HN
          obtain ⟨x, hx⟩ : ∃ x, numF s (k + 1) = x := ⟨_, rfl⟩
          rw [hx] at HN HS2
          have hlen : (once (scS s k)).length ≤ 1048576 := Nat.le_trans (once_len _) (Nat.le_trans (scS_len s k) (by omega))
          clear hx hbk HSC ho
          cases hh : decide (x ∈ once (scS s k))
          · have HH := Lib.hid (show (anyB (once (scS s k)).length fun j => ai (once (scS s k)) j == x) = false by rw [has_mem, hh])
            clear hh
            go_wp2_with fail
            refine HN.out.mono ?_; rintro e w2 ⟨rfl, hb2⟩
            have HO2 := Lib.hid (HO.out.below hb2)
            have HB2 := Lib.hid (bel_step0 hb2 HB.out)
            clear hb2
            go_wp2_with fail
            refine (C_l1Has _ _ _ _ _ HO2.out.wi.si).mono ?_; rintro e w2' ⟨rfl, rfl⟩
            rw [HH.out]
            go_wp2_with fail
            refine (C_l1Put w.heap.size _ _ x _ HO2.out hlen HB2.out.size).mono ?_; rintro e w3 ⟨v3, rfl, ho3, hb3⟩
            have HO3 := Lib.hid ho3
            have HB3 := Lib.hid (bel_step0 hb3 HB2.out)
            clear ho3 hb3
            go_wp2
            go_roundw
            case rel => exact ⟨k + 1, by omega, by go_num, by rw [HS2.out, once_snoc]; exact HO3.out, HB3.out⟩
            case measure => simp [intOf]; omega
          · have HH := Lib.hid (show (anyB (once (scS s k)).length fun j => ai (once (scS s k)) j == x) = true by rw [has_mem, hh])
            have HP := Lib.hid (put_same hh)
            clear hh
            go_wp2_with fail
            refine HN.out.mono ?_; rintro e w2 ⟨rfl, hb2⟩
            have HO2 := Lib.hid (HO.out.below hb2)
            have HB2 := Lib.hid (bel_step0 hb2 HB.out)
            clear hb2
            go_wp2_with fail
            refine (C_l1Has _ _ _ _ _ HO2.out.wi.si).mono ?_; rintro e w2' ⟨rfl, rfl⟩
            rw [HH.out]
            go_wp2
            go_roundw
            case rel => exact ⟨k + 1, by omega, by go_num, by rw [HS2.out, HP.out]; exact HO2.out, HB2.out⟩
            case measure => simp [intOf]; omega
        · have e1 : ((s[k].toNat : Int) != 115) = true := by rw [bne_iff_ne]; omega
          have HS2 := Lib.hid (show scS s (k + 1) = scS s k by rw [HSC.out, hbk, if_neg hc, List.append_nil])
          clear hbk HSC ho
          go_wp2
          go_roundw
          case rel => exact ⟨k + 1, by omega, by go_num, by rw [HS2.out]; exact HO.out, HB.out⟩
          case measure => simp [intOf]; omega
      · obtain rfl : k = s.size := by omega
        clear ho
        go_wp2
        go_ret2
        rw [HV.out]
        exact ⟨_, rfl, HO.out, HB.out⟩
/-- The state of the program's visit. -/
def StS (P : Nat) (w : World) (ts : List (Nat × Int)) : Prop :=
  P < w.heap.size ∧ ∃ v, w.cell? ⟨P, 0, none⟩ = some v ∧ w.frozen? ⟨P, 0, none⟩ = false ∧ OI (P + 1) w v (sersT ts)
set_option maxHeartbeats 4000000 in
theorem C_serClo (P : Nat) (w : World) (c : Nat) (n : Int) (ts : List (Nat × Int)) (hl : ts.length < 1048576) (h : StS P w ts) :
    Calls Tryz.prog 57 #[.agg #[.int .u8 (c : Int), .int .i64 n, .slice none 0 0], .pointer (some ⟨P, 0, none⟩)] w fun e w' => e = .returned (.tuple #[]) ∧ StS P w' (ts ++ [(c, n)]) ∧ Kp P w w' := by
  obtain ⟨hP, v, hv, hf, ho⟩ := h
  obtain ⟨w0, hw0⟩ : ∃ w0, w0 = w.alloc (.cells #[.int .u8 ((⟨(c : Int), n, none, 0, 0⟩ : Tq)).c, .int .i64 ((⟨(c : Int), n, none, 0, 0⟩ : Tq)).n, .slice ((⟨(c : Int), n, none, 0, 0⟩ : Tq)).A ((⟨(c : Int), n, none, 0, 0⟩ : Tq)).m ((⟨(c : Int), n, none, 0, 0⟩ : Tq)).k] 61) := ⟨_, rfl⟩
  have HW0 := Lib.hid hw0.symm
  have B0 : Below w.heap.size w w0 := by rw [hw0]; exact (Below.refl _ _).alloc (Nat.le_refl _) _
  have hz0 : w0.heap.size = w.heap.size + 1 := by rw [hw0]; simp
  have q0 : w0.cell? ⟨w.heap.size, 0, none⟩ = some (.int .u8 (c : Int)) := by rw [hw0]; simp
  have q1 : w0.cell? ⟨w.heap.size, 1, none⟩ = some (.int .i64 n) := by rw [hw0]; simp
  have hv0 := (B0.cell (p := ⟨P, 0, none⟩) hP).trans hv
  have hf0 := (B0.frozen (p := ⟨P, 0, none⟩) hP).trans hf
  have HO := Lib.hid (ho.below B0)
  have HK := Lib.hid (Kp.of_below hP B0)
  have HSN := Lib.hid (sersT_snoc ts c n)
  have hle := sersT_len ts
  obtain ⟨A, cap, rfl, hr, hc, hm⟩ := ho.wi.si
  have hP0 : P < w0.heap.size := by omega
  have HP0 := Lib.hid hP0
  clear hr ho hw0 B0 hv hf hz0
  by_cases h115 : c = 115
  · have e1 : ((c : Int) == 115) = true := by rw [h115]; rfl
    have HS2 := Lib.hid (show sersT (ts ++ [(c, n)]) = sersT ts ++ [n] by rw [HSN.out, if_pos h115])
    clear h115
    go_enter Tryz.func57, Tryz.ntmps57
    go_upto_region 1 with fail
    rw [HW0.out]
    go_wp2_with (at_builtin; refine wp_app1x _ rfl (.tmp 6) (.tmp 9) rfl (P + 1) _ _ rfl (HO.out.alloc _) w0.heap.size n rfl (by simp) (by omega) (by simp; omega) ?_; intro v1 w1 ho1 hg1 ha1 hs1; obtain ⟨A1, c1, hs1⟩ := hs1; subst hs1; have HO1 := Lib.hid ho1; have HG1 := Lib.hid hg1; have HA1 := Lib.hid ha1; have hne : some P ≠ (Value.slice A (sersT ts).length cap).ownBlock := (fun e => by have := (World.ownsRow.lt HO.out P e.symm).1; omega); have HNE := Lib.hid hne; have hb1 := hg1.block P (by simp; omega) hne; have hv1 := (World.cell?_of_block (a := ⟨P, 0, none⟩) hb1).trans (cell_old _ hP0 hv0); have hf1 := (World.frozen?_of_block (a := ⟨P, 0, none⟩) hb1).trans ((((Below.refl _ _).alloc (Nat.le_refl _) _).frozen (p := ⟨P, 0, none⟩) hP0).trans hf0); clear ho1 hg1 ha1 hne hb1)
    go_end0
    have hll : (sersT ts ++ [n]).length = (sersT ts).length + 1 := by simp
    rw [hll] at HO1 HA1
    have hcs : (w1.setCell ⟨P, 0, none⟩ (.slice A1 ((sersT ts).length + 1) c1)).cell? ⟨P, 0, none⟩ = some (.slice A1 ((sersT ts).length + 1) c1) := World.cell?_setCell_same _ _ _ hv1
    have hsz := HG1.out.size
    simp only [World.size_alloc] at hsz
    have hP0 := HP0.out
    refine ⟨rfl, ⟨by simp [World.setCell]; omega, _, hcs, by rw [World.frozen?_setCell]; exact hf1, ?_⟩, HK.out.trans ⟨HG1.out.os, HG1.out.tape, HG1.out.output, by simp [World.setCell]; omega, fun b hb hn => ?_⟩⟩
    · rw [HS2.out]
      exact HO1.out.of_block fun g hg => heap_setCell_other _ ⟨P, 0, none⟩ g _ (by have := (World.ownsRow.lt HO1.out g hg).1; show g ≠ P; omega)
    · have hbP : b ≠ P := fun e => hn (.inl e)
      have hbO : (Value.slice A (sersT ts).length cap).ownBlock ≠ some b := fun e => hn (.inr ⟨_, hv0, e⟩)
      refine ⟨(heap_setCell_other _ ⟨P, 0, none⟩ b _ hbP).trans ((HG1.out.block b (by simp; omega) (fun e => hbO e.symm)).trans (((Below.refl _ _).alloc (Nat.le_refl _) _).block b hb)), ?_⟩
      rintro (e | ⟨v', hv', e2⟩)
      · exact hbP e
      · rw [hcs] at hv'
        injection hv' with hv'
        subst hv'
        rcases HA1.out with h | h
        · exact hbO (h.symm.trans e2)
        · rw [h] at e2
          injection e2 with e2
          simp only [World.size_alloc] at e2
          omega
  · have e1 : ((c : Int) == 115) = false := by rw [beq_eq_false_iff_ne]; omega
    have HS2 := Lib.hid (show sersT (ts ++ [(c, n)]) = sersT ts by rw [HSN.out, if_neg h115, List.append_nil])
    go_enter Tryz.func57, Tryz.ntmps57
    go_upto_region 1 with fail
    rw [HW0.out]
    go_wp2
    go_end0
    exact ⟨rfl, ⟨by omega, _, hv0, hf0, by rw [HS2.out]; exact HO.out⟩, HK.out⟩
theorem visS (P : Nat) : Vis P (StS P) 57 where
  own := fun w ts h => by
    obtain ⟨hP, v, hv, hf, ho⟩ := h
    refine ⟨hP, fun b hb => ?_⟩
    rcases hb with rfl | ⟨v', hv', h2⟩
    · exact ⟨Nat.le_refl _, hP⟩
    · rw [hv] at hv'
      injection hv' with hv'
      subst hv'
      have := World.ownsRow.lt ho b h2
      omega
  bel := fun w w' ts hb h => by
    obtain ⟨hP, v, hv, hf, ho⟩ := h
    exact ⟨Nat.lt_of_lt_of_le hP hb.size, v, (hb.cell (p := ⟨P, 0, none⟩) hP).trans hv, (hb.frozen (p := ⟨P, 0, none⟩) hP).trans hf, ho.below hb⟩
  call := fun w c n ts hl h => C_serClo P w c n ts hl h
set_option maxHeartbeats 8000000 in
theorem C_SeriesI (s : ByteArray) (hs : s.size ≤ 1048576) (w : World) (hkp : Pk w) :
    Calls Tryz.prog 29 #[.string s] w fun e w' => ∃ v', e = .returned (.tuple #[v', .bool (goodQ s)]) ∧ OI w.heap.size w' v' (snL s) ∧ Below w.heap.size w w' := by
  have HC := Lib.hid (C_readQuery s hs w hkp)
  clear hkp
  cases hg : goodQ s
  · have HV := Lib.hid (show snL s = [] by unfold snL; rw [hg]; rfl)
    rw [hg] at HC
    clear hg
    go_enter Tryz.func29, Tryz.ntmps29
    go_wp2_with fail
    refine HC.out.mono ?_; rintro e w1 ⟨x, mo, rfl, hrd⟩
    have HB := Lib.hid hrd.1
    clear hrd HC
    go_wp2
    go_ret2
    rw [HV.out]
    exact ⟨_, rfl, OI.nil _ _, HB.out.alloc HB.out.size _⟩
  · obtain ⟨o, ho⟩ := good_some hg
    have HV := Lib.hid (show snL s = once (sersT o.q.tests) by unfold snL; rw [hg, scS_tests ho]; rfl)
    have hlen := tests_len ho
    have HO := Lib.hid ho
    rw [hg] at HC
    clear hg ho
    go_enter Tryz.func29, Tryz.ntmps29
    go_wp2_with fail
    refine HC.out.mono ?_; rintro e w1 ⟨x, mo, rfl, hrd⟩
    have hb1 := hrd.1
    obtain ⟨W1, hW1⟩ : ∃ W, W = w1.alloc (.cells #[.int .u8 (x).c, .int .i64 (x).n, .slice (x).A (x).m (x).k] 61) := ⟨_, rfl⟩
    have bW : Below w1.heap.size w1 W1 := by rw [hW1]; exact (Below.refl _ _).alloc (Nat.le_refl _) _
    have QX : QBox W1 w1.heap.size x := by rw [hW1]; exact QBox.new w1 x
    have hzW : w1.heap.size < W1.heap.size := by rw [hW1]; simp
    obtain ⟨W2, hW2⟩ : ∃ W, W = W1.alloc (.cells #[.slice none 0 0] 45) := ⟨_, rfl⟩
    have bW2 : Below W1.heap.size W1 W2 := by rw [hW2]; exact (Below.refl _ _).alloc (Nat.le_refl _) _
    have hz2 : W2.heap.size = W1.heap.size + 1 := by rw [hW2]; simp
    have hst : StS W1.heap.size W2 [] := ⟨by omega, .slice none 0 0, by rw [hW2]; exact cell_new _ _ _ _ _ rfl, by rw [hW2]; simp, OI.nil _ _⟩
    have HT := Lib.hid ((TR.inside _ _ ((hrd.2 o HO.out).2.below bW)).below bW2)
    obtain ⟨q0, q1, q2⟩ := QX.below hzW bW2
    have HW1 := Lib.hid hW1.symm
    have HW2 := Lib.hid hW2.symm
    have HB1 := Lib.hid (bel_step0 bW hb1)
    have HB2 := Lib.hid (bel_step0 bW2 (bel_step0 bW hb1))
    have HE := Lib.hid (C_eachS W1.heap.size (StS W1.heap.size) (visS _) (fun g => g < W1.heap.size) (fun g h => h) o.q x W2 [] HT.out (readQ_wf HO.out) hst (by simp; omega))
    have HST := Lib.hid hst
    have HZ := Lib.hid hz2
    clear hrd HC hb1 bW hW1 QX hW2 bW2 hst hz2
    go_upto_region 2 with fail
    rw [HW1.out]
    go_upto_region 5 with fail
    rw [HW2.out]
    go_wp2_with fail
    refine HE.out.mono ?_; rintro e w3 ⟨rfl, hs3, hk3⟩
    rw [List.nil_append] at hs3
    obtain ⟨hP3, v3, hv3, hf3, ho3⟩ := hs3
    have HO3 := Lib.hid ho3
    have HB3 := Lib.hid (show Below w.heap.size w w3 from HB2.out.trans ((hk3.below (fun b hb => (((visS _).own _ _ HST.out).2 b hb).1) (by rw [HZ.out]; omega)).mono HB1.out.size))
    have hl3 := sersT_len o.q.tests
    clear hk3 ho3 hf3 q0 q1 q2
    go_wp2_with fail
    refine (C_eachOnce (W1.heap.size + 1) _ _ _ HO3.out (by omega) (by omega)).mono ?_; rintro e w4 ⟨v4, rfl, ho4, hb4⟩
    have HO4 := Lib.hid ho4
    have HB4 := Lib.hid (HB3.out.trans (hb4.mono (by have := HB1.out.size; omega)))
    clear ho4 hb4 hv3
    go_wp2
    go_ret2
    rw [HV.out]
    exact ⟨_, rfl, OI.mono (by have := HB1.out.size; omega) HO4.out, HB4.out⟩
end Go.Proofs.YtjmfkenhnfdbjaaGreatDoor

/- A query inside a longer text: negations and conjunctions, read. No condition but those stated. -/
namespace Go.Proofs.YtjmfkenhnfdbjaaGreatDoor
set_option linter.unusedVariables false
set_option linter.unusedSimpArgs false
open Go.RowKit Go.Sort
theorem bN_list (s : ByteArray) (i : Nat) : bN s i = (s.data.toList[i]?.map UInt8.toNat).getD 0 := by
  unfold bN
  by_cases h : i < s.size
  · have h2 : i < s.data.toList.length := by rw [Array.length_toList]; exact h
    rw [dif_pos h, List.getElem?_eq_getElem h2]
    rfl
  · have h2 : ¬ i < s.data.toList.length := by rw [Array.length_toList]; exact h
    rw [dif_neg h, List.getElem?_eq_none (by omega)]
    rfl
theorem app3_list (p s q : ByteArray) : (p ++ s ++ q).data.toList = p.data.toList ++ (s.data.toList ++ q.data.toList) := by
  simp [ByteArray.data_append]
theorem len_list (s : ByteArray) : s.data.toList.length = s.size := by rw [Array.length_toList]; rfl
theorem digE_stop (s : ByteArray) : ∀ k a, s.size ≤ a + k → dB s (digE s k a) = false := by
  intro k
  induction k with
  | zero =>
    intro a h
    simp only [digE]
    unfold dB
    rw [decide_eq_false (by omega)]; rfl
  | succ k ih =>
    intro a h
    simp only [digE]
    cases hd : dB s a
    · simp only [Bool.false_eq_true, if_false]; exact hd
    · simp only [if_true]; exact ih (a + 1) (by omega)
section
variable (p s q : ByteArray)
theorem bN_pre {i : Nat} (h : i < p.size) : bN (p ++ s ++ q) i = bN p i := by
  rw [bN_list, bN_list, app3_list, List.getElem?_append_left (by rw [len_list]; exact h)]
theorem bN_mid {i : Nat} (h : i < s.size) : bN (p ++ s ++ q) (i + p.size) = bN s i := by
  rw [bN_list, bN_list, app3_list, List.getElem?_append_right (by rw [len_list]; omega), len_list, Nat.add_sub_cancel, List.getElem?_append_left (by rw [len_list]; exact h)]
theorem bN_post (i : Nat) : bN (p ++ s ++ q) (s.size + i + p.size) = bN q i := by
  rw [bN_list, bN_list, app3_list, List.getElem?_append_right (by rw [len_list]; omega), len_list, Nat.add_sub_cancel, List.getElem?_append_right (by rw [len_list]; omega), len_list, Nat.add_sub_cancel_left]
theorem ext_mid {a j : Nat} (hj : j ≤ s.size) (ha : a ≤ j) : (p ++ s ++ q).extract (a + p.size) (j + p.size) = s.extract a j := by
  apply ByteArray.ext
  apply Array.toList_inj.1
  rw [extract_list, extract_list, app3_list]
  have e1 : List.drop (a + p.size) (p.data.toList ++ (s.data.toList ++ q.data.toList)) = List.drop a (s.data.toList ++ q.data.toList) := by
    rw [Nat.add_comm, ← List.drop_drop, ← len_list p, List.drop_left]
  rw [e1, show j + p.size - (a + p.size) = j - a by omega, List.drop_append_of_le_length (by rw [len_list]; omega), List.take_append_of_le_length (by rw [List.length_drop, len_list]; omega)]
theorem size3 : (p ++ s ++ q).size = p.size + s.size + q.size := by simp [ByteArray.size_append]
/-- The text stands in the longer one. -/
theorem ins3 (hq : bN q 0 = 41) (hq1 : 1 ≤ q.size) : Ins s.size (bN s) (numA s) p.size (p ++ s ++ q).size (bN (p ++ s ++ q)) (numA (p ++ s ++ q)) where
  lt := by rw [size3]; omega
  by_ := fun i hi => bN_mid p s q hi
  cl := by have := bN_post p s q 0; rw [Nat.add_zero] at this; rw [this]; exact hq
  nu := fun a r ha h => by
    have hge := digE_ge s s.size a
    have hle := digE_le s s.size a ha
    have hst := digE_stop s s.size a (by omega)
    have hdg := digE_dig s s.size a
    have e : digE (p ++ s ++ q) (p ++ s ++ q).size (a + p.size) = digE s s.size a + p.size := by
      refine digE_of _ _ _ (by omega) (by rw [size3]; omega) (fun i h1 h2 => ?_) ?_
      · obtain ⟨k, rfl⟩ : ∃ k, i = k + p.size := ⟨i - p.size, by omega⟩
        have hd := hdg k (by omega) (by omega)
        obtain ⟨d1, d2, d3⟩ := dB_iff.1 hd
        exact dB_iff.2 ⟨by rw [size3]; omega, by rw [bN_mid p s q d1]; exact ⟨d2, d3⟩⟩
      · by_cases hlt : digE s s.size a < s.size
        · cases hd : dB (p ++ s ++ q) (digE s s.size a + p.size)
          · rfl
          · obtain ⟨d1, d2, d3⟩ := dB_iff.1 hd
            rw [bN_mid p s q hlt] at d2 d3
            rw [dB_iff.2 ⟨hlt, d2, d3⟩] at hst
            cases hst
        · have hz : digE s s.size a = s.size := by omega
          cases hd : dB (p ++ s ++ q) (digE s s.size a + p.size)
          · rfl
          · obtain ⟨d1, d2, d3⟩ := dB_iff.1 hd
            have := bN_post p s q 0
            rw [Nat.add_zero, hq] at this
            rw [hz, this] at d2
            omega
    unfold numA at h ⊢
    rw [e, ext_mid p s q hle hge]
    cases hn : numO (s.extract a (digE s s.size a)) with
    | none => rw [hn] at h; cases h
    | some u =>
      rw [hn] at h
      simp only [Option.some.injEq] at h
      subst h
      rfl
end
def notT (s : ByteArray) : ByteArray := ByteArray.mk #[33, 40] ++ s ++ ByteArray.mk #[41]
theorem lz2 (a b : UInt8) : (ByteArray.mk #[a, b]).size = 2 := rfl
theorem lz1 (a : UInt8) : (ByteArray.mk #[a]).size = 1 := rfl
theorem lz3 (a b c : UInt8) : (ByteArray.mk #[a, b, c]).size = 3 := rfl
theorem not_size (s : ByteArray) : (notT s).size = s.size + 3 := by unfold notT; rw [size3, lz2, lz1]; omega
theorem within_of {n : Nat} (h1 : 1 ≤ n) (h2 : n ≤ 60) : within (n : Int) 1 60 = true := by
  unfold within
  rw [Bool.and_eq_true, decide_eq_true_eq, decide_eq_true_eq]; omega
theorem read_not {s : ByteArray} {o : Out} (h : readQ s = some o) (hg : goodQ (notT s) = true) : readQ (notT s) = some ⟨one2 (.neg o.q), o.d + 1, (notT s).size⟩ := by
  have hl := good_len hg
  unfold readQ
  rw [if_pos (within_of hl.1 hl.2)]
  have hI := ins3 (ByteArray.mk #[33, 40]) s (ByteArray.mk #[41]) rfl (by rw [lz1]; omega)
  rw [lz2] at hI
  exact parse_not hI (numOk s) (not_size s) (by rw [bN_pre _ _ _ (by rw [lz2]; omega)]; rfl) (by rw [bN_pre _ _ _ (by rw [lz2]; omega)]; rfl) (read_parse h)
theorem both_form1 (a b : ByteArray) : bothT a b = ByteArray.mk #[40] ++ a ++ (ByteArray.mk #[41, 38, 40] ++ b ++ ByteArray.mk #[41]) := by
  unfold bothT
  apply ByteArray.ext
  apply Array.toList_inj.1
  simp [ByteArray.data_append]
theorem both_form2 (a b : ByteArray) : bothT a b = (ByteArray.mk #[40] ++ a ++ ByteArray.mk #[41, 38, 40]) ++ b ++ ByteArray.mk #[41] := rfl
theorem read_both {a b : ByteArray} {o u : Out} (h : readQ a = some o) (k : readQ b = some u) (hg : goodQ (bothT a b) = true) : readQ (bothT a b) = some ⟨two2 o.q u.q, max (o.d + 1) (u.d + 1), (bothT a b).size⟩ := by
  have hl := good_len hg
  have hz := both_size a b
  unfold readQ
  rw [if_pos (within_of hl.1 hl.2)]
  have hI : Ins a.size (bN a) (numA a) 1 (bothT a b).size (bN (bothT a b)) (numA (bothT a b)) := by
    have := ins3 (ByteArray.mk #[40]) a (ByteArray.mk #[41, 38, 40] ++ b ++ ByteArray.mk #[41]) (by rw [bN_pre _ _ _ (by rw [lz3]; omega)]; rfl) (by rw [size3, lz3]; omega)
    rw [lz1, ← both_form1] at this
    exact this
  have hJ : Ins b.size (bN b) (numA b) (a.size + 4) (bothT a b).size (bN (bothT a b)) (numA (bothT a b)) := by
    have := ins3 (ByteArray.mk #[40] ++ a ++ ByteArray.mk #[41, 38, 40]) b (ByteArray.mk #[41]) rfl (by rw [lz1]; omega)
    rw [← both_form2, size3, lz1, lz3, show 1 + a.size + 3 = a.size + 4 by omega] at this
    exact this
  have hp : ∀ i, i < 3 → bN (bothT a b) (a.size + i + 1) = bN (ByteArray.mk #[41, 38, 40]) i := fun i hi => by
    have := bN_post (ByteArray.mk #[40]) a (ByteArray.mk #[41, 38, 40] ++ b ++ ByteArray.mk #[41]) i
    rw [lz1, ← both_form1, bN_pre _ _ _ (by rw [lz3]; exact hi)] at this
    exact this
  refine parse_both hI hJ (numOk a) (numOk b) hz ?_ ?_ ?_ (read_parse h) (read_parse k)
  · rw [both_form1, bN_pre _ _ _ (by rw [lz1]; omega)]; rfl
  · exact hp 1 (by omega)
  · exact hp 2 (by omega)
theorem mtch_not {s : ByteArray} {R : Rc} (h : goodQ s = true) (hg : goodQ (notT s) = true) : mtch (notT s) R = !mtch s R := by
  obtain ⟨o, ho⟩ := good_some h
  rw [mtch_of ho, mtch_of (read_not ho hg), one2_eval]; rfl
theorem mtch_both {a b : ByteArray} {R : Rc} (ha : goodQ a = true) (hb : goodQ b = true) (hg : goodQ (bothT a b) = true) : mtch (bothT a b) R = (mtch a R && mtch b R) := by
  obtain ⟨o, ho⟩ := good_some ha
  obtain ⟨u, hu⟩ := good_some hb
  rw [mtch_of ho, mtch_of hu, mtch_of (read_both ho hu hg), two2_eval]
/-- How many tests, how deep the brackets. -/
def cntQ (s : ByteArray) : Nat := match readQ s with
  | none => 0
  | some o => o.q.tests.length
def depQ (s : ByteArray) : Nat := match readQ s with
  | none => 0
  | some o => o.d
theorem cnt_of {s : ByteArray} {o : Out} (h : readQ s = some o) : cntQ s = o.q.tests.length := by unfold cntQ; rw [h]
theorem dep_of {s : ByteArray} {o : Out} (h : readQ s = some o) : depQ s = o.d := by unfold depQ; rw [h]
theorem read_none {s : ByteArray} (h : goodQ s = false) : readQ s = none := by
  unfold goodQ at h
  cases hr : readQ s with
  | none => rfl
  | some o => rw [hr] at h; cases h
theorem cnt_none {s : ByteArray} (h : goodQ s = false) : cntQ s = 0 := by unfold cntQ; rw [read_none h]
theorem dep_none {s : ByteArray} (h : goodQ s = false) : depQ s = 0 := by unfold depQ; rw [read_none h]
theorem cnt_not {s : ByteArray} (h : goodQ s = true) (hg : goodQ (notT s) = true) : cntQ (notT s) = cntQ s := by
  obtain ⟨o, ho⟩ := good_some h
  rw [cnt_of ho, cnt_of (read_not ho hg)]
  show (one2 (.neg o.q)).tests.length = _
  rw [one2_tests]; rfl
theorem dep_not {s : ByteArray} (h : goodQ s = true) (hg : goodQ (notT s) = true) : depQ (notT s) = depQ s + 1 := by
  obtain ⟨o, ho⟩ := good_some h
  rw [dep_of ho, dep_of (read_not ho hg)]
theorem cnt_lets {s : ByteArray} {o : Out} (h : readQ s = some o) : (lets (bN s) 0 s.size).length = o.q.tests.length := by
  have := parse_spl (numOk s) (numDig s) (read_parse h)
  rw [← this.ts, List.length_map, Nat.sub_zero]
theorem dep_scn {s : ByteArray} {o : Out} (h : readQ s = some o) : (scn (bN s) 0 s.size (0, 0)).1 = (o.d : Int) := by
  have := (parse_spl (numOk s) (numDig s) (read_parse h)).sc 0 0 (by omega)
  rw [Nat.sub_zero] at this
  rw [this]
  show max 0 (0 + (o.d : Int)) = _
  omega
end Go.Proofs.YtjmfkenhnfdbjaaGreatDoor

/- Negations, counts of tests, depths of brackets: both sides. No condition but those stated. -/
namespace Go.Proofs.YtjmfkenhnfdbjaaGreatDoor
set_option linter.unusedVariables false
set_option linter.unusedSimpArgs false
open Go.RowKit Go.Sort
def nqOk (s : ByteArray) : Bool := goodQ s && goodQ (notT s)
def nqS (s : ByteArray) : ByteArray := if nqOk s then notT s else ByteArray.empty
set_option maxHeartbeats 4000000 in
theorem C_NegatedS (s : ByteArray) (hs : s.size ≤ 1000000) (w : World) :
    Calls Tryz.prog 17 #[.string s] w fun e w' => e = .returned (.tuple #[.string (nqS s), .bool (nqOk s)]) ∧ Below w.heap.size w w' := by
  obtain ⟨ga, hga⟩ : ∃ g, goodQ s = g := ⟨_, rfl⟩
  obtain ⟨T, hT⟩ : ∃ T, notT s = T := ⟨_, rfl⟩
  obtain ⟨gt, hgt⟩ : ∃ g, goodQ T = g := ⟨_, rfl⟩
  have HO := Lib.hid (show nqOk s = (ga && gt) ∧ nqS s = if ga && gt then T else ByteArray.empty by
    unfold nqS nqOk; rw [hga, hT, hgt]; exact ⟨rfl, rfl⟩)
  have HA := Lib.hid (fun w => C_l19Good s (by omega) w)
  have HT := Lib.hid (fun w => show Calls Tryz.prog 38 #[.string T] w fun e w' => e = .returned (.bool gt) ∧ Below w.heap.size w w' by
    have hz := not_size s
    rw [hT] at hz
    have := C_l19Good T (by omega) w
    rwa [hgt] at this)
  rw [hga] at HA
  have hT2 : ByteArray.mk #[33, 40] ++ s ++ ByteArray.mk #[41] = T := hT
  clear hga hgt hT
  cases ga
  · go_enter Tryz.func17, Tryz.ntmps17
    go_wp2_with fail
    refine (HA.out _).mono ?_; rintro e w1 ⟨rfl, hb1⟩
    go_wp2
    go_ret2
    rw [HO.out.1, HO.out.2]
    exact ⟨rfl, hb1⟩
  · cases gt
    all_goals
      go_enter Tryz.func17, Tryz.ntmps17
      go_wp2_with fail
      refine (HA.out _).mono ?_; rintro e w1 ⟨rfl, hb1⟩
      go_wp2_with fail
      refine (HT.out _).mono ?_; rintro e w3 ⟨rfl, hb3⟩
      go_wp2
      go_ret2
      rw [HO.out.1, HO.out.2]
      exact ⟨rfl, bel_step0 hb3 hb1⟩
set_option maxHeartbeats 4000000 in
theorem C_NegatedI (s : ByteArray) (hs : s.size ≤ 1000000) (w : World) (hk : Pk w) :
    Calls Tryz.prog 11 #[.string s] w fun e w' => e = .returned (.tuple #[.string (nqS s), .bool (nqOk s)]) ∧ Below w.heap.size w w' := by
  obtain ⟨ga, hga⟩ : ∃ g, goodQ s = g := ⟨_, rfl⟩
  obtain ⟨T, hT⟩ : ∃ T, notT s = T := ⟨_, rfl⟩
  obtain ⟨gt, hgt⟩ : ∃ g, goodQ T = g := ⟨_, rfl⟩
  have HO := Lib.hid (show nqOk s = (ga && gt) ∧ nqS s = if ga && gt then T else ByteArray.empty by
    unfold nqS nqOk; rw [hga, hT, hgt]; exact ⟨rfl, rfl⟩)
  have HA := Lib.hid (C_IsQuery s (by omega) w hk)
  have HT := Lib.hid (fun w1 (hw1 : Below w.heap.size w w1) => show Calls Tryz.prog 41 #[.string T] w1 fun e w' => e = .returned (.tuple #[.string (if gt then T else ByteArray.empty), .bool gt]) ∧ Below w1.heap.size w1 w' by
    have hz := not_size s
    rw [hT] at hz
    have := C_asQuery T (by omega) w1 (hk.below hw1)
    unfold asQ at this
    rwa [hgt] at this)
  rw [hga] at HA
  have hT2 : ByteArray.mk #[33, 40] ++ s ++ ByteArray.mk #[41] = T := hT
  clear hga hgt hT hk
  cases ga
  · go_enter Tryz.func11, Tryz.ntmps11
    go_wp2_with fail
    refine HA.out.mono ?_; rintro e w1 ⟨rfl, hb1⟩
    go_wp2
    go_ret2
    rw [HO.out.1, HO.out.2]
    exact ⟨rfl, hb1⟩
  · cases gt
    all_goals
      simp only [if_true, if_false, Bool.false_eq_true] at HT
      have HT := Lib.hid HT
      go_enter Tryz.func11, Tryz.ntmps11
      go_wp2_with fail
      refine HA.out.mono ?_; rintro e w1 ⟨rfl, hb1⟩
      have HB1 := Lib.hid hb1
      go_wp2_with fail
      refine (HT.out _ HB1.out).mono ?_; rintro e w3 ⟨rfl, hb3⟩
      go_wp2
      go_ret2
      rw [HO.out.1, HO.out.2]
      exact ⟨rfl, bel_step0 hb3 HB1.out⟩
/-! Depths. -/
set_option maxHeartbeats 4000000 in
theorem C_NestingI (s : ByteArray) (hs : s.size ≤ 1048576) (w : World) (hk : Pk w) :
    Calls Tryz.prog 19 #[.string s] w fun e w' => e = .returned (.tuple #[.int .i64 (depQ s), .bool (goodQ s)]) ∧ Below w.heap.size w w' := by
  have HC := Lib.hid (C_readQuery s hs w hk)
  clear hk
  cases hg : goodQ s
  · have HV := Lib.hid (dep_none hg)
    rw [hg] at HC
    clear hg
    go_enter Tryz.func19, Tryz.ntmps19
    go_wp2_with fail
    refine HC.out.mono ?_; rintro e w1 ⟨x, mo, rfl, hr⟩
    have HB := Lib.hid hr.1
    clear hr HC
    go_wp2
    go_ret2
    rw [HV.out]
    exact ⟨rfl, HB.out.alloc HB.out.size _⟩
  · obtain ⟨o, ho⟩ := good_some hg
    have HV := Lib.hid (dep_of ho)
    have HO := Lib.hid ho
    rw [hg] at HC
    clear hg ho
    go_enter Tryz.func19, Tryz.ntmps19
    go_wp2_with fail
    refine HC.out.mono ?_; rintro e w1 ⟨x, mo, rfl, hr⟩
    have HB := Lib.hid hr.1
    have HM := Lib.hid (hr.2 o HO.out).1
    clear hr HC
    go_wp2
    go_ret2
    rw [HV.out, HM.out]
    exact ⟨rfl, HB.out.alloc HB.out.size _⟩
theorem C_l1Most (a b : Int) (w : World) : Calls Tryz.prog 63 #[.int .i64 a, .int .i64 b] w fun e w' => e = .returned (.int .i64 (max a b)) ∧ w = w' := by
  by_cases h : b < a
  · go_enter Tryz.func63, Tryz.ntmps63
    go_wp2
    go_ret
    exact ⟨ret_int (by omega), rfl⟩
  · go_enter Tryz.func63, Tryz.ntmps63
    go_wp2
    go_ret
    exact ⟨ret_int (by omega), rfl⟩
theorem scn_bd (b : Nat → Nat) (k : Nat) : -(k : Int) ≤ (scn b 0 k (0, 0)).2 ∧ (scn b 0 k (0, 0)).2 ≤ k ∧ 0 ≤ (scn b 0 k (0, 0)).1 ∧ (scn b 0 k (0, 0)).1 ≤ k := by
  induction k with
  | zero => simp [scn]
  | succ k ih =>
    rw [scn]
    unfold brk
    simp only
    split
    · omega
    · split <;> omega
theorem scn_next (b : Nat → Nat) (k : Nat) {m o : Int} (h : scn b 0 k (0, 0) = (m, o)) : scn b 0 (k + 1) (0, 0) = (max m (if b k = 40 then o + 1 else if b k = 41 then o - 1 else o), if b k = 40 then o + 1 else if b k = 41 then o - 1 else o) := by
  rw [scn, h, Nat.zero_add]; rfl
set_option maxHeartbeats 8000000 in
theorem C_NestingS (s : ByteArray) (hs : s.size ≤ 1048576) (w : World) :
    Calls Tryz.prog 32 #[.string s] w fun e w' => e = .returned (.tuple #[.int .i64 (depQ s), .bool (goodQ s)]) ∧ Below w.heap.size w w' := by
  have HC := Lib.hid (C_l19Good s hs w)
  cases hg : goodQ s
  · have HV := Lib.hid (dep_none hg)
    rw [hg] at HC
    clear hg
    go_enter Tryz.func32, Tryz.ntmps32
    go_wp2_with fail
    refine HC.out.mono ?_; rintro e w1 ⟨rfl, hb1⟩
    go_wp2
    go_ret2
    rw [HV.out]
    exact ⟨rfl, hb1⟩
  · obtain ⟨o, ho⟩ := good_some hg
    have HV := Lib.hid (show (scn (bN s) 0 s.size (0, 0)).1 = (depQ s : Int) by rw [dep_scn ho, dep_of ho])
    rw [hg] at HC
    clear hg ho
    go_enter Tryz.func32, Tryz.ntmps32
    go_wp2_with fail
    refine HC.out.mono ?_; rintro e w1 ⟨rfl, hb1⟩
    have HB1 := Lib.hid hb1
    clear hb1 HC
    go_wp2
    go_loopw [4, 5, 6] (fun m o i wr => ∃ (k : Nat) (mv ov : Int), k ≤ s.size ∧ i = .int .i64 k ∧ m = .int .i64 mv ∧ o = .int .i64 ov ∧ scn (bN s) 0 k (0, 0) = (mv, ov) ∧ Below w.heap.size w wr) (fun _ _ i _ => s.size - (intOf i).toNat)
    case atStart => exact ⟨0, 0, 0, Nat.zero_le _, rfl, rfl, rfl, rfl, HB1.out⟩
    case round =>
      obtain ⟨k, mv, ov, hk, rfl, rfl, rfl, hsc, hB⟩ := hrel
      have hbd := scn_bd (bN s) k
      rw [hsc] at hbd
      obtain ⟨hb0, hb1, hb2, hb3⟩ := hbd
      simp only at hb0 hb1 hb2 hb3
      have HB := Lib.hid hB
      have HSC := Lib.hid hsc
      clear hB HB1
      by_cases hlt : k < s.size
      · have hk2 : (k : Int) < (s.size : Int) := by omega
        have hk0 : (0 : Int) ≤ (k : Int) := by omega
        have hnx := scn_next (bN s) k hsc
        rw [bN_at hlt] at hnx
        clear hsc
        by_cases h40 : s[k].toNat = 40
        · have e1 : ((s[k].toNat : Int) == 40) = true := by rw [h40]; rfl
          rw [if_pos h40] at hnx
          have HN := Lib.hid hnx
          clear hnx h40
          (go_wp2_with fail; refine (C_l1Most _ _ _).mono ?_; rintro e w2 ⟨rfl, rfl⟩; go_wp2; go_roundw; (case rel => exact ⟨k + 1, _, _, by omega, by go_num, rfl, rfl, HN.out, HB.out⟩); (case measure => simp [intOf]; omega))
        · have e1 : ((s[k].toNat : Int) == 40) = false := by rw [beq_eq_false_iff_ne]; omega
          rw [if_neg h40] at hnx
          by_cases h41 : s[k].toNat = 41
          · have e2 : ((s[k].toNat : Int) == 41) = true := by rw [h41]; rfl
            rw [if_pos h41] at hnx
            have HN := Lib.hid hnx
            clear hnx h41 h40
            (go_wp2_with fail; refine (C_l1Most _ _ _).mono ?_; rintro e w2 ⟨rfl, rfl⟩; go_wp2; go_roundw; (case rel => exact ⟨k + 1, _, _, by omega, by go_num, rfl, rfl, HN.out, HB.out⟩); (case measure => simp [intOf]; omega))
          · have e2 : ((s[k].toNat : Int) == 41) = false := by rw [beq_eq_false_iff_ne]; omega
            rw [if_neg h41] at hnx
            have HN := Lib.hid hnx
            clear hnx h41 h40
            (go_wp2_with fail; refine (C_l1Most _ _ _).mono ?_; rintro e w2 ⟨rfl, rfl⟩; go_wp2; go_roundw; (case rel => exact ⟨k + 1, _, _, by omega, by go_num, rfl, rfl, HN.out, HB.out⟩); (case measure => simp [intOf]; omega))
      · obtain rfl : k = s.size := by omega
        have HF := Lib.hid (show mv = (depQ s : Int) by have := HV.out; rw [hsc] at this; exact this)
        clear hsc
        go_wp2
        go_ret2
        rw [← HF.out]
        exact ⟨rfl, HB.out⟩
/-! Counts. -/
theorem C_l15Letter (c : Nat) (w : World) (hc : c ≤ 255) : Calls Tryz.prog 62 #[.int .u8 (c : Int)] w fun e w' => e = .returned (.bool (isLet c)) ∧ w = w' := by
  by_cases h1 : 97 ≤ c
  · have e1 : (97 : Int) ≤ (c : Int) := by omega
    go_enter Tryz.func62, Tryz.ntmps62
    go_wp2
    go_ret
    exact ⟨ret_bool (by unfold isLet; rw [decide_eq_true h1, Bool.true_and]; by_cases h2 : c ≤ 122 <;> simp [h2] <;> omega), rfl⟩
  · have e1 : ¬ (97 : Int) ≤ (c : Int) := by omega
    go_enter Tryz.func62, Tryz.ntmps62
    go_wp2
    go_ret
    exact ⟨ret_bool (by unfold isLet; rw [decide_eq_false h1]; rfl), rfl⟩
set_option maxHeartbeats 8000000 in
theorem C_CountS (s : ByteArray) (hs : s.size ≤ 1048576) (w : World) :
    Calls Tryz.prog 31 #[.string s] w fun e w' => e = .returned (.tuple #[.int .i64 (cntQ s), .bool (goodQ s)]) ∧ Below w.heap.size w w' := by
  have HC := Lib.hid (C_l19Good s hs w)
  cases hg : goodQ s
  · have HV := Lib.hid (cnt_none hg)
    rw [hg] at HC
    clear hg
    go_enter Tryz.func31, Tryz.ntmps31
    go_wp2_with fail
    refine HC.out.mono ?_; rintro e w1 ⟨rfl, hb1⟩
    go_wp2
    go_ret2
    rw [HV.out]
    exact ⟨rfl, hb1⟩
  · obtain ⟨o, ho⟩ := good_some hg
    have HV := Lib.hid (show (lets (bN s) 0 s.size).length = cntQ s by rw [cnt_lets ho, cnt_of ho])
    rw [hg] at HC
    clear hg ho
    go_enter Tryz.func31, Tryz.ntmps31
    go_wp2_with fail
    refine HC.out.mono ?_; rintro e w1 ⟨rfl, hb1⟩
    have HB1 := Lib.hid hb1
    clear hb1 HC
    go_wp2
    go_loopw [4, 5] (fun c i wr => ∃ k n : Nat, k ≤ s.size ∧ i = .int .i64 k ∧ c = .int .i64 n ∧ (lets (bN s) 0 k).length = n ∧ Below w.heap.size w wr) (fun _ i _ => s.size - (intOf i).toNat)
    case atStart => exact ⟨0, 0, Nat.zero_le _, rfl, rfl, rfl, HB1.out⟩
    case round =>
      obtain ⟨k, n, hk, rfl, rfl, hn, hB⟩ := hrel
      have hle := lets_len (bN s) 0 k
      rw [hn] at hle
      have HB := Lib.hid hB
      clear hB HB1
      by_cases hlt : k < s.size
      · have hk2 : (k : Int) < (s.size : Int) := by omega
        have hk0 : (0 : Int) ≤ (k : Int) := by omega
        have h255 : s[k].toNat ≤ 255 := by have := s[k].toNat_lt; omega
        have hnx : (lets (bN s) 0 (k + 1)).length = n + (if isLet s[k].toNat then [k] else []).length := by
          rw [lets, List.length_append, hn, Nat.zero_add, bN_at hlt]
        obtain ⟨c, hc⟩ : ∃ c, isLet s[k].toNat = c := ⟨_, rfl⟩
        have HL := Lib.hid (C_l15Letter s[k].toNat wr h255)
        rw [hc] at HL hnx
        clear hc hn
        cases c
        · have HN := Lib.hid (show (lets (bN s) 0 (k + 1)).length = n from hnx)
          clear hnx
          go_wp2_with fail
          refine HL.out.mono ?_; rintro e w2 ⟨rfl, rfl⟩
          go_wp2
          go_roundw
          case rel => exact ⟨k + 1, n, by omega, by go_num, rfl, HN.out, HB.out⟩
          case measure => simp [intOf]; omega
        · have HN := Lib.hid (show (lets (bN s) 0 (k + 1)).length = n + 1 from hnx)
          clear hnx
          go_wp2_with fail
          refine HL.out.mono ?_; rintro e w2 ⟨rfl, rfl⟩
          go_wp2
          go_roundw
          case rel => exact ⟨k + 1, n + 1, by omega, by go_num, by go_num, HN.out, HB.out⟩
          case measure => simp [intOf]; omega
      · obtain rfl : k = s.size := by omega
        have HF := Lib.hid (show n = cntQ s by rw [← hn]; exact HV.out)
        clear hn
        go_wp2
        go_ret2
        rw [← HF.out]
        exact ⟨rfl, HB.out⟩
/-- The state of the program's count. -/
def StC (P : Nat) (w : World) (ts : List (Nat × Int)) : Prop :=
  P < w.heap.size ∧ w.cell? ⟨P, 0, none⟩ = some (.int .i64 ts.length) ∧ w.frozen? ⟨P, 0, none⟩ = false
set_option maxHeartbeats 4000000 in
theorem C_cntClo (P : Nat) (w : World) (c : Nat) (n : Int) (ts : List (Nat × Int)) (hl : ts.length < 1048576) (h : StC P w ts) :
    Calls Tryz.prog 48 #[.agg #[.int .u8 (c : Int), .int .i64 n, .slice none 0 0], .pointer (some ⟨P, 0, none⟩)] w fun e w' => e = .returned (.tuple #[]) ∧ StC P w' (ts ++ [(c, n)]) ∧ Kp P w w' := by
  obtain ⟨hP, hv, hf⟩ := h
  obtain ⟨w0, hw0⟩ : ∃ w0, w0 = w.alloc (.cells #[.int .u8 ((⟨(c : Int), n, none, 0, 0⟩ : Tq)).c, .int .i64 ((⟨(c : Int), n, none, 0, 0⟩ : Tq)).n, .slice ((⟨(c : Int), n, none, 0, 0⟩ : Tq)).A ((⟨(c : Int), n, none, 0, 0⟩ : Tq)).m ((⟨(c : Int), n, none, 0, 0⟩ : Tq)).k] 61) := ⟨_, rfl⟩
  have HW0 := Lib.hid hw0.symm
  have B0 : Below w.heap.size w w0 := by rw [hw0]; exact (Below.refl _ _).alloc (Nat.le_refl _) _
  have hP0 : P < w0.heap.size := Nat.lt_of_lt_of_le hP B0.size
  have hv0 := (B0.cell (p := ⟨P, 0, none⟩) hP).trans hv
  have hf0 := (B0.frozen (p := ⟨P, 0, none⟩) hP).trans hf
  have HK := Lib.hid (Kp.of_below hP B0)
  obtain ⟨m, hm⟩ : ∃ m, ts.length = m := ⟨_, rfl⟩
  have HM := Lib.hid hm
  rw [hm] at hv0 hl
  have HV0 := Lib.hid hv0
  clear hw0 B0 hv hf hm
  go_enter Tryz.func48, Tryz.ntmps48
  go_upto_region 1 with fail
  rw [HW0.out]
  go_wp2
  go_end0
  have hcs : (w0.setCell ⟨P, 0, none⟩ (.int .i64 ((m : Int) + 1))).cell? ⟨P, 0, none⟩ = some (.int .i64 ((m : Int) + 1)) := World.cell?_setCell_same _ _ _ HV0.out
  refine ⟨rfl, ⟨by simpa [World.setCell] using hP0, ?_, by rw [World.frozen?_setCell]; exact hf0⟩, HK.out.trans ⟨rfl, rfl, rfl, by simp [World.setCell], fun b hb hn => ?_⟩⟩
  · rw [hcs, List.length_append, HM.out]; rfl
  · have hbP : b ≠ P := fun e => hn (.inl e)
    refine ⟨heap_setCell_other _ ⟨P, 0, none⟩ b _ hbP, ?_⟩
    rintro (e | ⟨v', hv', e2⟩)
    · exact hbP e
    · rw [hcs] at hv'
      injection hv' with hv'
      subst hv'
      cases e2
theorem visC (P : Nat) : Vis P (StC P) 48 where
  own := fun w ts h => by
    obtain ⟨hP, hv, hf⟩ := h
    refine ⟨hP, fun b hb => ?_⟩
    rcases hb with rfl | ⟨v', hv', h2⟩
    · exact ⟨Nat.le_refl _, hP⟩
    · rw [hv] at hv'
      injection hv' with hv'
      subst hv'
      cases h2
  bel := fun w w' ts hb h => by
    obtain ⟨hP, hv, hf⟩ := h
    exact ⟨Nat.lt_of_lt_of_le hP hb.size, (hb.cell (p := ⟨P, 0, none⟩) hP).trans hv, (hb.frozen (p := ⟨P, 0, none⟩) hP).trans hf⟩
  call := fun w c n ts hl h => C_cntClo P w c n ts hl h
set_option maxHeartbeats 8000000 in
theorem C_CountI (s : ByteArray) (hs : s.size ≤ 1048576) (w : World) (hkp : Pk w) :
    Calls Tryz.prog 18 #[.string s] w fun e w' => e = .returned (.tuple #[.int .i64 (cntQ s), .bool (goodQ s)]) ∧ Below w.heap.size w w' := by
  have HC := Lib.hid (C_readQuery s hs w hkp)
  clear hkp
  cases hg : goodQ s
  · have HV := Lib.hid (cnt_none hg)
    rw [hg] at HC
    clear hg
    go_enter Tryz.func18, Tryz.ntmps18
    go_wp2_with fail
    refine HC.out.mono ?_; rintro e w1 ⟨x, mo, rfl, hrd⟩
    have HB := Lib.hid hrd.1
    clear hrd HC
    go_wp2
    go_ret2
    rw [HV.out]
    exact ⟨rfl, HB.out.alloc HB.out.size _⟩
  · obtain ⟨o, ho⟩ := good_some hg
    have HV := Lib.hid (cnt_of ho)
    have hlen := tests_len ho
    have HO := Lib.hid ho
    rw [hg] at HC
    clear hg ho
    go_enter Tryz.func18, Tryz.ntmps18
    go_wp2_with fail
    refine HC.out.mono ?_; rintro e w1 ⟨x, mo, rfl, hrd⟩
    have hb1 := hrd.1
    obtain ⟨W1, hW1⟩ : ∃ W, W = w1.alloc (.cells #[.int .u8 (x).c, .int .i64 (x).n, .slice (x).A (x).m (x).k] 61) := ⟨_, rfl⟩
    have bW : Below w1.heap.size w1 W1 := by rw [hW1]; exact (Below.refl _ _).alloc (Nat.le_refl _) _
    have QX : QBox W1 w1.heap.size x := by rw [hW1]; exact QBox.new w1 x
    have hzW : w1.heap.size < W1.heap.size := by rw [hW1]; simp
    obtain ⟨W2, hW2⟩ : ∃ W, W = W1.alloc (.cells #[.int .i64 0] 3) := ⟨_, rfl⟩
    have bW2 : Below W1.heap.size W1 W2 := by rw [hW2]; exact (Below.refl _ _).alloc (Nat.le_refl _) _
    have hz2 : W2.heap.size = W1.heap.size + 1 := by rw [hW2]; simp
    have hst : StC W1.heap.size W2 [] := ⟨by omega, by rw [hW2]; exact cell_new _ _ _ _ _ rfl, by rw [hW2]; simp⟩
    have HT := Lib.hid ((TR.inside _ _ ((hrd.2 o HO.out).2.below bW)).below bW2)
    obtain ⟨q0, q1, q2⟩ := QX.below hzW bW2
    have HW1 := Lib.hid hW1.symm
    have HW2 := Lib.hid hW2.symm
    have HB1 := Lib.hid (bel_step0 bW hb1)
    have HB2 := Lib.hid (bel_step0 bW2 (bel_step0 bW hb1))
    have HE := Lib.hid (C_eachC W1.heap.size (StC W1.heap.size) (visC _) (fun g => g < W1.heap.size) (fun g h => h) o.q x W2 [] HT.out (readQ_wf HO.out) hst (by simp; omega))
    have HST := Lib.hid hst
    have HZ := Lib.hid hz2
    clear hrd HC hb1 bW hW1 QX hW2 bW2 hst hz2
    go_upto_region 2 with fail
    rw [HW1.out]
    go_upto_region 5 with fail
    rw [HW2.out]
    go_wp2_with fail
    refine HE.out.mono ?_; rintro e w3 ⟨rfl, hs3, hk3⟩
    rw [List.nil_append] at hs3
    obtain ⟨hP3, hv3, hf3⟩ := hs3
    rw [← HV.out] at hv3
    have HB3 := Lib.hid (show Below w.heap.size w w3 from HB2.out.trans ((hk3.below (fun b hb => (((visC _).own _ _ HST.out).2 b hb).1) (by rw [HZ.out]; omega)).mono HB1.out.size))
    clear hk3 hf3 q0 q1 q2
    go_wp2
    go_ret2
    exact ⟨rfl, HB3.out⟩
end Go.Proofs.YtjmfkenhnfdbjaaGreatDoor
