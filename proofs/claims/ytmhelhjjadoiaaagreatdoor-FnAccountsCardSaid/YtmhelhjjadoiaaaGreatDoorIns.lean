/- Insertion in order, as plain lists. No condition but those stated. -/
import Derived.Test.YtmhelhjjadoiaaaGreatDoorBase
namespace Go.Proofs.YtmhelhjjadoiaaaGreatDoor
set_option linter.unusedVariables false
section
/-- x put at the place k. -/
def insAt {α : Type} (l : List α) (k : Nat) (x : α) : List α := l.take k ++ x :: l.drop k
theorem insAt_len {α : Type} (l : List α) (k : Nat) (x : α) : (insAt l k x).length = l.length + 1 := by
  unfold insAt; simp; omega
theorem insAt_all {α : Type} (l : List α) (x : α) : insAt l l.length x = l ++ [x] := by unfold insAt; simp
variable {α : Type} [Inhabited α]
def atE (l : List α) (j : Nat) : α := l.getD j default
theorem atE_get {l : List α} {j : Nat} (h : j < l.length) : atE l j = l[j] := by
  unfold atE; rw [List.getD_eq_getElem?_getD, List.getElem?_eq_getElem h]; rfl
theorem atE_some {l : List α} {j : Nat} (h : j < l.length) : l[j]? = some (atE l j) := by rw [atE_get h, List.getElem?_eq_getElem h]
theorem atE_app_left {l r : List α} {j : Nat} (h : j < l.length) : atE (l ++ r) j = atE l j := by
  unfold atE; rw [List.getD_eq_getElem?_getD, List.getElem?_append_left h, List.getD_eq_getElem?_getD]
theorem atE_app_right {l r : List α} {j : Nat} (h : l.length ≤ j) : atE (l ++ r) j = atE r (j - l.length) := by
  unfold atE; rw [List.getD_eq_getElem?_getD, List.getElem?_append_right h, List.getD_eq_getElem?_getD]
theorem insAt_here {l : List α} {k : Nat} {x : α} (h : k ≤ l.length) : atE (insAt l k x) k = x := by
  unfold insAt
  rw [atE_app_right (by simp; omega)]
  have : k - (l.take k).length = 0 := by simp; omega
  rw [this]; rfl
theorem insAt_before {l : List α} {j k : Nat} {x : α} (h : j < k) (hk : k ≤ l.length) : atE (insAt l k x) j = atE l j := by
  unfold insAt
  rw [atE_app_left (by simp; omega)]
  unfold atE
  rw [List.getD_eq_getElem?_getD, List.getD_eq_getElem?_getD, List.getElem?_take_of_lt h]
theorem insAt_behind {l : List α} {j k : Nat} {x : α} (h : k < j) (hj : j ≤ l.length) : atE (insAt l k x) j = atE l (j - 1) := by
  unfold insAt
  rw [atE_app_right (by simp; omega)]
  have e : j - (l.take k).length = (j - k - 1) + 1 := by simp; omega
  rw [e]
  show atE (l.drop k) (j - k - 1) = _
  unfold atE
  rw [List.getD_eq_getElem?_getD, List.getD_eq_getElem?_getD, List.getElem?_drop, show k + (j - k - 1) = j - 1 by omega]
theorem ext_atE {l r : List α} (h : l.length = r.length) (e : ∀ j, j < l.length → atE l j = atE r j) : l = r := by
  apply List.ext_getElem h
  intro j h1 h2
  have := e j h1
  rwa [atE_get h1, atE_get h2] at this
theorem atE_set {l : List α} {i j : Nat} {x : α} (hj : j < l.length) : atE (l.set i x) j = if i = j then x else atE l j := by
  rw [atE_get (by simpa using hj), atE_get hj, List.getElem_set]
/-- An exchange with the neighbour moves x one place down. -/
theorem swap_ins {p rest : List α} {j : Nat} {x : α} (h : j < p.length) :
    ((insAt p (j + 1) x ++ rest).set (j + 1) (atE (insAt p (j + 1) x ++ rest) j)).set j (atE (insAt p (j + 1) x ++ rest) (j + 1)) = insAt p j x ++ rest := by
  have hl := insAt_len p (j + 1) x
  have hl2 := insAt_len p j x
  have a1 : atE (insAt p (j + 1) x ++ rest) j = atE p j := by rw [atE_app_left (by omega), insAt_before (by omega) (by omega)]
  have a2 : atE (insAt p (j + 1) x ++ rest) (j + 1) = x := by rw [atE_app_left (by omega), insAt_here (by omega)]
  rw [a1, a2]
  apply ext_atE
  · simp [hl, hl2]
  · intro i hi
    simp only [List.length_set, List.length_append, hl] at hi
    rw [atE_set (by simp [hl]; omega), atE_set (by simp [hl]; omega)]
    by_cases e1 : j = i
    · subst e1
      rw [if_pos rfl, atE_app_left (by omega), insAt_here (by omega)]
    · rw [if_neg e1]
      by_cases e2 : j + 1 = i
      · subst e2
        rw [if_pos rfl, atE_app_left (by omega), insAt_behind (by omega) (by omega)]; rfl
      · rw [if_neg e2]
        by_cases e3 : i < p.length + 1
        · rw [atE_app_left (by omega), atE_app_left (by omega)]
          by_cases e4 : i < j
          · rw [insAt_before (by omega) (by omega), insAt_before e4 (by omega)]
          · rw [insAt_behind (by omega) (by omega), insAt_behind (by omega) (by omega)]
        · rw [atE_app_right (by omega), atE_app_right (by omega), hl, hl2]
/-- The place behind the elements that x does not come before. -/
def posE (lt : α → α → Bool) (l : List α) (x : α) : Nat → Nat
  | 0 => 0
  | k + 1 => if lt x (atE l k) then posE lt l x k else k + 1
theorem posE_le (lt : α → α → Bool) (l : List α) (x : α) (k : Nat) : posE lt l x k ≤ k := by
  induction k with
  | zero => exact Nat.le_refl _
  | succ k ih => unfold posE; split <;> omega
theorem posE_yes {lt : α → α → Bool} {l : List α} {x : α} {k : Nat} (h : lt x (atE l k) = true) : posE lt l x (k + 1) = posE lt l x k := by rw [posE, if_pos h]
theorem posE_no {lt : α → α → Bool} {l : List α} {x : α} {k : Nat} (h : lt x (atE l k) = false) : posE lt l x (k + 1) = k + 1 := by rw [posE, h]; rfl
def insE (lt : α → α → Bool) (l : List α) (x : α) : List α := insAt l (posE lt l x l.length) x
def srtE (lt : α → α → Bool) (l : List α) : List α := l.foldl (insE lt) []
theorem srtE_snoc (lt : α → α → Bool) (l : List α) (x : α) : srtE lt (l ++ [x]) = insE lt (srtE lt l) x := by simp [srtE, List.foldl_append]
theorem srtE_len (lt : α → α → Bool) (l : List α) : (srtE lt l).length = l.length := by
  have key : ∀ (l s : List α), (l.foldl (insE lt) s).length = s.length + l.length := by
    intro l
    induction l with
    | nil => intro s; rfl
    | cons x l ih =>
      intro s
      rw [List.foldl_cons, ih, insE, insAt_len, List.length_cons]; omega
  rw [srtE, key]; simp
theorem take_snocE {l : List α} {k : Nat} (h : k < l.length) : l.take (k + 1) = l.take k ++ [atE l k] := by
  rw [List.take_succ_eq_append_getElem h, atE_get h]
theorem drop_consE {l : List α} {k : Nat} (h : k < l.length) : l.drop k = atE l k :: l.drop (k + 1) := by
  rw [atE_get h, List.drop_eq_getElem_cons h]
end
end Go.Proofs.YtmhelhjjadoiaaaGreatDoor
