/- Merging two rising lists, each element once, as plain lists. No condition but those stated. -/
import Derived.Test.YtmhelhjjadoiaaaDoorIns
import Derived.Test.YtmhelhjjadoiaaaDoorSym
namespace Go.Proofs.YtmhelhjjadoiaaaDoor
set_option linter.unusedVariables false
section
variable {α : Type} (key : α → Int) (eqb : α → α → Bool)
/-- Strictly rising by the key. -/
def Str (l : List α) : Prop := l.Pairwise fun x y => key x < key y
/-- The first place whose element is not smaller. -/
def idxI (l : List α) (x : α) : Nat := (l.takeWhile fun y => decide (key y < key x)).length
def mIns [Inhabited α] (l : List α) (x : α) : List α := if decide (idxI key l x < l.length) && eqb (atE l (idxI key l x)) x then l else insAt l (idxI key l x) x
def mrgL [Inhabited α] (a b : List α) : List α := b.foldl (mIns key eqb) a
/-- The first k elements of F, of neighbours that are the same the first alone. -/
def ddU (F : Nat → α) : Nat → List α
  | 0 => []
  | k + 1 => ddU F k ++ (if decide (0 < k) && eqb (F k) (F (k - 1)) then [] else [F k])
/-- No two elements with the same key. -/
def NoC (U : α → Prop) : Prop := ∀ x y, U x → U y → key x = key y → x = y
end
section
variable {α : Type} {key : α → Int} {eqb : α → α → Bool}
theorem str_ext : ∀ {a b : List α}, Str key a → Str key b → (∀ x, x ∈ a ↔ x ∈ b) → a = b := by
  intro a
  induction a with
  | nil =>
    intro b _ _ h
    cases b with
    | nil => rfl
    | cons y b => exact absurd ((h y).2 (List.mem_cons_self ..)) (by simp)
  | cons x a ih =>
    intro b ha hb h
    cases b with
    | nil => exact absurd ((h x).1 (List.mem_cons_self ..)) (by simp)
    | cons y b =>
      obtain ⟨h1, h2⟩ := List.pairwise_cons.1 ha
      obtain ⟨h3, h4⟩ := List.pairwise_cons.1 hb
      have e : x = y := by
        rcases List.mem_cons.1 ((h x).1 (List.mem_cons_self ..)) with e | e
        · exact e
        · rcases List.mem_cons.1 ((h y).2 (List.mem_cons_self ..)) with e2 | e2
          · exact e2.symm
          · have := h3 x e; have := h1 y e2; omega
      subst e
      congr 1
      refine ih h2 h4 fun q => ⟨fun hq => ?_, fun hq => ?_⟩
      · rcases List.mem_cons.1 ((h q).1 (List.mem_cons_of_mem _ hq)) with e | e
        · have := h1 q hq; rw [e] at this; omega
        · exact e
      · rcases List.mem_cons.1 ((h q).2 (List.mem_cons_of_mem _ hq)) with e | e
        · have := h3 q hq; rw [e] at this; omega
        · exact e
theorem str_noc {l : List α} (h : Str key l) {U : α → Prop} (hU : ∀ x, U x → x ∈ l) : NoC key U := by
  intro x y hx hy e
  obtain ⟨i, hi, ei⟩ := List.mem_iff_getElem.1 (hU x hx)
  obtain ⟨j, hj, ej⟩ := List.mem_iff_getElem.1 (hU y hy)
  rcases Nat.lt_trichotomy i j with c | c | c
  · have := List.pairwise_iff_getElem.1 h i j hi hj c; rw [ei, ej] at this; omega
  · subst c; rw [← ei, ← ej]
  · have := List.pairwise_iff_getElem.1 h j i hj hi c; rw [ei, ej] at this; omega
theorem mem_ddU (heq : ∀ x y, eqb x y = true ↔ x = y) {F : Nat → α} {y : α} : ∀ k, y ∈ ddU eqb F k ↔ ∃ j, j < k ∧ F j = y := by
  intro k
  induction k with
  | zero => simp [ddU]
  | succ k ih =>
    rw [ddU, List.mem_append, ih]
    constructor
    · rintro (⟨j, h1, h2⟩ | h)
      · exact ⟨j, by omega, h2⟩
      · split at h
        · cases h
        · exact ⟨k, by omega, (List.mem_singleton.1 h).symm⟩
    · rintro ⟨j, h1, h2⟩
      by_cases c : j < k
      · exact .inl ⟨j, c, h2⟩
      · have : j = k := by omega
        subst this
        split
        · rename_i h
          rw [Bool.and_eq_true, decide_eq_true_eq, heq] at h
          exact .inl ⟨j - 1, by omega, by rw [← h.2]; exact h2⟩
        · exact .inr (by rw [h2]; simp)
/-- Sorted, and no two with the same key: of neighbours the first alone is rising. -/
theorem str_ddU (heq : ∀ x y, eqb x y = true ↔ x = y) {F : Nat → α} {n : Nat} (hs : SrtF key F 0 n) (hc : NoC key fun x => ∃ j, j < n ∧ F j = x) : ∀ k, k ≤ n → Str key (ddU eqb F k) ∧ ∀ y ∈ ddU eqb F k, 0 < k ∧ key y ≤ key (F (k - 1)) := by
  intro k
  induction k with
  | zero => intro _; exact ⟨List.Pairwise.nil, fun y h => by cases h⟩
  | succ k ih =>
    intro hk
    obtain ⟨h1, h2⟩ := ih (by omega)
    rw [ddU]
    split
    · rename_i h
      rw [Bool.and_eq_true, decide_eq_true_eq, heq] at h
      rw [List.append_nil]
      refine ⟨h1, fun y hy => ⟨by omega, ?_⟩⟩
      have := (h2 y hy).2
      rw [← h.2] at this
      exact this
    · rename_i h
      have hlt : ∀ y ∈ ddU eqb F k, key y < key (F k) := fun y hy => by
        obtain ⟨h3, h4⟩ := h2 y hy
        have h5 := hs (k - 1) k (by omega) (by omega) (by omega)
        have h6 : key (F (k - 1)) ≠ key (F k) := fun e => by
          apply h
          rw [Bool.and_eq_true, decide_eq_true_eq, heq]
          exact ⟨h3, (hc _ _ ⟨k - 1, by omega, rfl⟩ ⟨k, by omega, rfl⟩ e).symm⟩
        omega
      refine ⟨List.pairwise_append.2 ⟨h1, List.pairwise_singleton .., fun y hy z hz => ?_⟩, fun y hy => ⟨by omega, ?_⟩⟩
      · rw [List.mem_singleton.1 hz]; exact hlt y hy
      · show key y ≤ key (F k)
        rcases List.mem_append.1 hy with c | c
        · exact Int.le_of_lt (hlt y c)
        · rw [List.mem_singleton.1 c]; exact Int.le_refl _
end
section
variable {α : Type} [Inhabited α] {key : α → Int} {eqb : α → α → Bool}
theorem str_at {l : List α} (h : Str key l) : ∀ i j, i < j → j < l.length → key (atE l i) < key (atE l j) := by
  intro i j hi hj
  rw [atE_get (by omega), atE_get hj]
  exact List.pairwise_iff_getElem.1 h i j (by omega) hj hi
theorem idxI_of {l : List α} {x : α} {k : Nat} (hk : k ≤ l.length) (h1 : ∀ j, j < k → key (atE l j) < key x) (h2 : k < l.length → ¬ key (atE l k) < key x) : idxI key l x = k := by
  unfold idxI
  induction l generalizing k with
  | nil => simp at hk; subst hk; rfl
  | cons a r ih =>
    cases k with
    | zero =>
      have := h2 (by simp)
      have e : atE (a :: r) 0 = a := rfl
      rw [e] at this
      simp [List.takeWhile, this]
    | succ k =>
      have h0 := h1 0 (by omega)
      have e : atE (a :: r) 0 = a := rfl
      rw [e] at h0
      have es : ∀ j, atE (a :: r) (j + 1) = atE r j := fun j => rfl
      simp only [List.takeWhile, decide_eq_true h0, List.length_cons]
      rw [ih (by simpa using hk) (fun j hj => by have := h1 (j + 1) (by omega); rwa [es] at this) (fun hj => by have := h2 (by simpa using hj); rwa [es] at this)]
theorem idxI_spec (l : List α) (x : α) : idxI key l x ≤ l.length ∧ (∀ j, j < idxI key l x → key (atE l j) < key x) ∧ (idxI key l x < l.length → ¬ key (atE l (idxI key l x)) < key x) := by
  induction l with
  | nil => exact ⟨by simp [idxI], fun j hj => absurd hj (by simp [idxI]), fun h => absurd h (by simp [idxI])⟩
  | cons a r ih =>
    by_cases c : key a < key x
    · have e : idxI key (a :: r) x = idxI key r x + 1 := by unfold idxI; simp [List.takeWhile, c]
      rw [e]
      obtain ⟨i1, i2, i3⟩ := ih
      refine ⟨by simpa using i1, fun j hj => ?_, fun h => ?_⟩
      · cases j with
        | zero => exact c
        | succ j => exact i2 j (by omega)
      · exact i3 (by simpa using h)
    · have e : idxI key (a :: r) x = 0 := by unfold idxI; simp [List.takeWhile, c]
      rw [e]
      exact ⟨by simp, fun j hj => absurd hj (by omega), fun _ => c⟩
theorem mem_mIns (heq : ∀ x y, eqb x y = true ↔ x = y) {l : List α} {x y : α} : y ∈ mIns key eqb l x ↔ y = x ∨ y ∈ l := by
  unfold mIns
  split
  · rename_i h
    rw [Bool.and_eq_true, decide_eq_true_eq, heq] at h
    constructor
    · exact .inr
    · rintro (e | e)
      · rw [e, ← h.2, atE_get h.1]; exact List.getElem_mem _
      · exact e
  · unfold insAt
    rw [List.mem_append, List.mem_cons]
    constructor
    · rintro (h | h | h)
      · exact .inr (List.mem_of_mem_take h)
      · exact .inl h
      · exact .inr (List.mem_of_mem_drop h)
    · rintro (h | h)
      · exact .inr (.inl h)
      · rw [← List.take_append_drop (idxI key l x) l, List.mem_append] at h
        rcases h with h | h
        · exact .inl h
        · exact .inr (.inr h)
theorem mem_mrgL (heq : ∀ x y, eqb x y = true ↔ x = y) {b : List α} : ∀ {a : List α} {y : α}, y ∈ mrgL key eqb a b ↔ y ∈ a ∨ y ∈ b := by
  unfold mrgL
  induction b with
  | nil => intro a y; simp
  | cons x b ih =>
    intro a y
    rw [List.foldl_cons, ih, mem_mIns heq, List.mem_cons]
    constructor
    · rintro ((h | h) | h)
      · exact .inr (.inl h)
      · exact .inl h
      · exact .inr (.inr h)
    · rintro (h | h | h)
      · exact .inl (.inr h)
      · exact .inl (.inl h)
      · exact .inr h
theorem str_mIns (heq : ∀ x y, eqb x y = true ↔ x = y) {l : List α} {x : α} (h : Str key l) (hc : ∀ y ∈ l, key y = key x → y = x) : Str key (mIns key eqb l x) := by
  unfold mIns
  obtain ⟨i1, i2, i3⟩ := idxI_spec (key := key) l x
  generalize idxI key l x = k at i1 i2 i3
  split
  · exact h
  · rename_i hn
    have hne : ∀ j, j < l.length → key (atE l j) ≠ key x := by
      intro j hj e
      have hm : atE l j ∈ l := by rw [atE_get hj]; exact List.getElem_mem _
      have ex := hc _ hm e
      apply hn
      have hjk : j = k := by
        rcases Nat.lt_trichotomy j k with c | c | c
        · have := i2 j c; omega
        · exact c
        · have h3 := i3 (by omega)
          have h4 := str_at h k j c hj
          omega
      subst hjk
      rw [Bool.and_eq_true, decide_eq_true_eq, heq]
      exact ⟨hj, ex⟩
    unfold insAt
    refine List.pairwise_append.2 ⟨h.sublist (List.take_sublist _ _), List.pairwise_cons.2 ⟨fun y hy => ?_, h.sublist (List.drop_sublist _ _)⟩, fun y hy z hz => ?_⟩
    · obtain ⟨j, hj, e⟩ := List.mem_iff_getElem.1 hy
      rw [List.length_drop] at hj
      rw [List.getElem_drop] at e
      have e2 : atE l (k + j) = y := by rw [atE_get (by omega)]; exact e
      have h3 := i3 (by omega)
      have h5 := hne (k + j) (by omega)
      have h6 : key (atE l k) ≤ key (atE l (k + j)) := by
        rcases Nat.eq_zero_or_pos j with c | c
        · subst c; exact Int.le_refl _
        · have := str_at h k (k + j) (by omega) (by omega); omega
      rw [← e2]; omega
    · obtain ⟨j, hj, e⟩ := List.mem_iff_getElem.1 hy
      rw [List.length_take] at hj
      rw [List.getElem_take] at e
      have e2 : atE l j = y := by rw [atE_get (by omega)]; exact e
      have h4 := i2 j (by omega)
      rw [e2] at h4
      rcases List.mem_cons.1 hz with c | c
      · rw [c]; exact h4
      · obtain ⟨q, hq, e3⟩ := List.mem_iff_getElem.1 c
        rw [List.length_drop] at hq
        rw [List.getElem_drop] at e3
        have e4 : atE l (k + q) = z := by rw [atE_get (by omega)]; exact e3
        have := str_at h j (k + q) (by omega) (by omega)
        rw [e2, e4] at this; exact this
theorem str_mrgL (heq : ∀ x y, eqb x y = true ↔ x = y) {U : α → Prop} (hc : NoC key U) {b : List α} : ∀ {a : List α}, (∀ x ∈ a, U x) → (∀ x ∈ b, U x) → Str key a → Str key (mrgL key eqb a b) := by
  unfold mrgL
  induction b with
  | nil => intro a _ _ h; exact h
  | cons x b ih =>
    intro a ha hb h
    rw [List.foldl_cons]
    have hx := hb x (List.mem_cons_self ..)
    refine ih (fun y hy => ?_) (fun y hy => hb y (List.mem_cons_of_mem _ hy)) (str_mIns heq h fun y hy e => hc y x (ha y hy) hx e)
    rcases (mem_mIns heq).1 hy with e | e
    · rw [e]; exact hx
    · exact ha y e
/-- What sorting and dropping neighbours gives is what putting in order gives, or neither is rising. -/
theorem mrg_same (heq : ∀ x y, eqb x y = true ↔ x = y) {a b : List α} (ha : Str key a) {F : Nat → α} {n : Nat} (hs : SrtF key F 0 n) (hm : ∀ y, (∃ j, j < n ∧ F j = y) ↔ y ∈ a ∨ y ∈ b) :
    ddU eqb F n = mrgL key eqb a b ∨ (¬ Str key (ddU eqb F n) ∧ ¬ Str key (mrgL key eqb a b)) := by
  have hU : ∀ y, y ∈ ddU eqb F n ↔ y ∈ a ∨ y ∈ b := fun y => (mem_ddU heq n).trans (hm y)
  have hR : ∀ y, y ∈ mrgL key eqb a b ↔ y ∈ a ∨ y ∈ b := fun y => mem_mrgL heq
  rcases Classical.em (NoC key fun x => x ∈ a ∨ x ∈ b) with hc | hc
  · left
    have hc2 : NoC key fun x => ∃ j, j < n ∧ F j = x := fun x y hx hy e => hc x y ((hm x).1 hx) ((hm y).1 hy) e
    exact str_ext (str_ddU heq hs hc2 n (Nat.le_refl _)).1 (str_mrgL heq hc (fun x hx => .inl hx) (fun x hx => .inr hx) ha) fun y => (hU y).trans (hR y).symm
  · right
    exact ⟨fun h => hc (str_noc h fun x hx => (hU x).2 hx), fun h => hc (str_noc h fun x hx => (hR x).2 hx)⟩
/-- From both sides the same. -/
theorem mrg_comm (heq : ∀ x y, eqb x y = true ↔ x = y) {a b : List α} (h : Str key (mrgL key eqb a b)) (hb : Str key b) : mrgL key eqb b a = mrgL key eqb a b := by
  have hR : ∀ y, y ∈ mrgL key eqb a b ↔ y ∈ a ∨ y ∈ b := fun y => mem_mrgL heq
  have hc : NoC key fun x => x ∈ a ∨ x ∈ b := str_noc h fun x hx => (hR x).2 hx
  refine str_ext (str_mrgL heq hc (fun x hx => .inr hx) (fun x hx => .inl hx) hb) h fun y => ?_
  rw [hR, mem_mrgL heq]
  exact Or.comm
theorem mrg_again (heq : ∀ x y, eqb x y = true ↔ x = y) {a b : List α} (h : Str key (mrgL key eqb a b)) : mrgL key eqb (mrgL key eqb a b) a = mrgL key eqb a b := by
  have hR : ∀ y, y ∈ mrgL key eqb a b ↔ y ∈ a ∨ y ∈ b := fun y => mem_mrgL heq
  have hc : NoC key fun x => x ∈ mrgL key eqb a b := str_noc h fun x hx => hx
  refine str_ext (str_mrgL heq hc (fun x hx => hx) (fun x hx => (hR x).2 (.inl hx)) h) h fun y => ?_
  rw [mem_mrgL heq]
  constructor
  · rintro (e | e)
    · exact e
    · exact (hR y).2 (.inl e)
  · exact .inl
end
end Go.Proofs.YtmhelhjjadoiaaaDoor
