/- Numbers put to their places, each once: the plain law. No condition but those stated. -/
import Derived.Test.YtjmfkenhnfdbjaaDoorLkO
import Derived.Lib.SlicesCompact
namespace Go.Proofs.YtjmfkenhnfdbjaaDoor
set_option linter.unusedVariables false
open Go.Lib
/-- A number put to its place, once. -/
def put : List Int → Int → List Int
  | [], x => [x]
  | a :: r, x => if a < x then a :: put r x else if a = x then a :: r else x :: a :: r
def Srt (l : List Int) : Prop := l.Pairwise (· < ·)
theorem put_mem {l : List Int} {x y : Int} : y ∈ put l x ↔ y = x ∨ y ∈ l := by
  induction l with
  | nil => simp [put]
  | cons a r ih =>
    unfold put
    split
    · simp only [List.mem_cons, ih]
      constructor
      · rintro (h | h | h)
        · exact .inr (.inl h)
        · exact .inl h
        · exact .inr (.inr h)
      · rintro (h | h | h)
        · exact .inr (.inl h)
        · exact .inl h
        · exact .inr (.inr h)
    · split
      · rename_i h1 h2
        subst h2
        simp only [List.mem_cons]
        constructor
        · exact .inr
        · rintro (h | h)
          · exact .inl h
          · exact h
      · simp only [List.mem_cons]
theorem put_srt {l : List Int} {x : Int} (h : Srt l) : Srt (put l x) := by
  induction l with
  | nil => exact List.pairwise_singleton _ _
  | cons a r ih =>
    obtain ⟨h1, h2⟩ := List.pairwise_cons.1 h
    unfold put
    split
    · rename_i hlt
      refine List.pairwise_cons.2 ⟨fun y hy => ?_, ih h2⟩
      rcases put_mem.1 hy with rfl | hm
      · exact hlt
      · exact h1 y hm
    · split
      · exact h
      · rename_i hn he
        refine List.pairwise_cons.2 ⟨fun y hy => ?_, h⟩
        rcases List.mem_cons.1 hy with rfl | hm
        · omega
        · have := h1 y hm; omega
theorem srt_ext : ∀ {a b : List Int}, Srt a → Srt b → (∀ x, x ∈ a ↔ x ∈ b) → a = b
  | [], [], _, _, _ => rfl
  | [], y :: s, _, _, h => absurd ((h y).2 (List.mem_cons_self ..)) (by simp)
  | x :: r, [], _, _, h => absurd ((h x).1 (List.mem_cons_self ..)) (by simp)
  | x :: r, y :: s, ha, hb, h => by
    obtain ⟨a1, a2⟩ := List.pairwise_cons.1 ha
    obtain ⟨b1, b2⟩ := List.pairwise_cons.1 hb
    have hxy : x = y := by
      rcases List.mem_cons.1 ((h x).1 (List.mem_cons_self ..)) with e | e
      · exact e
      · rcases List.mem_cons.1 ((h y).2 (List.mem_cons_self ..)) with e2 | e2
        · exact e2.symm
        · have := b1 x e; have := a1 y e2; omega
    subst hxy
    rw [srt_ext a2 b2 fun z => ?_]
    constructor
    · intro hz
      rcases List.mem_cons.1 ((h z).1 (List.mem_cons_of_mem _ hz)) with e | e
      · subst e; have := a1 z hz; omega
      · exact e
    · intro hz
      rcases List.mem_cons.1 ((h z).2 (List.mem_cons_of_mem _ hz)) with e | e
      · subst e; have := b1 z hz; omega
      · exact e
theorem put_has {l : List Int} {x : Int} (h : Srt l) (hx : x ∈ l) : put l x = l :=
  srt_ext (put_srt h) h fun y => by
    rw [put_mem]
    constructor
    · intro hm
      rcases hm with rfl | hm
      · exact hx
      · exact hm
    · exact .inr
def once (zs : List Int) : List Int := zs.foldl put []
theorem fold_mem (zs : List Int) : ∀ acc y, y ∈ zs.foldl put acc ↔ y ∈ acc ∨ y ∈ zs := by
  induction zs with
  | nil => intro acc y; simp
  | cons z r ih =>
    intro acc y
    rw [List.foldl_cons, ih, put_mem, List.mem_cons]
    constructor
    · rintro ((h | h) | h)
      · exact .inr (.inl h)
      · exact .inl h
      · exact .inr (.inr h)
    · rintro (h | h | h)
      · exact .inl (.inr h)
      · exact .inl (.inl h)
      · exact .inr h
theorem fold_srt (zs : List Int) : ∀ acc, Srt acc → Srt (zs.foldl put acc) := by
  induction zs with
  | nil => intro acc h; exact h
  | cons z r ih => intro acc h; exact ih _ (put_srt h)
theorem once_mem {zs : List Int} {y : Int} : y ∈ once zs ↔ y ∈ zs := by unfold once; rw [fold_mem]; simp
theorem once_srt (zs : List Int) : Srt (once zs) := fold_srt zs [] List.Pairwise.nil
theorem once_snoc (zs : List Int) (x : Int) : once (zs ++ [x]) = put (once zs) x := by unfold once; rw [List.foldl_append]; rfl
theorem once_len (zs : List Int) : (once zs).length ≤ zs.length := by
  have hp : ∀ l x, (put l x).length ≤ l.length + 1 := by
    intro l x
    induction l with
    | nil => simp [put]
    | cons a r ih => unfold put; split <;> (try split) <;> simp <;> omega
  have key : ∀ (zs acc : List Int), (zs.foldl put acc).length ≤ acc.length + zs.length := by
    intro zs
    induction zs with
    | nil => intro acc; simp
    | cons z r ih => intro acc; have := ih (put acc z); have := hp acc z; simp only [List.foldl_cons, List.length_cons]; omega
  have := key zs []
  simpa [once] using this
theorem compact_law (d : Array Int) (hs : ∀ i j, i ≤ j → j < d.size → d[i]! ≤ d[j]!) : ∀ m, m ≤ d.size → Srt (compactUpTo d m) ∧ ∀ y, y ∈ compactUpTo d m ↔ ∃ j, j < m ∧ d[j]! = y := by
  intro m
  induction m with
  | zero => intro _; exact ⟨by simp [compactUpTo, Srt], fun y => by simp [compactUpTo]⟩
  | succ m ih =>
    intro hm
    obtain ⟨h1, h2⟩ := ih (by omega)
    rw [compactUpTo_succ]
    cases hk : keeps d m with
    | true =>
      simp only [if_true]
      refine ⟨List.pairwise_append.2 ⟨h1, List.pairwise_singleton _ _, fun a ha b hb => ?_⟩, fun y => ?_⟩
      · rw [List.mem_singleton] at hb
        subst hb
        obtain ⟨j, hj, rfl⟩ := (h2 a).1 ha
        have hne : d[m]! ≠ d[m - 1]! := by
          unfold keeps at hk
          simp only [decide_eq_true_eq] at hk
          rcases hk with h | h
          · omega
          · exact h
        have a1 := hs j (m - 1) (by omega) (by omega)
        have a2 := hs (m - 1) m (by omega) (by omega)
        omega
      · rw [List.mem_append, h2, List.mem_singleton]
        constructor
        · rintro (⟨j, hj, e⟩ | rfl)
          · exact ⟨j, by omega, e⟩
          · exact ⟨m, by omega, rfl⟩
        · rintro ⟨j, hj, e⟩
          by_cases hjm : j = m
          · subst hjm; exact .inr e.symm
          · exact .inl ⟨j, by omega, e⟩
    | false =>
      simp only [Bool.false_eq_true, if_false, List.append_nil]
      refine ⟨h1, fun y => ?_⟩
      rw [h2]
      have hpos : 0 < m ∧ d[m]! = d[m - 1]! := by
        unfold keeps at hk
        simp only [decide_eq_false_iff_not, not_or, Classical.not_not] at hk
        exact ⟨by omega, hk.2⟩
      constructor
      · rintro ⟨j, hj, e⟩; exact ⟨j, by omega, e⟩
      · rintro ⟨j, hj, e⟩
        by_cases hjm : j = m
        · subst hjm; exact ⟨j - 1, by omega, by rw [← hpos.2]; exact e⟩
        · exact ⟨j, by omega, e⟩
theorem compact_sort (zs : List Int) : compact (zs.mergeSort fun x y => decide (x ≤ y)) = once zs := by
  obtain ⟨s, hs⟩ : ∃ s, zs.mergeSort (fun x y => decide (x ≤ y)) = s := ⟨_, rfl⟩
  have hperm : s.Perm zs := by rw [← hs]; exact List.mergeSort_perm _ _
  have hpw : s.Pairwise (· ≤ ·) := by
    have := List.pairwise_mergeSort (le := fun x y : Int => decide (x ≤ y)) (fun a b c h1 h2 => by simp at *; omega) (fun a b => by simp; omega) zs
    rw [hs] at this
    exact this.imp fun h => by simpa using h
  rw [hs]
  have hget : ∀ j, j < s.length → s.toArray[j]! = s.getD j 0 := fun j hj => by
    rw [List.getD_eq_getElem?_getD, List.getElem?_eq_getElem hj]
    simp [hj]
  have hord : ∀ i j, i ≤ j → j < s.toArray.size → s.toArray[i]! ≤ s.toArray[j]! := fun i j hij hj => by
    have hj' : j < s.length := by simpa using hj
    by_cases e : i = j
    · subst e; exact Int.le_refl _
    · have := List.pairwise_iff_getElem.1 hpw i j (by omega) hj' (by omega)
      simpa [hj', show i < s.length by omega] using this
  obtain ⟨h1, h2⟩ := compact_law s.toArray hord s.length (by simp)
  refine srt_ext h1 (once_srt zs) fun x => ?_
  show x ∈ compactUpTo s.toArray s.length ↔ _
  rw [h2, once_mem, ← hperm.mem_iff]
  constructor
  · rintro ⟨j, hj, rfl⟩
    have : s.toArray[j]! = s[j] := by simp [hj]
    rw [this]; exact List.getElem_mem _
  · intro hx
    obtain ⟨j, hj, rfl⟩ := List.mem_iff_getElem.1 hx
    exact ⟨j, hj, by simp [hj]⟩
end Go.Proofs.YtjmfkenhnfdbjaaDoor
