/- Facts on clues that FnClues and FnLeaks ask for. No condition but those stated. -/
import Derived.Test.YtnhkejbgcjebmaaDoorClueF
import Derived.Test.YtnhkejbgcjebmaaDoorClueH
import Derived.Test.YtnhkejbgcjebmaaDoorClueJ
import Derived.Sort.Walk0
namespace Go.Proofs.YtnhkejbgcjebmaaDoor
set_option linter.unusedVariables false
set_option linter.unusedSimpArgs false
theorem less_irrefl (x : List UInt8) : Op.bytesLess x x = false := by
  rw [bytesLess_eq, decide_eq_false_iff_not]; exact List.lt_irrefl x
theorem less_trans {x y z : List UInt8} (h : Op.bytesLess x y = true) (k : Op.bytesLess y z = true) : Op.bytesLess x z = true := by
  rw [bytesLess_eq, decide_eq_true_eq] at h k ⊢; exact List.lt_trans h k
theorem less_asymm {x y : List UInt8} (h : Op.bytesLess x y = true) : Op.bytesLess y x = false := by
  cases e : Op.bytesLess y x
  · rfl
  · have := less_trans h e
    rw [less_irrefl] at this; cases this
theorem less_total (x y : List UInt8) : Op.bytesLess x y = true ∨ x = y ∨ Op.bytesLess y x = true := by
  rw [bytesLess_eq, bytesLess_eq, decide_eq_true_eq, decide_eq_true_eq]
  rcases Classical.em (x < y) with h | h
  · exact .inl h
  · rcases Classical.em (y < x) with h2 | h2
    · exact .inr (.inr h2)
    · exact .inr (.inl (List.le_antisymm (List.not_lt.1 h2) (List.not_lt.1 h)))
theorem gtB_iff {x s : ByteArray} : gtB x s = true ↔ Op.bytesLess s.toList x.toList = true := by
  unfold gtB
  simp only [Bool.not_eq_true', Bool.or_eq_false_iff, beq_eq_false_iff_ne]
  constructor
  · rintro ⟨h1, h2⟩
    rcases less_total x.toList s.toList with h | h | h
    · rw [h1] at h; cases h
    · exact absurd h h2
    · exact h
  · intro h
    refine ⟨less_asymm h, fun e => ?_⟩
    rw [e, less_irrefl] at h; cases h
theorem dict_lt {n : Nat} {f : Nat → ByteArray} (h : dictB n f = true) : ∀ i j, i < j → j < n → Op.bytesLess (f i).toList (f j).toList = true := by
  have hg : allB n (dict1 f) = true := by unfold dictB at h; simp only [Bool.and_eq_true] at h; exact h.1
  have step : ∀ j, j + 1 < n → Op.bytesLess (f j).toList (f (j + 1)).toList = true := fun j hj => by
    have := allB_iff.1 hg (j + 1) hj
    rw [dict1_succ, Bool.and_eq_true] at this
    exact this.2
  intro i j
  induction j with
  | zero => intro h _; omega
  | succ j ih =>
    intro hi hj
    by_cases e : i = j
    · subst e; exact step i hj
    · exact less_trans (ih (by omega) (by omega)) (step j hj)
theorem empty_toList : (⟨#[]⟩ : ByteArray).toList = [] := by rw [Lib.toList_data]
theorem less_empty {x : ByteArray} (h : wordB x = true) : Op.bytesLess (⟨#[]⟩ : ByteArray).toList x.toList = true := by
  rw [empty_toList]
  have := (wordB_size h).1
  have hl : 0 < x.toList.length := by rw [Lib.toList_data]; simp; omega
  cases e : x.toList with
  | nil => rw [e] at hl; simp at hl
  | cons a r => rfl
/-- The word before is not behind a smaller one. -/
theorem aft_ge {n : Nat} {f : Nat → ByteArray} {x : ByteArray} (h : dictB n f = true) : ∀ m, m ≤ n → ∀ j, j < m → Op.bytesLess (f j).toList x.toList = true → Op.bytesLess (aftM f x m).toList (f j).toList = false := by
  intro m
  induction m with
  | zero => intro _ j hj; omega
  | succ m ih =>
    intro hm j hj hl
    unfold aftM
    by_cases hk : Op.bytesLess (f m).toList x.toList = true
    · rw [if_pos hk]
      by_cases e : j = m
      · subst e; exact less_irrefl _
      · exact less_asymm (dict_lt h j m (by omega) (by omega))
    · rw [if_neg hk]
      by_cases e : j = m
      · subst e; exact absurd hl hk
      · exact ih (by omega) j (by omega) hl
theorem aft_cases (f : Nat → ByteArray) (x : ByteArray) (m : Nat) : aftM f x m = (⟨#[]⟩ : ByteArray) ∨ ∃ j, j < m ∧ aftM f x m = f j ∧ Op.bytesLess (f j).toList x.toList = true := by
  induction m with
  | zero => exact .inl rfl
  | succ m ih =>
    unfold aftM
    by_cases hk : Op.bytesLess (f m).toList x.toList = true
    · rw [if_pos hk]; exact .inr ⟨m, by omega, rfl, hk⟩
    · rw [if_neg hk]
      rcases ih with h | ⟨j, hj, h⟩
      · exact .inl h
      · exact .inr ⟨j, by omega, h⟩
theorem bef_cases (f : Nat → ByteArray) (x : ByteArray) (m : Nat) : befM f x m = (⟨#[]⟩ : ByteArray) ∨ ∃ j, j < m ∧ befM f x m = f j ∧ Op.bytesLess x.toList (f j).toList = true := by
  induction m with
  | zero => exact .inl rfl
  | succ m ih =>
    unfold befM
    by_cases hk : (gtB (f m) x && (befM f x m).toList.isEmpty) = true
    · rw [if_pos hk]
      rw [Bool.and_eq_true] at hk
      exact .inr ⟨m, by omega, rfl, gtB_iff.1 hk.1⟩
    · rw [if_neg hk]
      rcases ih with h | ⟨j, hj, h⟩
      · exact .inl h
      · exact .inr ⟨j, by omega, h⟩
theorem bef_le {n : Nat} {f : Nat → ByteArray} {x : ByteArray} (h : dictB n f = true) : ∀ m, m ≤ n → ∀ j, j < m → Op.bytesLess x.toList (f j).toList = true → (befM f x m).toList.isEmpty = false ∧ Op.bytesLess (f j).toList (befM f x m).toList = false := by
  intro m
  induction m with
  | zero => intro _ j hj; omega
  | succ m ih =>
    intro hm j hj hl
    unfold befM
    cases he : (befM f x m).toList.isEmpty
    · rw [Bool.and_false, if_neg (by decide)]
      by_cases e : j = m
      · subst e
        refine ⟨he, ?_⟩
        rcases bef_cases f x j with h1 | ⟨i, hi, h1, _⟩
        · rw [h1, empty_toList] at he; cases he
        · rw [h1]; exact less_asymm (dict_lt h i j hi (by omega))
      · exact ih (by omega) j (by omega) hl
    · have hall : ∀ i, i < m → Op.bytesLess x.toList (f i).toList = false := fun i hi => by
        cases e : Op.bytesLess x.toList (f i).toList
        · rfl
        · rw [(ih (by omega) i hi e).1] at he; cases he
      have hjm : j = m := by
        by_cases e : j = m
        · exact e
        · rw [hall j (by omega)] at hl; cases hl
      subst hjm
      rw [gtB_iff.2 hl, Bool.true_and, if_pos rfl]
      refine ⟨?_, less_irrefl _⟩
      have hw := dictB_word h (show j < n by omega)
      have := (wordB_size hw).1
      have hz : 0 < (f j).toList.length := by rw [Lib.toList_data]; simp; omega
      cases e : (f j).toList with
      | nil => rw [e] at hz; simp at hz
      | cons a r => rfl
/-- What fits the index clue is the word itself. -/
theorem idx_fit {n j : Nat} {f : Nat → ByteArray} {x : ByteArray} (h : dictB n f = true) (hj : j < n) (hf : fitB 0 0 (aftM f x n) (befM f x n) (f j) = true) : f j = x := by
  unfold fitB at hf
  simp only [Bool.and_eq_true, Bool.or_eq_true] at hf
  obtain ⟨⟨_, h1⟩, h2⟩ := hf
  rw [gtB_iff] at h1
  rcases less_total (f j).toList x.toList with hl | hl | hl
  · rw [aft_ge h n (Nat.le_refl _) j hj hl] at h1; cases h1
  · exact toList_inj hl
  · obtain ⟨h3, h4⟩ := bef_le h n (Nat.le_refl _) j hj hl
    rcases h2 with h2 | h2
    · rw [h3] at h2; cases h2
    · rw [h4] at h2; cases h2
theorem idx_self {n : Nat} {f : Nat → ByteArray} {x : ByteArray} (hw : wordB x = true) : fitB 0 0 (aftM f x n) (befM f x n) x = true := by
  unfold fitB
  simp only [Bool.and_eq_true, Bool.or_eq_true]
  refine ⟨⟨⟨.inl rfl, .inl rfl⟩, ?_⟩, ?_⟩
  · rw [gtB_iff]
    rcases aft_cases f x n with h | ⟨j, _, h, hl⟩
    · rw [h]; exact less_empty hw
    · rw [h]; exact hl
  · rcases bef_cases f x n with h | ⟨j, _, h, hl⟩
    · rw [h, empty_toList]; exact .inl rfl
    · rw [h]; exact .inr hl
theorem idx_ok {n : Nat} {f : Nat → ByteArray} {x : ByteArray} (h : dictB n f = true) : okC 0 0 (aftM f x n) (befM f x n) = true := by
  unfold okC
  have h1 : ((aftM f x n).toList.isEmpty || wordB (aftM f x n)) = true := by
    rcases aft_cases f x n with e | ⟨j, hj, e, _⟩
    · rw [e, empty_toList]; rfl
    · rw [e, dictB_word h hj, Bool.or_true]
  have h2 : ((befM f x n).toList.isEmpty || wordB (befM f x n)) = true := by
    rcases bef_cases f x n with e | ⟨j, hj, e, _⟩
    · rw [e, empty_toList]; rfl
    · rw [e, dictB_word h hj, Bool.or_true]
  rw [h1, h2]; rfl
theorem dict_inj {n i j : Nat} {f : Nat → ByteArray} (h : dictB n f = true) (hi : i < n) (hj : j < n) (e : f i = f j) : i = j := by
  rcases Nat.lt_trichotomy i j with h1 | h1 | h1
  · have := dict_lt h i j h1 hj; rw [e, less_irrefl] at this; cases this
  · exact h1
  · have := dict_lt h j i h1 hi; rw [e, less_irrefl] at this; cases this
/-- At most one index meets what fixes its word. -/
theorem cnt_one {n : Nat} {p : Nat → Bool} (h : ∀ i j, i < n → j < n → p i = true → p j = true → i = j) : cntB n p ≤ 1 := by
  have key : ∀ m, m ≤ n → cntB m p ≤ 1 ∧ (cntB m p = 1 → ∃ i, i < m ∧ p i = true) := by
    intro m
    induction m with
    | zero => intro _; exact ⟨by simp [cntB_zero], by simp [cntB_zero]⟩
    | succ m ih =>
      intro hm
      obtain ⟨h1, h2⟩ := ih (by omega)
      cases e : p m
      · rw [cntB_no e]
        exact ⟨h1, fun h3 => by obtain ⟨i, hi, hp⟩ := h2 h3; exact ⟨i, by omega, hp⟩⟩
      · rw [cntB_yes e]
        have h0 : cntB m p = 0 := by
          rcases Nat.eq_zero_or_pos (cntB m p) with h4 | h4
          · exact h4
          · obtain ⟨i, hi, hp⟩ := h2 (by omega)
            have := h i m (by omega) (by omega) hp e
            omega
        exact ⟨by omega, fun _ => ⟨m, by omega, e⟩⟩
  exact (key n (Nat.le_refl _)).1
theorem cnt_pos {n i : Nat} {p : Nat → Bool} (hi : i < n) (h : p i = true) : 1 ≤ cntB n p := by
  have key : ∀ m, i < m → m ≤ n → 1 ≤ cntB m p := by
    intro m
    induction m with
    | zero => intro h _; omega
    | succ m ih =>
      intro h1 h2
      by_cases e : i = m
      · subst e; rw [cntB_yes h]; omega
      · have := ih (by omega) (by omega)
        cases e2 : p m
        · rw [cntB_no e2]; exact this
        · rw [cntB_yes e2]; omega
  exact key n hi (Nat.le_refl _)
theorem cnt_mono {n : Nat} {p q : Nat → Bool} (h : ∀ j, j < n → p j = true → q j = true) : cntB n p ≤ cntB n q := by
  have key : ∀ m, m ≤ n → cntB m p ≤ cntB m q := by
    intro m
    induction m with
    | zero => intro _; exact Nat.le_refl _
    | succ m ih =>
      intro hm
      have := ih (by omega)
      cases e : p m
      · rw [cntB_no e]
        cases e2 : q m
        · rw [cntB_no e2]; exact this
        · rw [cntB_yes e2]; omega
      · rw [cntB_yes e, cntB_yes (h m (by omega) e)]; omega
  exact key n (Nat.le_refl _)
theorem pick_mem {n : Nat} {f : Nat → ByteArray} {p : Nat → Bool} {y : ByteArray} : y ∈ pickT n f p ↔ ∃ j, j < n ∧ p j = true ∧ f j = y := by
  unfold pickT
  simp only [List.mem_map, List.mem_filter, List.mem_range]
  constructor
  · rintro ⟨j, ⟨h1, h2⟩, h3⟩; exact ⟨j, h1, h2, h3⟩
  · rintro ⟨j, h1, h2, h3⟩; exact ⟨j, ⟨h1, h2⟩, h3⟩
/-- The index clue has no other candidate than the word; and it has the word, if the index has it. -/
theorem idx_fact {n : Nat} {f : Nat → ByteArray} {x : ByteArray} (h : dictB n f = true) (hw : wordB x = true) :
    (candL n f 0 0 (aftM f x n) (befM f x n)).length ≤ 1 ∧ ∀ i, i < n → f i = x → (candL n f 0 0 (aftM f x n) (befM f x n)).length = 1 ∧ atT (candL n f 0 0 (aftM f x n) (befM f x n)) 0 = x := by
  have e : candL n f 0 0 (aftM f x n) (befM f x n) = pickT n f (fun j => fitB 0 0 (aftM f x n) (befM f x n) (f j)) := by unfold candL; rw [h, idx_ok h]; rfl
  have h1 : cntB n (fun j => fitB 0 0 (aftM f x n) (befM f x n) (f j)) ≤ 1 := cnt_one fun i j hi hj h2 h3 => dict_inj h hi hj ((idx_fit h hi h2).trans (idx_fit h hj h3).symm)
  refine ⟨by rw [e, pickT_length]; exact h1, fun i hi hx => ?_⟩
  have h2 : 1 ≤ cntB n (fun j => fitB 0 0 (aftM f x n) (befM f x n) (f j)) := cnt_pos hi (by rw [hx]; exact idx_self hw)
  have h3 : (candL n f 0 0 (aftM f x n) (befM f x n)).length = 1 := by rw [e, pickT_length]; omega
  refine ⟨h3, ?_⟩
  have hm : atT (candL n f 0 0 (aftM f x n) (befM f x n)) 0 ∈ candL n f 0 0 (aftM f x n) (befM f x n) := List.mem_of_getElem? (atT_lt (by omega))
  obtain ⟨y, hy⟩ : ∃ y, atT (candL n f 0 0 (aftM f x n) (befM f x n)) 0 = y := ⟨_, rfl⟩
  rw [hy] at hm ⊢
  rw [e] at hm
  obtain ⟨j, hj, hp, ej⟩ := pick_mem.1 hm
  rw [← ej]
  exact idx_fit h hj hp
theorem len_ok {x : ByteArray} (hw : wordB x = true) : okC x.size 0 ByteArray.empty ByteArray.empty = true := by
  obtain ⟨h1, h2⟩ := wordB_size hw
  unfold okC
  have e : within (x.size : Int) 0 10 = true := within_iff.2 ⟨by omega, by omega⟩
  have e2 : ByteArray.empty.toList = [] := empty_toList
  rw [e, e2]; rfl
theorem fit_len {x y : ByteArray} (hy : wordB y = true) (h : x.size = y.size) : fitB x.size 0 ByteArray.empty ByteArray.empty y = true := by
  unfold fitB
  have e2 : ByteArray.empty.toList = [] := empty_toList
  have e3 : gtB y ByteArray.empty = true := gtB_empty hy e2
  rw [e2, e3, h]; simp
/-- The length clue to a word of the list has a candidate. -/
theorem len_fact {n i : Nat} {f : Nat → ByteArray} {x : ByteArray} (h : dictB n f = true) (hi : i < n) (hx : f i = x) : 1 ≤ (candL n f x.size 0 ByteArray.empty ByteArray.empty).length := by
  have hw : wordB x = true := by rw [← hx]; exact dictB_word h hi
  have e : candL n f x.size 0 ByteArray.empty ByteArray.empty = pickT n f (fun j => fitB x.size 0 ByteArray.empty ByteArray.empty (f j)) := by unfold candL; rw [h, len_ok hw]; rfl
  rw [e, pickT_length]
  exact cnt_pos hi (by rw [hx]; exact fit_len hw rfl)
/-- No told length and no told letter leave all words. -/
theorem told_all {n : Nat} {f : Nat → ByteArray} (h : dictB n f = true) (x : ByteArray) : cT n f false false x = n := by
  unfold cT
  refine cntB_all fun j hj => ?_
  have e2 : ByteArray.empty.toList = [] := empty_toList
  unfold fitB
  rw [gtB_empty (dictB_word h hj) e2, e2]; simp
theorem told_less {n : Nat} {f : Nat → ByteArray} (u v : Bool) (x : ByteArray) : cT n f true true x ≤ cT n f u v x := by
  unfold cT
  refine cnt_mono fun j _ hp => ?_
  unfold fitB at hp ⊢
  simp only [if_true, Bool.and_eq_true] at hp
  obtain ⟨⟨⟨h1, h2⟩, h3⟩, h4⟩ := hp
  rw [h3, h4]
  cases u <;> cases v <;> simp_all
theorem told_one {n i : Nat} {f : Nat → ByteArray} (h : dictB n f = true) (hi : i < n) : 1 ≤ cT n f true true (f i) := by
  unfold cT
  refine cnt_pos hi ?_
  have hw := dictB_word h hi
  have e2 : ByteArray.empty.toList = [] := empty_toList
  unfold fitB
  rw [gtB_empty hw e2, e2]; simp
theorem least_all {n : Nat} {f : Nat → ByteArray} (h : dictB n f = true) : ∀ k, leastM n f false false k = n := by
  intro k
  induction k with
  | zero => rfl
  | succ k ih => rw [leastM, ih, told_all h]; omega
theorem least_less {n : Nat} {f : Nat → ByteArray} (u v : Bool) : ∀ k, leastM n f true true k ≤ leastM n f u v k := by
  intro k
  induction k with
  | zero => exact Int.le_refl _
  | succ k ih =>
    have := told_less (n := n) (f := f) u v (f k)
    simp only [leastM]
    omega
theorem least_one {n : Nat} {f : Nat → ByteArray} (h : dictB n f = true) : ∀ k, k ≤ n → 1 ≤ leastM n f true true k := by
  intro k
  induction k with
  | zero => intro _; have := (dictB_len h).1; simp only [leastM]; omega
  | succ k ih =>
    intro hk
    have := ih (by omega)
    have := told_one h (show k < n by omega)
    simp only [leastM]
    omega
theorem wl_length (u v x : Bool) : ((wl u v x).toList == [108, 101, 110, 103, 116, 104]) = u := by
  cases u <;> cases v <;> cases x <;> (simp only [wl, if_true, if_false, Bool.false_eq_true]; rw [Lib.toList_data]; decide)
theorem pad_ge (z : Nat) (n : Int) (h1 : 1 ≤ n) : (z : Int) ≤ padN z n ∧ padN z n < z + n := by
  unfold padN
  have h := Int.emod_add_mul_ediv ((z : Int) + n - 1) n
  have h2 := Int.emod_nonneg ((z : Int) + n - 1) (show n ≠ 0 by omega)
  have h3 := Int.emod_lt_of_pos ((z : Int) + n - 1) (show 0 < n by omega)
  have h4 : ((z : Int) + n - 1) / n * n = n * (((z : Int) + n - 1) / n) := Int.mul_comm _ _
  rw [h4]
  omega
end Go.Proofs.YtnhkejbgcjebmaaDoor
