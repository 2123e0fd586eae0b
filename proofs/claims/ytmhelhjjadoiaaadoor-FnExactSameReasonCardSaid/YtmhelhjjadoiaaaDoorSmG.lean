/- The reference's order of reasons, in plain Lean. No condition but those stated. -/
import Derived.Test.YtmhelhjjadoiaaaDoorSmD
namespace Go.Proofs.YtmhelhjjadoiaaaDoor
set_option linter.unusedVariables false
set_option linter.unusedSimpArgs false
open Go.RowKit Go.Sort Go.Lib
theorem kS_iff (a b : ByteArray) : (a.toList == b.toList) = true ↔ kS a = kS b := by
  rw [beq_iff_eq]
  unfold kS
  rw [Lib.toList_data, Lib.toList_data]
  constructor
  · intro h; rw [h]
  · intro h; injection h
theorem cL_cnt (R : Nat → Lk) (s : ByteArray) (k : Nat) : cL R k (kS s) = (cntS R s k : Int) := by
  induction k with
  | zero => rfl
  | succ k ih =>
    cases h : ((R k).why.toList == s.toList)
    · have hne : kS s ≠ kS (R k).why := fun e => by
        rw [(kS_iff _ _).2 e.symm] at h; cases h
      rw [cntS_no h, ← ih]
      exact updC_other hne
    · have e := (kS_iff _ _).1 h
      rw [cntS_yes h]
      show updC (cL R k) (kS (R k).why) (cL R k (kS (R k).why) + 1) (kS s) = _
      rw [← e, updC_same, e, ih]; omega
theorem gtS (a b : ByteArray) : (!(Op.bytesLess a.toList b.toList || (a.toList == b.toList))) = decide (b.toList < a.toList) := by
  rw [bytesLess_eq]
  by_cases h1 : a.toList < b.toList
  · have h2 : ¬ b.toList < a.toList := fun h => List.lt_irrefl _ (List.lt_trans h h1)
    simp [h1, h2]
  · by_cases h2 : a.toList = b.toList
    · have h3 : ¬ b.toList < b.toList := List.lt_irrefl _
      simp [h2, h3]
    · have h3 : b.toList < a.toList := by
        by_cases h4 : b.toList < a.toList
        · exact h4
        · exact absurd (List.le_antisymm (List.not_lt.1 h4) (List.not_lt.1 h1)) h2
      simp [h1, h2, h3]
/-- Whether the reason y comes behind the new reason x. -/
def behind (c : Lit → Int) (x y : ByteArray) : Prop := c (kS y) < c (kS x) ∨ (c (kS y) = c (kS x) ∧ x.toList < y.toList)
/-- The reference's words behind k looks. -/
def SortP (c : Lit → Int) (R : Nat → Lk) (k : Nat) (words : List ByteArray) : Prop :=
  ∃ L ws : List Wd, L.map Wd.s = words ∧ ws.map Wd.s = dL R k ∧ L.Perm ws ∧ L.Pairwise fun a b => ltOf (cfW c) b a = false
theorem SortP.zero (c : Lit → Int) (R : Nat → Lk) : SortP c R 0 [] := ⟨[], [], rfl, rfl, List.Perm.refl _, List.Pairwise.nil⟩
theorem SortP.old {c : Lit → Int} {R : Nat → Lk} {k : Nat} {words : List ByteArray} (h : SortP c R k words) (hc : ¬ cL R k (kS (R k).why) = 0) : SortP c R (k + 1) words := by
  obtain ⟨L, ws, h1, h2, h3⟩ := h
  exact ⟨L, ws, h1, h2.trans (dL_old hc).symm, h3⟩
theorem SortP.length {c : Lit → Int} {R : Nat → Lk} {k : Nat} {words : List ByteArray} (h : SortP c R k words) : words.length ≤ k := by
  obtain ⟨L, ws, h1, h2, h3, _⟩ := h
  have h4 := dL_le R k
  rw [← h2, List.length_map, ← h3.length_eq] at h4
  rw [← h1, List.length_map]; exact h4
theorem sorted_put {lt : Wd → Wd → Bool} (hS : SWO lt) (L : List Wd) (x : Wd) (q : Nat) (hq : q ≤ L.length) (hp : L.Pairwise fun a b => lt b a = false)
    (hhi : ∀ (j : Nat) (hj : j < L.length), q ≤ j → lt x L[j] = true) (hlo : ∀ (hq0 : 0 < q), lt x (L[q - 1]'(by omega)) = false) :
    (L.take q ++ x :: L.drop q).Pairwise fun a b => lt b a = false := by
  have hsp : (L.take q ++ L.drop q).Pairwise fun a b => lt b a = false := by rw [List.take_append_drop]; exact hp
  rw [List.pairwise_append] at hsp ⊢
  obtain ⟨p1, p2, p3⟩ := hsp
  refine ⟨p1, ?_, ?_⟩
  · rw [List.pairwise_cons]
    refine ⟨fun y hy => ?_, p2⟩
    obtain ⟨j, hj, rfl⟩ := List.getElem_of_mem hy
    rw [List.getElem_drop]
    exact hS.asymmA (hhi _ _ (Nat.le_add_right q j))
  · intro a ha b hb
    rcases List.mem_cons.1 hb with rfl | hb
    · obtain ⟨j, hj, rfl⟩ := List.getElem_of_mem ha
      have hjq : j < q := by rw [List.length_take] at hj; omega
      rw [List.getElem_take]
      have h1 := hlo (by omega)
      by_cases e : j = q - 1
      · subst e; exact h1
      · exact hS.ntrans _ _ _ h1 ((List.pairwise_iff_getElem.1 hp) j (q - 1) (by omega) (by omega) (by omega))
    · exact p3 a ha b hb
theorem perm_put (L : List Wd) (x : Wd) (q : Nat) : (L.take q ++ x :: L.drop q).Perm (L ++ [x]) := by
  refine (List.perm_middle).trans ?_
  rw [List.take_append_drop]
  exact (List.perm_append_singleton x L).symm
theorem SortP.put {c : Lit → Int} {R : Nat → Lk} {k q : Nat} {words : List ByteArray} {x : ByteArray} (h : SortP c R k words) (hx : (R k).why = x) (hs : x.size ≤ 9223372036854775807) (hc : cL R k (kS x) = 0) (hq : q ≤ words.length)
    (hhi : ∀ j, q ≤ j → j < words.length → behind c x (atT words j)) (hlo : 0 < q → ¬ behind c x (atT words (q - 1))) : SortP c R (k + 1) (words.take q ++ x :: words.drop q) := by
  obtain ⟨L, ws, rfl, h2, h3, h4⟩ := h
  subst hx
  rw [List.length_map] at hq
  have hat : ∀ (j : Nat) (hj : j < L.length), atT (L.map Wd.s) j = L[j].s := fun j hj => by
    have := atT_lt (xs := L.map Wd.s) (j := j) (by rw [List.length_map]; exact hj)
    rw [List.getElem?_map, List.getElem?_eq_getElem hj] at this
    injection this with this
    exact this.symm
  refine ⟨L.take q ++ ⟨(R k).why, hs⟩ :: L.drop q, ws ++ [⟨(R k).why, hs⟩], ?_, ?_, ?_, ?_⟩
  · rw [List.map_append, List.map_cons, List.map_take, List.map_drop]
  · rw [List.map_append, h2, dL_new hc]; rfl
  · exact (perm_put L _ q).trans (h3.append_right _)
  · refine sorted_put (swoW c) L _ q hq h4 (fun j hj hqj => ?_) (fun hq0 => ?_)
    · rw [lt_cfW]
      have := hhi j hqj (by rw [List.length_map]; exact hj)
      rw [hat j hj] at this
      exact this
    · rw [Bool.eq_false_iff, Ne, lt_cfW]
      have := hlo hq0
      rw [hat (q - 1) (by omega)] at this
      exact this
theorem map_s_inj : ∀ {a b : List Wd}, a.map Wd.s = b.map Wd.s → a = b
  | [], [], _ => rfl
  | [], _ :: _, h => by cases h
  | _ :: _, [], h => by cases h
  | x :: a, y :: b, h => by
    rw [List.map_cons, List.map_cons] at h
    injection h with h1 h2
    rw [map_s_inj h2, wd_inj (x := x) (y := y) (by rw [h1])]
theorem SortP.done {c : Lit → Int} {R : Nat → Lk} {n : Nat} {words : List ByteArray} (h : SortP c R n words) {ws : List Wd} (hw : ws.map Wd.s = dL R n) : words = (sortW c ws).map Wd.s := by
  obtain ⟨L, ws', rfl, h2, h3, h4⟩ := h
  have e := map_s_inj (h2.trans hw.symm)
  subst e
  congr 1
  have hm : (sortW c ws').Pairwise fun a b => ltOf (cfW c) b a = false := by
    have hS := swoW c
    have := List.pairwise_mergeSort (le := fun x y => !(ltOf (cfW c)) y x)
      (fun a b d h1 h2 => by
        simp only [Bool.not_eq_true'] at h1 h2 ⊢
        exact hS.ntrans _ _ _ h2 h1)
      (fun a b => by
        cases h1 : ltOf (cfW c) b a
        · simp
        · have := hS.asymmA h1
          simp [this]) ws'
    exact this.imp fun {a b} h => by simpa using h
  refine List.Perm.eq_of_pairwise (le := fun a b => ltOf (cfW c) b a = false) (fun a b _ _ h1 h2 => cfW_tot c a b h2 h1) h4 hm (h3.trans (List.mergeSort_perm ws' _).symm)
end Go.Proofs.YtmhelhjjadoiaaaDoor
