/- Stable sorting by blocks, as plain functions: runs, rotations, merging. No condition but those stated. -/
import Derived.Test.YtmhelhjjadoiaaaDoorBase
namespace Go.Proofs.YtmhelhjjadoiaaaDoor
set_option linter.unusedVariables false
section
variable {α : Type}
/-- The n elements from x on. -/
def seg (F : Nat → α) (x n : Nat) : List α := (List.range n).map fun i => F (x + i)
theorem seg_len (F : Nat → α) (x n : Nat) : (seg F x n).length = n := by simp [seg]
theorem seg_add (F : Nat → α) (x n m : Nat) : seg F x (n + m) = seg F x n ++ seg F (x + n) m := by
  unfold seg
  rw [List.range_add, List.map_append, List.map_map]
  congr 1
  apply List.map_congr_left
  intro i _
  show F (x + (n + i)) = F (x + n + i)
  rw [Nat.add_assoc]
theorem seg_congr {F G : Nat → α} {x y n : Nat} (h : ∀ i, i < n → F (x + i) = G (y + i)) : seg F x n = seg G y n := by
  unfold seg
  apply List.map_congr_left
  intro i hi
  exact h i (List.mem_range.1 hi)
/-- The runs [lo, m) and [m, hi), exchanged. -/
def rotF (F : Nat → α) (lo m hi : Nat) (i : Nat) : α := if lo ≤ i ∧ i < hi then (if i < lo + (hi - m) then F (m + (i - lo)) else F (i - (hi - m))) else F i
/-- Two runs of n elements, exchanged. -/
def swpF (F : Nat → α) (x y n : Nat) (i : Nat) : α := if x ≤ i ∧ i < x + n then F (y + (i - x)) else if y ≤ i ∧ i < y + n then F (x + (i - y)) else F i
theorem rot_trivL (F : Nat → α) {lo hi : Nat} : rotF F lo lo hi = F := by
  funext i
  unfold rotF
  split
  · split
    · congr 1; omega
    · omega
  · rfl
theorem rot_trivR (F : Nat → α) {lo hi : Nat} (h : lo ≤ hi) : rotF F lo hi hi = F := by
  funext i
  unfold rotF
  split
  · split
    · omega
    · congr 1; omega
  · rfl
theorem rot_swap (F : Nat → α) {lo m : Nat} (h : lo ≤ m) : rotF F lo m (m + (m - lo)) = swpF F lo m (m - lo) := by
  funext i
  unfold rotF swpF
  by_cases h1 : lo ≤ i ∧ i < m + (m - lo)
  · rw [if_pos h1]
    by_cases h2 : i < m
    · rw [if_pos (by omega), if_pos (by omega)]
    · rw [if_neg (by omega), if_neg (by omega), if_pos (by omega)]
      congr 1; omega
  · rw [if_neg h1, if_neg (by omega), if_neg (by omega)]
/-- The left run is the longer one: its first part changes places with the right run. -/
theorem rot_left (F : Nat → α) {m i j : Nat} (hi : i ≤ m) (h : j < i) : rotF F (m - i) m (m + j) = rotF (swpF F (m - i) m j) (m - i + j) m (m + j) := by
  funext q
  unfold rotF swpF
  by_cases h1 : m - i ≤ q ∧ q < m + j
  · rw [if_pos h1]
    by_cases h2 : q < m - i + j
    · rw [if_pos (by omega), if_neg (by omega), if_pos (by omega)]
    · rw [if_neg (by omega), if_pos (by omega)]
      by_cases h3 : q < m - i + j + j
      · rw [if_pos (by omega), if_neg (by omega), if_pos (by omega)]
        congr 1; omega
      · rw [if_neg (by omega), if_neg (by omega), if_neg (by omega)]
  · rw [if_neg h1, if_neg (by omega), if_neg (by omega), if_neg (by omega)]
/-- The right run is the longer one: its last part changes places with the left run. -/
theorem rot_right (F : Nat → α) {m i j : Nat} (hi : i ≤ m) (h : i < j) : rotF F (m - i) m (m + j) = rotF (swpF F (m - i) (m + j - i) i) (m - i) m (m + (j - i)) := by
  funext q
  unfold rotF swpF
  by_cases h1 : m - i ≤ q ∧ q < m + j
  · rw [if_pos h1]
    by_cases h2 : q < m + j - i
    · rw [if_pos (by omega)]
      by_cases h3 : q < m - i + (j - i)
      · rw [if_pos (by omega), if_pos (by omega), if_neg (by omega), if_neg (by omega)]
      · rw [if_pos (by omega), if_neg (by omega), if_pos (by omega)]
        congr 1; omega
    · rw [if_neg (by omega), if_neg (by omega), if_neg (by omega), if_pos (by omega)]
      congr 1; omega
  · rw [if_neg h1, if_neg (by omega), if_neg (by omega), if_neg (by omega)]
theorem rot_in (F : Nat → α) {lo m hi i : Nat} (h : ¬ (lo ≤ i ∧ i < hi)) : rotF F lo m hi i = F i := by unfold rotF; rw [if_neg h]
theorem rot_perm (F : Nat → α) {lo m hi n : Nat} (h1 : lo ≤ m) (h2 : m ≤ hi) (h3 : hi ≤ n) : (seg (rotF F lo m hi) 0 n).Perm (seg F 0 n) := by
  have e : n = lo + ((m - lo) + (hi - m)) + (n - hi) := by omega
  have e2 : n = lo + ((hi - m) + (m - lo)) + (n - hi) := by omega
  have a : seg F 0 n = seg F 0 lo ++ (seg F lo (m - lo) ++ seg F m (hi - m)) ++ seg F hi (n - hi) := by
    rw [e, seg_add, seg_add, seg_add]
    have e3 : 0 + lo + (m - lo) = m := by omega
    have e4 : 0 + (lo + (m - lo + (hi - m))) = hi := by omega
    have e5 : lo + (m - lo + (hi - m)) + (n - hi) - hi = n - hi := by omega
    rw [e3, e4, e5, Nat.zero_add]
  have b : seg (rotF F lo m hi) 0 n = seg F 0 lo ++ (seg F m (hi - m) ++ seg F lo (m - lo)) ++ seg F hi (n - hi) := by
    rw [e2, seg_add, seg_add, seg_add]
    have e4 : 0 + (lo + (hi - m + (m - lo))) = hi := by omega
    have e5 : lo + (hi - m + (m - lo)) + (n - hi) - hi = n - hi := by omega
    rw [e4, e5, Nat.zero_add]
    congr 1
    · congr 1
      · exact seg_congr fun i hi' => by rw [rot_in F (by omega)]
      · congr 1
        · exact seg_congr fun i hi' => by unfold rotF; rw [if_pos (by omega), if_pos (by omega)]; congr 1; omega
        · exact seg_congr fun i hi' => by unfold rotF; rw [if_pos (by omega), if_neg (by omega)]; congr 1; omega
    · exact seg_congr fun i hi' => by rw [rot_in F (by omega)]
  rw [a, b]
  exact (List.Perm.append_left _ List.perm_append_comm).append_right _
/-- Sorted from a up to b. -/
def SrtF (key : α → Int) (F : Nat → α) (a b : Nat) : Prop := ∀ i j, a ≤ i → i ≤ j → j < b → key (F i) ≤ key (F j)
theorem SrtF.sub {key : α → Int} {F : Nat → α} {a b c d : Nat} (h : SrtF key F a b) (h1 : a ≤ c) (h2 : d ≤ b) : SrtF key F c d := fun i j hi hj hd => h i j (by omega) hj (by omega)
theorem SrtF.eq {key : α → Int} {F G : Nat → α} {a b : Nat} (h : SrtF key F a b) (e : ∀ i, a ≤ i → i < b → G i = F i) : SrtF key G a b := fun i j hi hj hd => by
  rw [e i hi (by omega), e j (by omega) hd]; exact h i j hi hj hd
/-- Two sorted parts of which the left one is nowhere greater. -/
theorem SrtF.join {key : α → Int} {F : Nat → α} {a m b : Nat} (h1 : SrtF key F a m) (h2 : SrtF key F m b) (h : ∀ i j, a ≤ i → i < m → m ≤ j → j < b → key (F i) ≤ key (F j)) : SrtF key F a b := fun i j hi hj hd => by
  by_cases e1 : j < m
  · exact h1 i j hi hj e1
  · by_cases e2 : m ≤ i
    · exact h2 i j e2 hj hd
    · exact h i j hi (by omega) (by omega) hd
/-- What the merging of two sorted runs has done. -/
structure MrgF (key : α → Int) (F G : Nat → α) (a b n : Nat) : Prop where
  so : SrtF key G a b
  pe : (seg G 0 n).Perm (seg F 0 n)
  me : ∀ i, a ≤ i → i < b → ∃ j, a ≤ j ∧ j < b ∧ G i = F j
  ou : ∀ i, ¬ (a ≤ i ∧ i < b) → G i = F i
/-- What splits the two runs for the rotation. -/
structure CutF (key : α → Int) (F : Nat → α) (a m b mid s e : Nat) : Prop where
  sum : s + e = mid + m
  as_ : a ≤ s
  sm : s ≤ m
  smid : s ≤ mid
  me : m ≤ e
  eb : e ≤ b
  low : a < s → e < b → key (F (s - 1)) ≤ key (F e)
  up : s < m → m < e → key (F (e - 1)) ≤ key (F s)
theorem cut_parts {key : α → Int} {F : Nat → α} {a m b mid s e : Nat} (h1 : SrtF key F a m) (h2 : SrtF key F m b) (hc : CutF key F a m b mid s e) (hm : a < mid) (hb : mid < b) :
    SrtF key (rotF F s m e) a s ∧ SrtF key (rotF F s m e) s mid ∧ SrtF key (rotF F s m e) mid e ∧ SrtF key (rotF F s m e) e b ∧
    ∀ i j, a ≤ i → i < mid → mid ≤ j → j < b → key (rotF F s m e i) ≤ key (rotF F s m e j) := by
  obtain ⟨sum, as_, sm, smid, me, eb, low, up⟩ := hc
  have r1 : ∀ i, i < s → rotF F s m e i = F i := fun i hi => rot_in F (by omega)
  have r2 : ∀ i, s ≤ i → i < mid → rotF F s m e i = F (m + (i - s)) := fun i hi hj => by unfold rotF; rw [if_pos (by omega), if_pos (by omega)]
  have r3 : ∀ i, mid ≤ i → i < e → rotF F s m e i = F (i - (e - m)) := fun i hi hj => by unfold rotF; rw [if_pos (by omega), if_neg (by omega)]
  have r4 : ∀ i, e ≤ i → rotF F s m e i = F i := fun i hi => rot_in F (by omega)
  refine ⟨?_, ?_, ?_, ?_, ?_⟩
  · intro i j hi hj hd
    rw [r1 i (by omega), r1 j hd]; exact h1 i j hi hj (by omega)
  · intro i j hi hj hd
    rw [r2 i hi (by omega), r2 j (by omega) hd]; exact h2 _ _ (by omega) (by omega) (by omega)
  · intro i j hi hj hd
    rw [r3 i hi (by omega), r3 j (by omega) hd]; exact h1 _ _ (by omega) (by omega) (by omega)
  · intro i j hi hj hd
    rw [r4 i hi, r4 j (by omega)]; exact h2 i j (by omega) hj hd
  · intro i j hi him hj hjb
    by_cases c1 : i < s
    · rw [r1 i c1]
      by_cases c2 : j < e
      · rw [r3 j hj c2]; exact h1 _ _ hi (by omega) (by omega)
      · rw [r4 j (by omega)]
        have := low (by omega) (by omega)
        have k1 := h1 i (s - 1) hi (by omega) (by omega)
        have k2 := h2 e j (by omega) (by omega) hjb
        omega
    · rw [r2 i (by omega) him]
      by_cases c2 : j < e
      · rw [r3 j hj c2]
        have := up (by omega) (by omega)
        have k1 := h2 (m + (i - s)) (e - 1) (by omega) (by omega) (by omega)
        have k2 := h1 s (j - (e - m)) (by omega) (by omega) (by omega)
        omega
      · rw [r4 j (by omega)]
        exact h2 _ _ (by omega) (by omega) hjb
theorem rot_from (F : Nat → α) {s m e i : Nat} (h1 : s ≤ m) (h2 : m ≤ e) (h : s ≤ i ∧ i < e) : ∃ j, s ≤ j ∧ j < e ∧ rotF F s m e i = F j := by
  unfold rotF
  rw [if_pos h]
  split
  · exact ⟨m + (i - s), by omega, by omega, rfl⟩
  · exact ⟨i - (e - m), by omega, by omega, rfl⟩
/-- The two halves merged, the whole is merged. -/
theorem mrg_halves {key : α → Int} {F G H : Nat → α} {a m b mid s e n : Nat} (h1 : SrtF key F a m) (h2 : SrtF key F m b) (hc : CutF key F a m b mid s e) (hm : a < mid) (hb : mid < b) (hn : b ≤ n)
    (hG : MrgF key (rotF F s m e) G a mid n) (hH : MrgF key G H mid b n) : MrgF key F H a b n := by
  obtain ⟨_, _, _, _, hle⟩ := cut_parts h1 h2 hc hm hb
  have hsm := hc.sm
  have hme := hc.me
  have heb := hc.eb
  have has := hc.as_
  have hl : ∀ i, a ≤ i → i < mid → ∃ j, a ≤ j ∧ j < mid ∧ H i = rotF F s m e j := fun i h3 h4 => by
    rw [hH.ou i (by omega)]; exact hG.me i h3 h4
  have hr : ∀ i, mid ≤ i → i < b → ∃ j, mid ≤ j ∧ j < b ∧ H i = rotF F s m e j := fun i h3 h4 => by
    obtain ⟨j, h5, h6, h7⟩ := hH.me i h3 h4
    exact ⟨j, h5, h6, by rw [h7, hG.ou j (by omega)]⟩
  have hall : ∀ j, a ≤ j → j < b → ∃ q, a ≤ q ∧ q < b ∧ rotF F s m e j = F q := fun j h3 h4 => by
    by_cases c : s ≤ j ∧ j < e
    · obtain ⟨q, q1, q2, q3⟩ := rot_from F hsm hme c
      exact ⟨q, by omega, by omega, q3⟩
    · exact ⟨j, h3, h4, rot_in F c⟩
  refine ⟨?_, (hH.pe.trans hG.pe).trans (rot_perm F hsm hme (by omega)), ?_, ?_⟩
  · refine SrtF.join (m := mid) (hG.so.eq fun i h3 h4 => hH.ou i (by omega)) hH.so fun i j h3 h4 h5 h6 => ?_
    obtain ⟨p, p1, p2, p3⟩ := hl i h3 h4
    obtain ⟨q, q1, q2, q3⟩ := hr j h5 h6
    rw [p3, q3]
    exact hle p q p1 p2 q1 q2
  · intro i h3 h4
    by_cases c : i < mid
    · obtain ⟨p, p1, p2, p3⟩ := hl i h3 c
      rw [p3]; exact hall p p1 (by omega)
    · obtain ⟨p, p1, p2, p3⟩ := hr i (by omega) h4
      rw [p3]; exact hall p (by omega) p2
  · intro i h3
    rw [hH.ou i (by omega), hG.ou i (by omega), rot_in F (by omega)]
theorem MrgF.refl {key : α → Int} {F : Nat → α} {a b n : Nat} (h : SrtF key F a b) : MrgF key F F a b n := ⟨h, List.Perm.refl _, fun i h1 h2 => ⟨i, h1, h2, rfl⟩, fun _ _ => rfl⟩
/-- One element put into a sorted run behind it. -/
theorem mrg_first {key : α → Int} {F : Nat → α} {a b i n : Nat} (h2 : SrtF key F (a + 1) b) (h3 : a + 1 ≤ i) (h4 : i ≤ b) (hlo : a + 1 < i → key (F (i - 1)) ≤ key (F a)) (hhi : i < b → key (F a) ≤ key (F i)) (hn : b ≤ n) :
    MrgF key F (rotF F a (a + 1) i) a b n := by
  have r1 : ∀ q, a ≤ q → q < i - 1 → rotF F a (a + 1) i q = F (q + 1) := fun q hq hq2 => by unfold rotF; rw [if_pos (by omega), if_pos (by omega)]; congr 1; omega
  have r2 : rotF F a (a + 1) i (i - 1) = F a := by unfold rotF; rw [if_pos (by omega), if_neg (by omega)]; congr 1; omega
  have r3 : ∀ q, i ≤ q → rotF F a (a + 1) i q = F q := fun q hq => rot_in F (by omega)
  refine ⟨fun p q hp hpq hq => ?_, rot_perm F (by omega) (by omega) (by omega), fun q hq hq2 => ?_, fun q hq => rot_in F (by omega)⟩
  · rcases Nat.lt_trichotomy p (i - 1) with c1 | c1 | c1
    · rw [r1 p hp c1]
      rcases Nat.lt_trichotomy q (i - 1) with c2 | c2 | c2
      · rw [r1 q (by omega) c2]; exact h2 _ _ (by omega) (by omega) (by omega)
      · subst c2
        rw [r2]
        have k1 := h2 (p + 1) (i - 1) (by omega) (by omega) (by omega)
        have := hlo (by omega)
        omega
      · rw [r3 q (by omega)]; exact h2 _ _ (by omega) (by omega) hq
    · subst c1
      rw [r2]
      rcases Nat.lt_or_ge (i - 1) q with c2 | c2
      · rw [r3 q (by omega)]
        have k1 := h2 i q (by omega) (by omega) hq
        have := hhi (by omega)
        omega
      · have : q = i - 1 := by omega
        subst this
        rw [r2]; exact Int.le_refl _
    · rw [r3 p (by omega), r3 q (by omega)]; exact h2 _ _ (by omega) hpq hq
  · by_cases c : a ≤ q ∧ q < i
    · obtain ⟨j, j1, j2, j3⟩ := rot_from F (s := a) (m := a + 1) (e := i) (by omega) h3 c
      exact ⟨j, j1, by omega, j3⟩
    · exact ⟨q, hq, hq2, rot_in F c⟩
/-- One element put into a sorted run before it. -/
theorem mrg_last {key : α → Int} {F : Nat → α} {a m i n : Nat} (h1 : SrtF key F a m) (h3 : a ≤ i) (h4 : i ≤ m) (hlo : a < i → key (F (i - 1)) ≤ key (F m)) (hhi : i < m → key (F m) ≤ key (F i)) (hn : m + 1 ≤ n) :
    MrgF key F (rotF F i m (m + 1)) a (m + 1) n := by
  have r1 : ∀ q, q < i → rotF F i m (m + 1) q = F q := fun q hq => rot_in F (by omega)
  have r2 : rotF F i m (m + 1) i = F m := by unfold rotF; rw [if_pos (by omega), if_pos (by omega)]; congr 1; omega
  have r3 : ∀ q, i < q → q < m + 1 → rotF F i m (m + 1) q = F (q - 1) := fun q hq hq2 => by unfold rotF; rw [if_pos (by omega), if_neg (by omega)]; congr 1; omega
  refine ⟨fun p q hp hpq hq => ?_, rot_perm F h4 (by omega) (by omega), fun q hq hq2 => ?_, fun q hq => rot_in F (by omega)⟩
  · rcases Nat.lt_trichotomy p i with c1 | c1 | c1
    · rw [r1 p c1]
      rcases Nat.lt_trichotomy q i with c2 | c2 | c2
      · rw [r1 q c2]; exact h1 _ _ hp hpq (by omega)
      · subst c2
        rw [r2]
        have k1 := h1 p (q - 1) hp (by omega) (by omega)
        have := hlo (by omega)
        omega
      · rw [r3 q c2 hq]; exact h1 _ _ hp (by omega) (by omega)
    · subst c1
      rw [r2]
      rcases Nat.lt_or_ge p q with c2 | c2
      · rw [r3 q c2 hq]
        have k1 := h1 p (q - 1) (by omega) (by omega) (by omega)
        have := hhi (by omega)
        omega
      · have : q = p := by omega
        subst this
        rw [r2]; exact Int.le_refl _
    · rw [r3 p c1 (by omega), r3 q (by omega) hq]; exact h1 _ _ (by omega) (by omega) (by omega)
  · by_cases c : i ≤ q ∧ q < m + 1
    · obtain ⟨j, j1, j2, j3⟩ := rot_from F (s := i) (m := m) (e := m + 1) h4 (by omega) c
      exact ⟨j, by omega, j2, j3⟩
    · exact ⟨q, hq, hq2, rot_in F c⟩
end
end Go.Proofs.YtmhelhjjadoiaaaDoor
