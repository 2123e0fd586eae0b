/- Texts of this claim in one: Sym, Mrg, MgA, MgB, MgC, MgD. No condition but those stated. -/
import Derived.Test.YtmhelhjjadoiaaaGreatDoorBase
import Derived.Test.YtmhelhjjadoiaaaGreatDoorIns
import Derived.Test.YtmhelhjjadoiaaaGreatDoorLkR
import Derived.Test.YtmhelhjjadoiaaaGreatDoorCmp
import Derived.BigRegion
/- Stable sorting by blocks, as plain functions: runs, rotations, merging. No condition but those stated. -/
namespace Go.Proofs.YtmhelhjjadoiaaaGreatDoor
set_option linter.unusedVariables false
section
variable {α : Type}
/-- The n elements from x on. -/
def seg (F : Nat → α) (x n : Nat) : List α := (List.range n).map fun i => F (x + i)
theorem seg_len (F : Nat → α) (x n : Nat) : (seg F x n).length = n := by simp [seg]
theorem seg_add (F : Nat → α) (x n m : Nat) : seg F x (n + m) = seg F x n ++ seg F (x + n) m := by
  unfold seg
  rw [List.range_add, List.map_append, List.map_map]
  congr 1
  apply List.map_congr_left
  intro i _
  show F (x + (n + i)) = F (x + n + i)
  rw [Nat.add_assoc]
theorem seg_congr {F G : Nat → α} {x y n : Nat} (h : ∀ i, i < n → F (x + i) = G (y + i)) : seg F x n = seg G y n := by
  unfold seg
  apply List.map_congr_left
  intro i hi
  exact h i (List.mem_range.1 hi)
/-- The runs [lo, m) and [m, hi), exchanged. -/
def rotF (F : Nat → α) (lo m hi : Nat) (i : Nat) : α := if lo ≤ i ∧ i < hi then (if i < lo + (hi - m) then F (m + (i - lo)) else F (i - (hi - m))) else F i
/-- Two runs of n elements, exchanged. -/
def swpF (F : Nat → α) (x y n : Nat) (i : Nat) : α := if x ≤ i ∧ i < x + n then F (y + (i - x)) else if y ≤ i ∧ i < y + n then F (x + (i - y)) else F i
theorem rot_trivL (F : Nat → α) {lo hi : Nat} : rotF F lo lo hi = F := by
  funext i
  unfold rotF
  split
  · split
    · congr 1; omega
    · omega
  · rfl
theorem rot_trivR (F : Nat → α) {lo hi : Nat} (h : lo ≤ hi) : rotF F lo hi hi = F := by
  funext i
  unfold rotF
  split
  · split
    · omega
    · congr 1; omega
  · rfl
theorem rot_swap (F : Nat → α) {lo m : Nat} (h : lo ≤ m) : rotF F lo m (m + (m - lo)) = swpF F lo m (m - lo) := by
  funext i
  unfold rotF swpF
  by_cases h1 : lo ≤ i ∧ i < m + (m - lo)
  · rw [if_pos h1]
    by_cases h2 : i < m
    · rw [if_pos (by omega), if_pos (by omega)]
    · rw [if_neg (by omega), if_neg (by omega), if_pos (by omega)]
      congr 1; omega
  · rw [if_neg h1, if_neg (by omega), if_neg (by omega)]
/-- The left run is the longer one: its first part changes places with the right run. -/
theorem rot_left (F : Nat → α) {m i j : Nat} (hi : i ≤ m) (h : j < i) : rotF F (m - i) m (m + j) = rotF (swpF F (m - i) m j) (m - i + j) m (m + j) := by
  funext q
  unfold rotF swpF
  by_cases h1 : m - i ≤ q ∧ q < m + j
  · rw [if_pos h1]
    by_cases h2 : q < m - i + j
    · rw [if_pos (by omega), if_neg (by omega), if_pos (by omega)]
    · rw [if_neg (by omega), if_pos (by omega)]
      by_cases h3 : q < m - i + j + j
      · rw [if_pos (by omega), if_neg (by omega), if_pos (by omega)]
        congr 1; omega
      · rw [if_neg (by omega), if_neg (by omega), if_neg (by omega)]
  · rw [if_neg h1, if_neg (by omega), if_neg (by omega), if_neg (by omega)]
/-- The right run is the longer one: its last part changes places with the left run. -/
theorem rot_right (F : Nat → α) {m i j : Nat} (hi : i ≤ m) (h : i < j) : rotF F (m - i) m (m + j) = rotF (swpF F (m - i) (m + j - i) i) (m - i) m (m + (j - i)) := by
  funext q
  unfold rotF swpF
  by_cases h1 : m - i ≤ q ∧ q < m + j
  · rw [if_pos h1]
    by_cases h2 : q < m + j - i
    · rw [if_pos (by omega)]
      by_cases h3 : q < m - i + (j - i)
      · rw [if_pos (by omega), if_pos (by omega), if_neg (by omega), if_neg (by omega)]
      · rw [if_pos (by omega), if_neg (by omega), if_pos (by omega)]
        congr 1; omega
    · rw [if_neg (by omega), if_neg (by omega), if_neg (by omega), if_pos (by omega)]
      congr 1; omega
  · rw [if_neg h1, if_neg (by omega), if_neg (by omega), if_neg (by omega)]
theorem rot_in (F : Nat → α) {lo m hi i : Nat} (h : ¬ (lo ≤ i ∧ i < hi)) : rotF F lo m hi i = F i := by unfold rotF; rw [if_neg h]
theorem rot_perm (F : Nat → α) {lo m hi n : Nat} (h1 : lo ≤ m) (h2 : m ≤ hi) (h3 : hi ≤ n) : (seg (rotF F lo m hi) 0 n).Perm (seg F 0 n) := by
  have e : n = lo + ((m - lo) + (hi - m)) + (n - hi) := by omega
  have e2 : n = lo + ((hi - m) + (m - lo)) + (n - hi) := by omega
  have a : seg F 0 n = seg F 0 lo ++ (seg F lo (m - lo) ++ seg F m (hi - m)) ++ seg F hi (n - hi) := by
    rw [e, seg_add, seg_add, seg_add]
    have e3 : 0 + lo + (m - lo) = m := by omega
    have e4 : 0 + (lo + (m - lo + (hi - m))) = hi := by omega
    have e5 : lo + (m - lo + (hi - m)) + (n - hi) - hi = n - hi := by omega
    rw [e3, e4, e5, Nat.zero_add]
  have b : seg (rotF F lo m hi) 0 n = seg F 0 lo ++ (seg F m (hi - m) ++ seg F lo (m - lo)) ++ seg F hi (n - hi) := by
    rw [e2, seg_add, seg_add, seg_add]
    have e4 : 0 + (lo + (hi - m + (m - lo))) = hi := by omega
    have e5 : lo + (hi - m + (m - lo)) + (n - hi) - hi = n - hi := by omega
    rw [e4, e5, Nat.zero_add]
    congr 1
    · congr 1
      · exact seg_congr fun i hi' => by rw [rot_in F (by omega)]
      · congr 1
        · exact seg_congr fun i hi' => by unfold rotF; rw [if_pos (by omega), if_pos (by omega)]; congr 1; omega
        · exact seg_congr fun i hi' => by unfold rotF; rw [if_pos (by omega), if_neg (by omega)]; congr 1; omega
    · exact seg_congr fun i hi' => by rw [rot_in F (by omega)]
  rw [a, b]
  exact (List.Perm.append_left _ List.perm_append_comm).append_right _
/-- Sorted from a up to b. -/
def SrtF (key : α → Int) (F : Nat → α) (a b : Nat) : Prop := ∀ i j, a ≤ i → i ≤ j → j < b → key (F i) ≤ key (F j)
theorem SrtF.sub {key : α → Int} {F : Nat → α} {a b c d : Nat} (h : SrtF key F a b) (h1 : a ≤ c) (h2 : d ≤ b) : SrtF key F c d := fun i j hi hj hd => h i j (by omega) hj (by omega)
theorem SrtF.eq {key : α → Int} {F G : Nat → α} {a b : Nat} (h : SrtF key F a b) (e : ∀ i, a ≤ i → i < b → G i = F i) : SrtF key G a b := fun i j hi hj hd => by
  rw [e i hi (by omega), e j (by omega) hd]; exact h i j hi hj hd
/-- Two sorted parts of which the left one is nowhere greater. -/
theorem SrtF.join {key : α → Int} {F : Nat → α} {a m b : Nat} (h1 : SrtF key F a m) (h2 : SrtF key F m b) (h : ∀ i j, a ≤ i → i < m → m ≤ j → j < b → key (F i) ≤ key (F j)) : SrtF key F a b := fun i j hi hj hd => by
  by_cases e1 : j < m
  · exact h1 i j hi hj e1
  · by_cases e2 : m ≤ i
    · exact h2 i j e2 hj hd
    · exact h i j hi (by omega) (by omega) hd
/-- What the merging of two sorted runs has done. -/
structure MrgF (key : α → Int) (F G : Nat → α) (a b n : Nat) : Prop where
  so : SrtF key G a b
  pe : (seg G 0 n).Perm (seg F 0 n)
  me : ∀ i, a ≤ i → i < b → ∃ j, a ≤ j ∧ j < b ∧ G i = F j
  ou : ∀ i, ¬ (a ≤ i ∧ i < b) → G i = F i
/-- What splits the two runs for the rotation. -/
structure CutF (key : α → Int) (F : Nat → α) (a m b mid s e : Nat) : Prop where
  sum : s + e = mid + m
  as_ : a ≤ s
  sm : s ≤ m
  smid : s ≤ mid
  me : m ≤ e
  eb : e ≤ b
  low : a < s → e < b → key (F (s - 1)) ≤ key (F e)
  up : s < m → m < e → key (F (e - 1)) ≤ key (F s)
theorem cut_parts {key : α → Int} {F : Nat → α} {a m b mid s e : Nat} (h1 : SrtF key F a m) (h2 : SrtF key F m b) (hc : CutF key F a m b mid s e) (hm : a < mid) (hb : mid < b) :
    SrtF key (rotF F s m e) a s ∧ SrtF key (rotF F s m e) s mid ∧ SrtF key (rotF F s m e) mid e ∧ SrtF key (rotF F s m e) e b ∧
    ∀ i j, a ≤ i → i < mid → mid ≤ j → j < b → key (rotF F s m e i) ≤ key (rotF F s m e j) := by
  obtain ⟨sum, as_, sm, smid, me, eb, low, up⟩ := hc
  have r1 : ∀ i, i < s → rotF F s m e i = F i := fun i hi => rot_in F (by omega)
  have r2 : ∀ i, s ≤ i → i < mid → rotF F s m e i = F (m + (i - s)) := fun i hi hj => by unfold rotF; rw [if_pos (by omega), if_pos (by omega)]
  have r3 : ∀ i, mid ≤ i → i < e → rotF F s m e i = F (i - (e - m)) := fun i hi hj => by unfold rotF; rw [if_pos (by omega), if_neg (by omega)]
  have r4 : ∀ i, e ≤ i → rotF F s m e i = F i := fun i hi => rot_in F (by omega)
  refine ⟨?_, ?_, ?_, ?_, ?_⟩
  · intro i j hi hj hd
    rw [r1 i (by omega), r1 j hd]; exact h1 i j hi hj (by omega)
  · intro i j hi hj hd
    rw [r2 i hi (by omega), r2 j (by omega) hd]; exact h2 _ _ (by omega) (by omega) (by omega)
  · intro i j hi hj hd
    rw [r3 i hi (by omega), r3 j (by omega) hd]; exact h1 _ _ (by omega) (by omega) (by omega)
  · intro i j hi hj hd
    rw [r4 i hi, r4 j (by omega)]; exact h2 i j (by omega) hj hd
  · intro i j hi him hj hjb
    by_cases c1 : i < s
    · rw [r1 i c1]
      by_cases c2 : j < e
      · rw [r3 j hj c2]; exact h1 _ _ hi (by omega) (by omega)
      · rw [r4 j (by omega)]
        have := low (by omega) (by omega)
        have k1 := h1 i (s - 1) hi (by omega) (by omega)
        have k2 := h2 e j (by omega) (by omega) hjb
        omega
    · rw [r2 i (by omega) him]
      by_cases c2 : j < e
      · rw [r3 j hj c2]
        have := up (by omega) (by omega)
        have k1 := h2 (m + (i - s)) (e - 1) (by omega) (by omega) (by omega)
        have k2 := h1 s (j - (e - m)) (by omega) (by omega) (by omega)
        omega
      · rw [r4 j (by omega)]
        exact h2 _ _ (by omega) (by omega) hjb
theorem rot_from (F : Nat → α) {s m e i : Nat} (h1 : s ≤ m) (h2 : m ≤ e) (h : s ≤ i ∧ i < e) : ∃ j, s ≤ j ∧ j < e ∧ rotF F s m e i = F j := by
  unfold rotF
  rw [if_pos h]
  split
  · exact ⟨m + (i - s), by omega, by omega, rfl⟩
  · exact ⟨i - (e - m), by omega, by omega, rfl⟩
/-- The two halves merged, the whole is merged. -/
theorem mrg_halves {key : α → Int} {F G H : Nat → α} {a m b mid s e n : Nat} (h1 : SrtF key F a m) (h2 : SrtF key F m b) (hc : CutF key F a m b mid s e) (hm : a < mid) (hb : mid < b) (hn : b ≤ n)
    (hG : MrgF key (rotF F s m e) G a mid n) (hH : MrgF key G H mid b n) : MrgF key F H a b n := by
  obtain ⟨_, _, _, _, hle⟩ := cut_parts h1 h2 hc hm hb
  have hsm := hc.sm
  have hme := hc.me
  have heb := hc.eb
  have has := hc.as_
  have hl : ∀ i, a ≤ i → i < mid → ∃ j, a ≤ j ∧ j < mid ∧ H i = rotF F s m e j := fun i h3 h4 => by
    rw [hH.ou i (by omega)]; exact hG.me i h3 h4
  have hr : ∀ i, mid ≤ i → i < b → ∃ j, mid ≤ j ∧ j < b ∧ H i = rotF F s m e j := fun i h3 h4 => by
    obtain ⟨j, h5, h6, h7⟩ := hH.me i h3 h4
    exact ⟨j, h5, h6, by rw [h7, hG.ou j (by omega)]⟩
  have hall : ∀ j, a ≤ j → j < b → ∃ q, a ≤ q ∧ q < b ∧ rotF F s m e j = F q := fun j h3 h4 => by
    by_cases c : s ≤ j ∧ j < e
    · obtain ⟨q, q1, q2, q3⟩ := rot_from F hsm hme c
      exact ⟨q, by omega, by omega, q3⟩
    · exact ⟨j, h3, h4, rot_in F c⟩
  refine ⟨?_, (hH.pe.trans hG.pe).trans (rot_perm F hsm hme (by omega)), ?_, ?_⟩
  · refine SrtF.join (m := mid) (hG.so.eq fun i h3 h4 => hH.ou i (by omega)) hH.so fun i j h3 h4 h5 h6 => ?_
    obtain ⟨p, p1, p2, p3⟩ := hl i h3 h4
    obtain ⟨q, q1, q2, q3⟩ := hr j h5 h6
    rw [p3, q3]
    exact hle p q p1 p2 q1 q2
  · intro i h3 h4
    by_cases c : i < mid
    · obtain ⟨p, p1, p2, p3⟩ := hl i h3 c
      rw [p3]; exact hall p p1 (by omega)
    · obtain ⟨p, p1, p2, p3⟩ := hr i (by omega) h4
      rw [p3]; exact hall p (by omega) p2
  · intro i h3
    rw [hH.ou i (by omega), hG.ou i (by omega), rot_in F (by omega)]
theorem MrgF.refl {key : α → Int} {F : Nat → α} {a b n : Nat} (h : SrtF key F a b) : MrgF key F F a b n := ⟨h, List.Perm.refl _, fun i h1 h2 => ⟨i, h1, h2, rfl⟩, fun _ _ => rfl⟩
/-- One element put into a sorted run behind it. -/
theorem mrg_first {key : α → Int} {F : Nat → α} {a b i n : Nat} (h2 : SrtF key F (a + 1) b) (h3 : a + 1 ≤ i) (h4 : i ≤ b) (hlo : a + 1 < i → key (F (i - 1)) ≤ key (F a)) (hhi : i < b → key (F a) ≤ key (F i)) (hn : b ≤ n) :
    MrgF key F (rotF F a (a + 1) i) a b n := by
  have r1 : ∀ q, a ≤ q → q < i - 1 → rotF F a (a + 1) i q = F (q + 1) := fun q hq hq2 => by unfold rotF; rw [if_pos (by omega), if_pos (by omega)]; congr 1; omega
  have r2 : rotF F a (a + 1) i (i - 1) = F a := by unfold rotF; rw [if_pos (by omega), if_neg (by omega)]; congr 1; omega
  have r3 : ∀ q, i ≤ q → rotF F a (a + 1) i q = F q := fun q hq => rot_in F (by omega)
  refine ⟨fun p q hp hpq hq => ?_, rot_perm F (by omega) (by omega) (by omega), fun q hq hq2 => ?_, fun q hq => rot_in F (by omega)⟩
  · rcases Nat.lt_trichotomy p (i - 1) with c1 | c1 | c1
    · rw [r1 p hp c1]
      rcases Nat.lt_trichotomy q (i - 1) with c2 | c2 | c2
      · rw [r1 q (by omega) c2]; exact h2 _ _ (by omega) (by omega) (by omega)
      · subst c2
        rw [r2]
        have k1 := h2 (p + 1) (i - 1) (by omega) (by omega) (by omega)
        have := hlo (by omega)
        omega
      · rw [r3 q (by omega)]; exact h2 _ _ (by omega) (by omega) hq
    · subst c1
      rw [r2]
      rcases Nat.lt_or_ge (i - 1) q with c2 | c2
      · rw [r3 q (by omega)]
        have k1 := h2 i q (by omega) (by omega) hq
        have := hhi (by omega)
        omega
      · have : q = i - 1 := by omega
        subst this
        rw [r2]; exact Int.le_refl _
    · rw [r3 p (by omega), r3 q (by omega)]; exact h2 _ _ (by omega) hpq hq
  · by_cases c : a ≤ q ∧ q < i
    · obtain ⟨j, j1, j2, j3⟩ := rot_from F (s := a) (m := a + 1) (e := i) (by omega) h3 c
      exact ⟨j, j1, by omega, j3⟩
    · exact ⟨q, hq, hq2, rot_in F c⟩
/-- One element put into a sorted run before it. -/
theorem mrg_last {key : α → Int} {F : Nat → α} {a m i n : Nat} (h1 : SrtF key F a m) (h3 : a ≤ i) (h4 : i ≤ m) (hlo : a < i → key (F (i - 1)) ≤ key (F m)) (hhi : i < m → key (F m) ≤ key (F i)) (hn : m + 1 ≤ n) :
    MrgF key F (rotF F i m (m + 1)) a (m + 1) n := by
  have r1 : ∀ q, q < i → rotF F i m (m + 1) q = F q := fun q hq => rot_in F (by omega)
  have r2 : rotF F i m (m + 1) i = F m := by unfold rotF; rw [if_pos (by omega), if_pos (by omega)]; congr 1; omega
  have r3 : ∀ q, i < q → q < m + 1 → rotF F i m (m + 1) q = F (q - 1) := fun q hq hq2 => by unfold rotF; rw [if_pos (by omega), if_neg (by omega)]; congr 1; omega
  refine ⟨fun p q hp hpq hq => ?_, rot_perm F h4 (by omega) (by omega), fun q hq hq2 => ?_, fun q hq => rot_in F (by omega)⟩
  · rcases Nat.lt_trichotomy p i with c1 | c1 | c1
    · rw [r1 p c1]
      rcases Nat.lt_trichotomy q i with c2 | c2 | c2
      · rw [r1 q c2]; exact h1 _ _ hp hpq (by omega)
      · subst c2
        rw [r2]
        have k1 := h1 p (q - 1) hp (by omega) (by omega)
        have := hlo (by omega)
        omega
      · rw [r3 q c2 hq]; exact h1 _ _ hp (by omega) (by omega)
    · subst c1
      rw [r2]
      rcases Nat.lt_or_ge p q with c2 | c2
      · rw [r3 q c2 hq]
        have k1 := h1 p (q - 1) (by omega) (by omega) (by omega)
        have := hhi (by omega)
        omega
      · have : q = p := by omega
        subst this
        rw [r2]; exact Int.le_refl _
    · rw [r3 p c1 (by omega), r3 q (by omega) hq]; exact h1 _ _ (by omega) (by omega) (by omega)
  · by_cases c : i ≤ q ∧ q < m + 1
    · obtain ⟨j, j1, j2, j3⟩ := rot_from F (s := i) (m := m) (e := m + 1) h4 (by omega) c
      exact ⟨j, by omega, j2, j3⟩
    · exact ⟨q, hq, hq2, rot_in F c⟩
end
end Go.Proofs.YtmhelhjjadoiaaaGreatDoor

/- Merging two rising lists, each element once, as plain lists. No condition but those stated. -/
namespace Go.Proofs.YtmhelhjjadoiaaaGreatDoor
set_option linter.unusedVariables false
section
variable {α : Type} (key : α → Int) (eqb : α → α → Bool)
/-- Strictly rising by the key. -/
def Str (l : List α) : Prop := l.Pairwise fun x y => key x < key y
/-- The first place whose element is not smaller. -/
def idxI (l : List α) (x : α) : Nat := (l.takeWhile fun y => decide (key y < key x)).length
def mIns [Inhabited α] (l : List α) (x : α) : List α := if decide (idxI key l x < l.length) && eqb (atE l (idxI key l x)) x then l else insAt l (idxI key l x) x
def mrgL [Inhabited α] (a b : List α) : List α := b.foldl (mIns key eqb) a
/-- The first k elements of F, of neighbours that are the same the first alone. -/
def ddU (F : Nat → α) : Nat → List α
  | 0 => []
  | k + 1 => ddU F k ++ (if decide (0 < k) && eqb (F k) (F (k - 1)) then [] else [F k])
/-- No two elements with the same key. -/
def NoC (U : α → Prop) : Prop := ∀ x y, U x → U y → key x = key y → x = y
end
section
variable {α : Type} {key : α → Int} {eqb : α → α → Bool}
theorem str_ext : ∀ {a b : List α}, Str key a → Str key b → (∀ x, x ∈ a ↔ x ∈ b) → a = b := by
  intro a
  induction a with
  | nil =>
    intro b _ _ h
    cases b with
    | nil => rfl
    | cons y b => exact absurd ((h y).2 (List.mem_cons_self ..)) (by simp)
  | cons x a ih =>
    intro b ha hb h
    cases b with
    | nil => exact absurd ((h x).1 (List.mem_cons_self ..)) (by simp)
    | cons y b =>
      obtain ⟨h1, h2⟩ := List.pairwise_cons.1 ha
      obtain ⟨h3, h4⟩ := List.pairwise_cons.1 hb
      have e : x = y := by
        rcases List.mem_cons.1 ((h x).1 (List.mem_cons_self ..)) with e | e
        · exact e
        · rcases List.mem_cons.1 ((h y).2 (List.mem_cons_self ..)) with e2 | e2
          · exact e2.symm
          · have := h3 x e; have := h1 y e2; omega
      subst e
      congr 1
      refine ih h2 h4 fun q => ⟨fun hq => ?_, fun hq => ?_⟩
      · rcases List.mem_cons.1 ((h q).1 (List.mem_cons_of_mem _ hq)) with e | e
        · have := h1 q hq; rw [e] at this; omega
        · exact e
      · rcases List.mem_cons.1 ((h q).2 (List.mem_cons_of_mem _ hq)) with e | e
        · have := h3 q hq; rw [e] at this; omega
        · exact e
theorem str_noc {l : List α} (h : Str key l) {U : α → Prop} (hU : ∀ x, U x → x ∈ l) : NoC key U := by
  intro x y hx hy e
  obtain ⟨i, hi, ei⟩ := List.mem_iff_getElem.1 (hU x hx)
  obtain ⟨j, hj, ej⟩ := List.mem_iff_getElem.1 (hU y hy)
  rcases Nat.lt_trichotomy i j with c | c | c
  · have := List.pairwise_iff_getElem.1 h i j hi hj c; rw [ei, ej] at this; omega
  · subst c; rw [← ei, ← ej]
  · have := List.pairwise_iff_getElem.1 h j i hj hi c; rw [ei, ej] at this; omega
theorem mem_ddU (heq : ∀ x y, eqb x y = true ↔ x = y) {F : Nat → α} {y : α} : ∀ k, y ∈ ddU eqb F k ↔ ∃ j, j < k ∧ F j = y := by
  intro k
  induction k with
  | zero => simp [ddU]
  | succ k ih =>
    rw [ddU, List.mem_append, ih]
    constructor
    · rintro (⟨j, h1, h2⟩ | h)
      · exact ⟨j, by omega, h2⟩
      · split at h
        · cases h
        · exact ⟨k, by omega, (List.mem_singleton.1 h).symm⟩
    · rintro ⟨j, h1, h2⟩
      by_cases c : j < k
      · exact .inl ⟨j, c, h2⟩
      · have : j = k := by omega
        subst this
        split
        · rename_i h
          rw [Bool.and_eq_true, decide_eq_true_eq, heq] at h
          exact .inl ⟨j - 1, by omega, by rw [← h.2]; exact h2⟩
        · exact .inr (by rw [h2]; simp)
/-- Sorted, and no two with the same key: of neighbours the first alone is rising. -/
theorem str_ddU (heq : ∀ x y, eqb x y = true ↔ x = y) {F : Nat → α} {n : Nat} (hs : SrtF key F 0 n) (hc : NoC key fun x => ∃ j, j < n ∧ F j = x) : ∀ k, k ≤ n → Str key (ddU eqb F k) ∧ ∀ y ∈ ddU eqb F k, 0 < k ∧ key y ≤ key (F (k - 1)) := by
  intro k
  induction k with
  | zero => intro _; exact ⟨List.Pairwise.nil, fun y h => by cases h⟩
  | succ k ih =>
    intro hk
    obtain ⟨h1, h2⟩ := ih (by omega)
    rw [ddU]
    split
    · rename_i h
      rw [Bool.and_eq_true, decide_eq_true_eq, heq] at h
      rw [List.append_nil]
      refine ⟨h1, fun y hy => ⟨by omega, ?_⟩⟩
      have := (h2 y hy).2
      rw [← h.2] at this
      exact this
    · rename_i h
      have hlt : ∀ y ∈ ddU eqb F k, key y < key (F k) := fun y hy => by
        obtain ⟨h3, h4⟩ := h2 y hy
        have h5 := hs (k - 1) k (by omega) (by omega) (by omega)
        have h6 : key (F (k - 1)) ≠ key (F k) := fun e => by
          apply h
          rw [Bool.and_eq_true, decide_eq_true_eq, heq]
          exact ⟨h3, (hc _ _ ⟨k - 1, by omega, rfl⟩ ⟨k, by omega, rfl⟩ e).symm⟩
        omega
      refine ⟨List.pairwise_append.2 ⟨h1, List.pairwise_singleton .., fun y hy z hz => ?_⟩, fun y hy => ⟨by omega, ?_⟩⟩
      · rw [List.mem_singleton.1 hz]; exact hlt y hy
      · show key y ≤ key (F k)
        rcases List.mem_append.1 hy with c | c
        · exact Int.le_of_lt (hlt y c)
        · rw [List.mem_singleton.1 c]; exact Int.le_refl _
end
section
variable {α : Type} [Inhabited α] {key : α → Int} {eqb : α → α → Bool}
theorem str_at {l : List α} (h : Str key l) : ∀ i j, i < j → j < l.length → key (atE l i) < key (atE l j) := by
  intro i j hi hj
  rw [atE_get (by omega), atE_get hj]
  exact List.pairwise_iff_getElem.1 h i j (by omega) hj hi
theorem idxI_of {l : List α} {x : α} {k : Nat} (hk : k ≤ l.length) (h1 : ∀ j, j < k → key (atE l j) < key x) (h2 : k < l.length → ¬ key (atE l k) < key x) : idxI key l x = k := by
  unfold idxI
  induction l generalizing k with
  | nil => simp at hk; subst hk; rfl
  | cons a r ih =>
    cases k with
    | zero =>
      have := h2 (by simp)
      have e : atE (a :: r) 0 = a := rfl
      rw [e] at this
      simp [List.takeWhile, this]
    | succ k =>
      have h0 := h1 0 (by omega)
      have e : atE (a :: r) 0 = a := rfl
      rw [e] at h0
      have es : ∀ j, atE (a :: r) (j + 1) = atE r j := fun j => rfl
      simp only [List.takeWhile, decide_eq_true h0, List.length_cons]
      rw [ih (by simpa using hk) (fun j hj => by have := h1 (j + 1) (by omega); rwa [es] at this) (fun hj => by have := h2 (by simpa using hj); rwa [es] at this)]
theorem idxI_spec (l : List α) (x : α) : idxI key l x ≤ l.length ∧ (∀ j, j < idxI key l x → key (atE l j) < key x) ∧ (idxI key l x < l.length → ¬ key (atE l (idxI key l x)) < key x) := by
  induction l with
  | nil => exact ⟨by simp [idxI], fun j hj => absurd hj (by simp [idxI]), fun h => absurd h (by simp [idxI])⟩
  | cons a r ih =>
    by_cases c : key a < key x
    · have e : idxI key (a :: r) x = idxI key r x + 1 := by unfold idxI; simp [List.takeWhile, c]
      rw [e]
      obtain ⟨i1, i2, i3⟩ := ih
      refine ⟨by simpa using i1, fun j hj => ?_, fun h => ?_⟩
      · cases j with
        | zero => exact c
        | succ j => exact i2 j (by omega)
      · exact i3 (by simpa using h)
    · have e : idxI key (a :: r) x = 0 := by unfold idxI; simp [List.takeWhile, c]
      rw [e]
      exact ⟨by simp, fun j hj => absurd hj (by omega), fun _ => c⟩
theorem mem_mIns (heq : ∀ x y, eqb x y = true ↔ x = y) {l : List α} {x y : α} : y ∈ mIns key eqb l x ↔ y = x ∨ y ∈ l := by
  unfold mIns
  split
  · rename_i h
    rw [Bool.and_eq_true, decide_eq_true_eq, heq] at h
    constructor
    · exact .inr
    · rintro (e | e)
      · rw [e, ← h.2, atE_get h.1]; exact List.getElem_mem _
      · exact e
  · unfold insAt
    rw [List.mem_append, List.mem_cons]
    constructor
    · rintro (h | h | h)
      · exact .inr (List.mem_of_mem_take h)
      · exact .inl h
      · exact .inr (List.mem_of_mem_drop h)
    · rintro (h | h)
      · exact .inr (.inl h)
      · rw [← List.take_append_drop (idxI key l x) l, List.mem_append] at h
        rcases h with h | h
        · exact .inl h
        · exact .inr (.inr h)
theorem mem_mrgL (heq : ∀ x y, eqb x y = true ↔ x = y) {b : List α} : ∀ {a : List α} {y : α}, y ∈ mrgL key eqb a b ↔ y ∈ a ∨ y ∈ b := by
  unfold mrgL
  induction b with
  | nil => intro a y; simp
  | cons x b ih =>
    intro a y
    rw [List.foldl_cons, ih, mem_mIns heq, List.mem_cons]
    constructor
    · rintro ((h | h) | h)
      · exact .inr (.inl h)
      · exact .inl h
      · exact .inr (.inr h)
    · rintro (h | h | h)
      · exact .inl (.inr h)
      · exact .inl (.inl h)
      · exact .inr h
theorem str_mIns (heq : ∀ x y, eqb x y = true ↔ x = y) {l : List α} {x : α} (h : Str key l) (hc : ∀ y ∈ l, key y = key x → y = x) : Str key (mIns key eqb l x) := by
  unfold mIns
  obtain ⟨i1, i2, i3⟩ := idxI_spec (key := key) l x
  generalize idxI key l x = k at i1 i2 i3
  split
  · exact h
  · rename_i hn
    have hne : ∀ j, j < l.length → key (atE l j) ≠ key x := by
      intro j hj e
      have hm : atE l j ∈ l := by rw [atE_get hj]; exact List.getElem_mem _
      have ex := hc _ hm e
      apply hn
      have hjk : j = k := by
        rcases Nat.lt_trichotomy j k with c | c | c
        · have := i2 j c; omega
        · exact c
        · have h3 := i3 (by omega)
          have h4 := str_at h k j c hj
          omega
      subst hjk
      rw [Bool.and_eq_true, decide_eq_true_eq, heq]
      exact ⟨hj, ex⟩
    unfold insAt
    refine List.pairwise_append.2 ⟨h.sublist (List.take_sublist _ _), List.pairwise_cons.2 ⟨fun y hy => ?_, h.sublist (List.drop_sublist _ _)⟩, fun y hy z hz => ?_⟩
    · obtain ⟨j, hj, e⟩ := List.mem_iff_getElem.1 hy
      rw [List.length_drop] at hj
      rw [List.getElem_drop] at e
      have e2 : atE l (k + j) = y := by rw [atE_get (by omega)]; exact e
      have h3 := i3 (by omega)
      have h5 := hne (k + j) (by omega)
      have h6 : key (atE l k) ≤ key (atE l (k + j)) := by
        rcases Nat.eq_zero_or_pos j with c | c
        · subst c; exact Int.le_refl _
        · have := str_at h k (k + j) (by omega) (by omega); omega
      rw [← e2]; omega
    · obtain ⟨j, hj, e⟩ := List.mem_iff_getElem.1 hy
      rw [List.length_take] at hj
      rw [List.getElem_take] at e
      have e2 : atE l j = y := by rw [atE_get (by omega)]; exact e
      have h4 := i2 j (by omega)
      rw [e2] at h4
      rcases List.mem_cons.1 hz with c | c
      · rw [c]; exact h4
      · obtain ⟨q, hq, e3⟩ := List.mem_iff_getElem.1 c
        rw [List.length_drop] at hq
        rw [List.getElem_drop] at e3
        have e4 : atE l (k + q) = z := by rw [atE_get (by omega)]; exact e3
        have := str_at h j (k + q) (by omega) (by omega)
        rw [e2, e4] at this; exact this
theorem str_mrgL (heq : ∀ x y, eqb x y = true ↔ x = y) {U : α → Prop} (hc : NoC key U) {b : List α} : ∀ {a : List α}, (∀ x ∈ a, U x) → (∀ x ∈ b, U x) → Str key a → Str key (mrgL key eqb a b) := by
  unfold mrgL
  induction b with
  | nil => intro a _ _ h; exact h
  | cons x b ih =>
    intro a ha hb h
    rw [List.foldl_cons]
    have hx := hb x (List.mem_cons_self ..)
    refine ih (fun y hy => ?_) (fun y hy => hb y (List.mem_cons_of_mem _ hy)) (str_mIns heq h fun y hy e => hc y x (ha y hy) hx e)
    rcases (mem_mIns heq).1 hy with e | e
    · rw [e]; exact hx
    · exact ha y e
/-- What sorting and dropping neighbours gives is what putting in order gives, or neither is rising. -/
theorem mrg_same (heq : ∀ x y, eqb x y = true ↔ x = y) {a b : List α} (ha : Str key a) {F : Nat → α} {n : Nat} (hs : SrtF key F 0 n) (hm : ∀ y, (∃ j, j < n ∧ F j = y) ↔ y ∈ a ∨ y ∈ b) :
    ddU eqb F n = mrgL key eqb a b ∨ (¬ Str key (ddU eqb F n) ∧ ¬ Str key (mrgL key eqb a b)) := by
  have hU : ∀ y, y ∈ ddU eqb F n ↔ y ∈ a ∨ y ∈ b := fun y => (mem_ddU heq n).trans (hm y)
  have hR : ∀ y, y ∈ mrgL key eqb a b ↔ y ∈ a ∨ y ∈ b := fun y => mem_mrgL heq
  rcases Classical.em (NoC key fun x => x ∈ a ∨ x ∈ b) with hc | hc
  · left
    have hc2 : NoC key fun x => ∃ j, j < n ∧ F j = x := fun x y hx hy e => hc x y ((hm x).1 hx) ((hm y).1 hy) e
    exact str_ext (str_ddU heq hs hc2 n (Nat.le_refl _)).1 (str_mrgL heq hc (fun x hx => .inl hx) (fun x hx => .inr hx) ha) fun y => (hU y).trans (hR y).symm
  · right
    exact ⟨fun h => hc (str_noc h fun x hx => (hU x).2 hx), fun h => hc (str_noc h fun x hx => (hR x).2 hx)⟩
/-- From both sides the same. -/
theorem mrg_comm (heq : ∀ x y, eqb x y = true ↔ x = y) {a b : List α} (h : Str key (mrgL key eqb a b)) (hb : Str key b) : mrgL key eqb b a = mrgL key eqb a b := by
  have hR : ∀ y, y ∈ mrgL key eqb a b ↔ y ∈ a ∨ y ∈ b := fun y => mem_mrgL heq
  have hc : NoC key fun x => x ∈ a ∨ x ∈ b := str_noc h fun x hx => (hR x).2 hx
  refine str_ext (str_mrgL heq hc (fun x hx => .inr hx) (fun x hx => .inl hx) hb) h fun y => ?_
  rw [hR, mem_mrgL heq]
  exact Or.comm
theorem mrg_again (heq : ∀ x y, eqb x y = true ↔ x = y) {a b : List α} (h : Str key (mrgL key eqb a b)) : mrgL key eqb (mrgL key eqb a b) a = mrgL key eqb a b := by
  have hR : ∀ y, y ∈ mrgL key eqb a b ↔ y ∈ a ∨ y ∈ b := fun y => mem_mrgL heq
  have hc : NoC key fun x => x ∈ mrgL key eqb a b := str_noc h fun x hx => hx
  refine str_ext (str_mrgL heq hc (fun x hx => hx) (fun x hx => (hR x).2 (.inl hx)) h) h fun y => ?_
  rw [mem_mrgL heq]
  constructor
  · rintro (e | e)
    · exact e
    · exact (hR y).2 (.inl e)
  · exact .inl
end
end Go.Proofs.YtmhelhjjadoiaaaGreatDoor

/- Rows of looks that are sorted in place. No condition but those stated. -/
namespace Go.Proofs.YtmhelhjjadoiaaaGreatDoor
set_option linter.unusedVariables false
set_option linter.unusedSimpArgs false
open Go.RowKit Go.Sort
theorem cmpI_lt (a b : Int) : decide (cmpI a b < 0) = decide (a < b) := by
  unfold cmpI
  by_cases h : a < b
  · simp [h]
  · by_cases h2 : b < a <;> simp [h, h2]
theorem C_Mrg1 (x y : Lk) (w : World) : Calls Tryz.prog 64 #[.agg #[.int .i64 (x).tick, .int .i64 (x).who, .int .i64 (x).rid, .int .i64 (x).kind, .string (x).why], .agg #[.int .i64 (y).tick, .int .i64 (y).who, .int .i64 (y).rid, .int .i64 (y).kind, .string (y).why]] w fun e w' => e = .returned (.int .i64 (cmpI x.tick y.tick)) ∧ Below w.heap.size w w' := by
  go_enter Tryz.func64, Tryz.ntmps64
  go_wp2_with (go_at_call 65; refine (C_CompareI _ _ _).mono ?_; rintro e w' ⟨rfl, rfl⟩)
  go_ret
  exact ⟨rfl, by (repeat (first | with_reducible exact Below.refl _ _ | with_reducible exact below_regrown _ _ _ | with_reducible refine bel_step0 (by assumption) ?_ | with_reducible refine bel_alloc0 ?_ _ | with_reducible refine bel_regrown0 ?_ _ _ | with_reducible refine bel_regrown ?_ (by first | omega | (simp; done) | (simp; omega)) _ _ | with_reducible refine below_drewN ?_ _ | with_reducible refine Below.drew ?_ | with_reducible refine Below.alloc ?_ (by first | omega | (simp; done) | (simp; omega)) _ | with_reducible refine Below.setCell ?_ (by first | omega | (simp; done) | (simp; omega)) _ | with_reducible refine bel_step (by assumption) (by first | omega | (simp; done) | (simp; omega)) ?_ | with_reducible refine bel_grown (by assumption) (by first | omega | (simp; done) | (simp; omega)) (by first | omega | (simp; done) | (simp; omega)) ?_))⟩
/-- The n looks F lie in a row of the call's own: the slice (g, n, cap). -/
def KF (base : Nat) (w : World) (g n cap : Nat) (F : Nat → Lk) : Prop :=
  ∃ xs : List Value, w.ownsRow base 37 5 (.slice (some ⟨g, 0, none⟩) n cap) n xs ∧ ∀ i, i < n * 5 → xs[i]? = some (cK (F (i / 5)) (i % 5))
theorem KF.congr {base g n cap : Nat} {w : World} {F G : Nat → Lk} (h : KF base w g n cap F) (e : ∀ i, i < n → F i = G i) : KF base w g n cap G :=
  let ⟨xs, h1, h2⟩ := h
  ⟨xs, h1, fun i hi => by rw [h2 i hi, e (i / 5) (by omega)]⟩
theorem KF.ofB {base g n cap : Nat} {w w' : World} {F : Nat → Lk} (h : KF base w g n cap F) (hb : w'.heap[g]? = w.heap[g]?) : KF base w' g n cap F :=
  let ⟨xs, h1, h2⟩ := h
  ⟨xs, own_of_block h1 (fun q hq => by have : g = q := (by simpa [Value.ownBlock] using hq); subst this; exact hb), h2⟩
theorem KF.lt {base g n cap : Nat} {w : World} {F : Nat → Lk} (h : KF base w g n cap F) : base ≤ g ∧ g < w.heap.size :=
  let ⟨_, h1, _⟩ := h
  World.ownsRow.lt h1 g (by simp [Value.ownBlock])
theorem KF.below {base g n cap : Nat} {w w' : World} {F : Nat → Lk} (hb : Below w.heap.size w w') (h : KF base w g n cap F) : KF base w' g n cap F := h.ofB (hb.block g h.lt.2)
theorem KF.cap {base g n cap : Nat} {w : World} {F : Nat → Lk} (h : KF base w g n cap F) : n ≤ cap ∧ cap ≤ 9223372036854775807 := by
  obtain ⟨xs, h1, _⟩ := h
  rcases h1.2 with ⟨h2, _⟩ | ⟨g', cap', cur, e, _, _, hnc, hcm, _⟩
  · cases h2
  · injection e with _ _ e3
    subst e3
    exact ⟨hnc, by unfold maxLen at hcm; exact hcm⟩
theorem KF.cell {base g n cap : Nat} {w : World} {F : Nat → Lk} (h : KF base w g n cap F) {j m : Nat} (hj : j < n) (hm : m < 5) : w.cell? ⟨g, j * 5 + m, none⟩ = some (cK (F j) m) := by
  obtain ⟨xs, h1, h2⟩ := h
  rw [h1.cellAt (j * 5 + m) (by omega), h2 _ (by omega), show (j * 5 + m) / 5 = j by omega, show (j * 5 + m) % 5 = m by omega]
theorem KF.at_ {base g n cap : Nat} {w : World} {F : Nat → Lk} (h : KF base w g n cap F) {j : Nat} (hj : j < n) : LkAt w g (j * 5) (F j) :=
  ⟨h.cell hj (m := 0) (by omega), h.cell hj (m := 1) (by omega), h.cell hj (m := 2) (by omega), h.cell hj (m := 3) (by omega), h.cell hj (m := 4) (by omega)⟩
theorem KF.frozen {base g n cap : Nat} {w : World} {F : Nat → Lk} (h : KF base w g n cap F) (i : Nat) : w.frozen? ⟨g, i, none⟩ = false := by
  obtain ⟨xs, h1, _⟩ := h
  exact h1.frozenAt i
def upd (F : Nat → Lk) (j : Nat) (x : Lk) (i : Nat) : Lk := if i = j then x else F i
theorem KF.set {base g n cap : Nat} {w : World} {F : Nat → Lk} (h : KF base w g n cap F) (j : Nat) (x : Lk) :
    KF base (((((w.setCell ⟨g, j * 5, none⟩ (.int .i64 x.tick)).setCell ⟨g, j * 5 + 1, none⟩ (.int .i64 x.who)).setCell ⟨g, j * 5 + 2, none⟩ (.int .i64 x.rid)).setCell ⟨g, j * 5 + 3, none⟩ (.int .i64 x.kind)).setCell ⟨g, j * 5 + 4, none⟩ (.string x.why)) g n cap (upd F j x) := by
  obtain ⟨xs, h1, h2⟩ := h
  refine ⟨((((xs.set (j * 5) (.int .i64 x.tick)).set (j * 5 + 1) (.int .i64 x.who)).set (j * 5 + 2) (.int .i64 x.rid)).set (j * 5 + 3) (.int .i64 x.kind)).set (j * 5 + 4) (.string x.why),
    (((((h1.stored (j * 5) _).1.stored (j * 5 + 1) _).1.stored (j * 5 + 2) _).1.stored (j * 5 + 3) _).1.stored (j * 5 + 4) _).1, fun i hi => ?_⟩
  have hl : xs.length = n * 5 := h1.1
  simp only [List.getElem?_set, List.length_set]
  unfold upd
  have h2i := h2 i hi
  by_cases e4 : j * 5 + 4 = i
  · rw [if_pos e4, if_pos (by omega), if_pos (by omega), show i % 5 = 4 by omega]; rfl
  rw [if_neg e4]
  by_cases e3 : j * 5 + 3 = i
  · rw [if_pos e3, if_pos (by omega), if_pos (by omega), show i % 5 = 3 by omega]; rfl
  rw [if_neg e3]
  by_cases e2 : j * 5 + 2 = i
  · rw [if_pos e2, if_pos (by omega), if_pos (by omega), show i % 5 = 2 by omega]; rfl
  rw [if_neg e2]
  by_cases e1 : j * 5 + 1 = i
  · rw [if_pos e1, if_pos (by omega), if_pos (by omega), show i % 5 = 1 by omega]; rfl
  rw [if_neg e1]
  by_cases e0 : j * 5 = i
  · rw [if_pos e0, if_pos (by omega), if_pos (by omega), show i % 5 = 0 by omega]; rfl
  rw [if_neg e0, h2i, if_neg (by omega)]
/-- Two elements exchanged. -/
def swp1 (F : Nat → Lk) (p q : Nat) (i : Nat) : Lk := if i = p then F q else if i = q then F p else F i
theorem upd_swp (F : Nat → Lk) {p q : Nat} (h : p ≠ q) : upd (upd F q (F p)) p (F q) = swp1 F p q := by
  funext i
  rfl
theorem swp1_comm (F : Nat → Lk) {p q : Nat} : swp1 F p q = swp1 F q p := by
  funext i
  unfold swp1
  by_cases e : i = p
  · by_cases e2 : i = q
    · rw [if_pos e, if_pos e2]; subst e e2; rfl
    · rw [if_pos e, if_neg e2, if_pos e]
  · by_cases e2 : i = q
    · rw [if_neg e, if_pos e2, if_pos e2]
    · rw [if_neg e, if_neg e2, if_neg e2, if_neg e]
theorem swp1_swpF (F : Nat → Lk) (p q : Nat) : swp1 F p q = swpF F p q 1 := by
  funext i
  unfold swp1 swpF
  by_cases e : i = p
  · rw [if_pos e, if_pos (show p ≤ i ∧ i < p + 1 by omega), show q + (i - p) = q by omega]
  · rw [if_neg e, if_neg (show ¬ (p ≤ i ∧ i < p + 1) by omega)]
    by_cases e2 : i = q
    · rw [if_pos e2, if_pos (show q ≤ i ∧ i < q + 1 by omega), show p + (i - q) = p by omega]
    · rw [if_neg e2, if_neg (show ¬ (q ≤ i ∧ i < q + 1) by omega)]
theorem swp1_next (F : Nat → Lk) (p : Nat) : swp1 F p (p + 1) = rotF F p (p + 1) (p + 1 + 1) := by
  have := rot_swap F (lo := p) (m := p + 1) (by omega)
  rw [show p + 1 + (p + 1 - p) = p + 1 + 1 by omega, show p + 1 - p = 1 by omega] at this
  rw [this, swp1_swpF]
theorem grown_belowK {w w1 w2 : World} {g : Nat} (h : w.grownBy w1 (some g)) (hb : Below w1.heap.size w1 w2) : w.grownBy w2 (some g) :=
  ⟨hb.os.trans h.os, hb.tape.trans h.tape, hb.output.trans h.output, Nat.le_trans h.size hb.size, fun k hk hn => (hb.block k (Nat.lt_of_lt_of_le hk h.size)).trans (h.block k hk hn)⟩
theorem grown_transK {w w1 w2 : World} {g : Nat} (h : w.grownBy w1 (some g)) (k : w1.grownBy w2 (some g)) : w.grownBy w2 (some g) :=
  ⟨k.os.trans h.os, k.tape.trans h.tape, k.output.trans h.output, Nat.le_trans h.size k.size, fun q hq hn => (k.block q (Nat.lt_of_lt_of_le hq h.size) hn).trans (h.block q hq hn)⟩
theorem KF.drew {base g n cap : Nat} {w : World} {F : Nat → Lk} (h : KF base w g n cap F) : KF base w.drew g n cap F := h.below (Below.refl _ _).drew
/-- The two elements at p and q, exchanged by stores at q first. -/
theorem KF.swap {base g n cap : Nat} {w : World} {F : Nat → Lk} (h : KF base w g n cap F) {p q : Nat} (hpq : p ≠ q) {x y : Lk} (hx : F p = x) (hy : F q = y) :
    KF base ((((((((((w.setCell ⟨g, q * 5, none⟩ (.int .i64 x.tick)).setCell ⟨g, q * 5 + 1, none⟩ (.int .i64 x.who)).setCell ⟨g, q * 5 + 2, none⟩ (.int .i64 x.rid)).setCell ⟨g, q * 5 + 3, none⟩ (.int .i64 x.kind)).setCell ⟨g, q * 5 + 4, none⟩ (.string x.why)).setCell ⟨g, p * 5, none⟩ (.int .i64 y.tick)).setCell ⟨g, p * 5 + 1, none⟩ (.int .i64 y.who)).setCell ⟨g, p * 5 + 2, none⟩ (.int .i64 y.rid)).setCell ⟨g, p * 5 + 3, none⟩ (.int .i64 y.kind)).setCell ⟨g, p * 5 + 4, none⟩ (.string y.why)) g n cap (swp1 F p q) := by
  have := (h.set q x).set p y
  rw [← hx, ← hy, upd_swp F hpq] at this
  rw [← hx, ← hy]
  exact this
theorem OL.kf {base g n cap : Nat} {w : World} {l : List Lk} (hn : l.length = n) (h : OL base w (.slice (some ⟨g, 0, none⟩) n cap) l) : KF base w g n cap (atK l) := by
  subst hn
  exact ⟨cells5 l, h, fun i hi => cells5_get hi⟩
theorem atK_seg {F : Nat → Lk} {n j : Nat} (h : j < n) : atK (seg F 0 n) j = F j := by
  rw [atK_get (by rw [seg_len]; exact h)]
  simp [seg]
theorem KF.ol {base g n cap : Nat} {w : World} {F : Nat → Lk} (h : KF base w g n cap F) : OL base w (.slice (some ⟨g, 0, none⟩) n cap) (seg F 0 n) := by
  obtain ⟨xs, h1, h2⟩ := h
  have e : xs = cells5 (seg F 0 n) := by
    apply List.ext_getElem?
    intro i
    by_cases hi : i < n * 5
    · rw [h2 i hi, cells5_get (by rw [seg_len]; exact hi), atK_seg (by omega)]
    · rw [List.getElem?_eq_none (by rw [h1.1]; omega), List.getElem?_eq_none (by rw [cells5_length, seg_len]; omega)]
  unfold OL
  rw [seg_len, ← e]; exact h1
end Go.Proofs.YtmhelhjjadoiaaaGreatDoor

/- The library's insertion sort at looks. No condition but those stated. -/
namespace Go.Proofs.YtmhelhjjadoiaaaGreatDoor
set_option linter.unusedVariables false
set_option linter.unusedSimpArgs false
open Go.RowKit Go.Sort
/-- Sorted from a up to i but for what stands at j, which is not greater than what follows it. -/
def SrtJ (F : Nat → Lk) (a i j : Nat) : Prop := ∀ p q, a ≤ p → p < q → q ≤ i → q ≠ j → (F p).tick ≤ (F q).tick
theorem SrtJ.start {F : Nat → Lk} {a i : Nat} (h : SrtF Lk.tick F a i) : SrtJ F a i i := fun p q hp hq hi hn => h p q hp (by omega) (by omega)
theorem SrtJ.swap {F : Nat → Lk} {a i j : Nat} (h : SrtJ F a i (j + 1)) (ha : a ≤ j) (hi : j + 1 ≤ i) (hlt : (F (j + 1)).tick < (F j).tick) : SrtJ (swp1 F j (j + 1)) a i j := by
  intro p q hp hpq hq hn
  unfold swp1
  by_cases q1 : q = j + 1
  · subst q1
    rw [if_neg hn, if_pos rfl]
    by_cases p1 : p = j
    · rw [if_pos p1]; omega
    · rw [if_neg p1, if_neg (by omega)]
      exact h p j hp (by omega) (by omega) (by omega)
  · rw [if_neg hn, if_neg q1]
    by_cases p1 : p = j
    · rw [if_pos p1]
      exact h (j + 1) q (by omega) (by omega) hq q1
    · rw [if_neg p1]
      by_cases p2 : p = j + 1
      · rw [if_pos p2]
        exact h j q ha (by omega) hq q1
      · rw [if_neg p2]
        exact h p q hp hpq hq q1
theorem SrtJ.low {F : Nat → Lk} {a i : Nat} (h : SrtJ F a i a) : SrtF Lk.tick F a (i + 1) := fun p q hp hq hi => by
  by_cases e : p = q
  · subst e; exact Int.le_refl _
  · exact h p q hp (by omega) (by omega) (by omega)
theorem SrtJ.done {F : Nat → Lk} {a i j : Nat} (h : SrtJ F a i (j + 1)) (ha : a ≤ j) (hle : ¬ (F (j + 1)).tick < (F j).tick) : SrtF Lk.tick F a (i + 1) := fun p q hp hq hi => by
  by_cases e : p = q
  · subst e; exact Int.le_refl _
  · by_cases e2 : q = j + 1
    · subst e2
      by_cases e3 : p = j
      · subst e3; omega
      · have := h p j hp (by omega) (by omega) (by omega)
        omega
    · exact h p q hp (by omega) (by omega) e2
/-- What a sort of the part from a up to b keeps. -/
structure KeepF (F G : Nat → Lk) (a b n : Nat) : Prop where
  pe : (seg G 0 n).Perm (seg F 0 n)
  ou : ∀ i, ¬ (a ≤ i ∧ i < b) → G i = F i
theorem KeepF.refl (F : Nat → Lk) (a b n : Nat) : KeepF F F a b n := ⟨List.Perm.refl _, fun _ _ => rfl⟩
theorem KeepF.swap {F G : Nat → Lk} {a b n j : Nat} (h : KeepF F G a b n) (ha : a ≤ j) (hb : j + 1 < b) (hn : b ≤ n) : KeepF F (swp1 G j (j + 1)) a b n := by
  refine ⟨?_, fun i hi => ?_⟩
  · rw [swp1_next]
    exact (rot_perm G (by omega) (by omega) (by omega)).trans h.pe
  · unfold swp1
    rw [if_neg (by omega), if_neg (by omega)]
    exact h.ou i hi
set_option maxRecDepth 100000 in
set_option maxHeartbeats 8000000 in
theorem C_insK (base g n cap a b : Nat) (F : Nat → Lk) (w : World) (h : KF base w g n cap F) (hn : n ≤ 1048576) (hab : a ≤ b) (hbn : b ≤ n) :
    Calls Tryz.prog 103 #[.slice (some ⟨g, 0, none⟩) n cap, .int .i64 a, .int .i64 b, .func (.func 64) #[] #[]] w fun e w' =>
      e = .returned (.tuple #[]) ∧ ∃ G, KF base w' g n cap G ∧ SrtF Lk.tick G a b ∧ KeepF F G a b n ∧ w.grownBy w' (some g) := by
  obtain ⟨hcap, hcm⟩ := h.cap
  have HH := Lib.hid h
  clear h
  go_enter Tryz.func103, Tryz.ntmps103
  go_wp2
  go_loopw [8] (fun i wr => ∃ (k : Nat) (G : Nat → Lk), a + 1 ≤ k ∧ i = .int .i64 k ∧ k ≤ max (a + 1) b ∧ KF base wr g n cap G ∧ SrtF Lk.tick G a k ∧ KeepF F G a b n ∧ w.grownBy wr (some g)) (fun i _ => b + 2 - (intOf i).toNat)
  case atStart => exact ⟨a + 1, F, by omega, by go_num, by omega, HH.out, fun p q hp hq hl => (by obtain rfl : p = q := (by omega); exact Int.le_refl _), KeepF.refl _ _ _ _, World.grownBy.refl _ _⟩
  case round =>
    obtain ⟨k, G, hk1, rfl, hkn, ho, hs, hke, hg⟩ := hrel
    by_cases hlt : k < b
    · have HO := Lib.hid ho
      have HG := Lib.hid (And.intro (SrtJ.start hs) (And.intro hke hg))
      clear ho hs hke hg
      go_wp2
      go_loopw [9] (fun i wi => ∃ (j : Nat) (G : Nat → Lk), i = .int .i64 j ∧ a ≤ j ∧ j ≤ k ∧ KF base wi g n cap G ∧ SrtJ G a k j ∧ KeepF F G a b n ∧ w.grownBy wi (some g)) (fun i _ => (intOf i).toNat)
      case atStart => exact ⟨k, G, rfl, by omega, Nat.le_refl _, HO.out, HG.out.1, HG.out.2.1, HG.out.2.2⟩
      case round =>
        clear HO HG
        obtain ⟨j, G, rfl, haj, hjk, ho, hs, hke, hg⟩ := hrel
        by_cases hja : j = a
        · subst hja
          have HO := Lib.hid (And.intro ho (And.intro hs.low (And.intro hke hg)))
          clear ho hs hke hg
          go_wp2
          (refine wp_region_quiet_below (by kernel_rfl) (by kernel_rfl) ?_; (repeat (go_big_quiet_step (fail))); refine wpQuiet_nil ?_; intro _ hw'; obtain ⟨⟨dq, osq⟩, hw''⟩ := hw'; subst hw'')
          go_wp2
          go_roundw
          case rel => exact ⟨k + 1, G, by omega, by go_num, by omega, HO.out.1.below (below_regrown _ _ _), HO.out.2.1, HO.out.2.2.1, grown_belowK HO.out.2.2.2 (below_regrown _ _ _)⟩
          case measure => simp [intOf]; omega
        · obtain ⟨q, rfl⟩ : ∃ q, j = q + 1 := ⟨j - 1, by omega⟩
          obtain ⟨x, hx⟩ : ∃ x, G (q + 1) = x := ⟨_, rfl⟩
          obtain ⟨y, hy⟩ : ∃ y, G q = y := ⟨_, rfl⟩
          obtain ⟨c0, c1, c2, c3, c4⟩ := ho.at_ (show q < n by omega)
          obtain ⟨d0, d1, d2, d3, d4⟩ := ho.at_ (show q + 1 < n by omega)
          rw [hy] at c0 c1 c2 c3 c4
          rw [hx] at d0 d1 d2 d3 d4
          have hq0 : (0 : Int) ≤ (q : Int) := by omega
          have hq1 : (q : Int) < (n : Int) := by omega
          have hq2 : (q : Int) + 1 < (n : Int) := by omega
          have hqa : (a : Int) < (q : Int) + 1 := by omega
          have g0 := cell_regrown c0; have g1 := cell_regrown c1; have g2 := cell_regrown c2; have g3 := cell_regrown c3; have g4 := cell_regrown c4
          have k0 := cell_regrown d0; have k1 := cell_regrown d1; have k2 := cell_regrown d2; have k3 := cell_regrown d3; have k4 := cell_regrown d4
          have HE : ∀ d os, Calls Tryz.prog 64 #[.agg #[.int .i64 (x).tick, .int .i64 (x).who, .int .i64 (x).rid, .int .i64 (x).kind, .string (x).why], .agg #[.int .i64 (y).tick, .int .i64 (y).who, .int .i64 (y).rid, .int .i64 (y).kind, .string (y).why]] (grow (redrawn wr d) os) fun e w'' => e = .returned (.int .i64 (cmpI x.tick y.tick)) ∧ ∃ p : Regrown, w'' = grow (redrawn wr p.d) p.os :=
            fun d os => Calls.regrown_of (C_Mrg1 x y _)
          obtain ⟨bb, hb⟩ : ∃ bb, decide (x.tick < y.tick) = bb := ⟨_, rfl⟩
          have hcl : decide (cmpI x.tick y.tick < 0) = bb := by rw [cmpI_lt]; exact hb
          have HXY := Lib.hid (And.intro hx (And.intro hy hb))
          have HO := Lib.hid ho
          have HS := Lib.hid (And.intro hs (And.intro hke hg))
          clear c0 c1 c2 c3 c4 d0 d1 d2 d3 d4 ho hs hke hg hb hx hy
          go_wp2
          (refine wp_region_quiet_below (by kernel_rfl) (by kernel_rfl) ?_; (repeat (go_big_quiet_step (exact HE _ _))); refine wpQuiet_nil ?_; intro _ hw'; obtain ⟨⟨dq, osq⟩, hw''⟩ := hw'; subst hw'')
          clear g0 g1 g2 g3 g4 k0 k1 k2 k3 k4 HE
          cases bb
          · have hle : ¬ (G (q + 1)).tick < (G q).tick := by rw [HXY.out.1, HXY.out.2.1]; simpa using HXY.out.2.2
            have HD := Lib.hid (HS.out.1.done (by omega) hle)
            clear hle
            go_wp2
            go_roundw
            case rel => exact ⟨k + 1, G, by omega, by go_num, by omega, HO.out.below (below_regrown _ _ _), HD.out, HS.out.2.1, grown_belowK HS.out.2.2 (below_regrown _ _ _)⟩
            case measure => simp [intOf]; omega
          · have hlt2 : (G (q + 1)).tick < (G q).tick := by rw [HXY.out.1, HXY.out.2.1]; simpa using HXY.out.2.2
            have HD := Lib.hid (And.intro (HS.out.1.swap (by omega) (by omega) hlt2) (HS.out.2.1.swap (j := q) (by omega) (by omega) hbn))
            obtain ⟨w5, hw5⟩ : ∃ w5, w5 = grow (redrawn wr dq) osq := ⟨_, rfl⟩
            have O5 := Lib.hid (show KF base w5 g n cap G by rw [hw5]; exact HO.out.below (below_regrown _ _ _))
            have G5 := Lib.hid (show w.grownBy w5 (some g) by rw [hw5]; exact grown_belowK HS.out.2.2 (below_regrown _ _ _))
            rw [← hw5]
            obtain ⟨c0, c1, c2, c3, c4⟩ := O5.out.at_ (show q < n by omega)
            obtain ⟨d0, d1, d2, d3, d4⟩ := O5.out.at_ (show q + 1 < n by omega)
            rw [HXY.out.2.1] at c0 c1 c2 c3 c4
            rw [HXY.out.1] at d0 d1 d2 d3 d4
            have fz := O5.out.frozen
            have f0 := fz (q * 5); have f1 := fz (q * 5 + 1); have f2 := fz (q * 5 + 2); have f3 := fz (q * 5 + 3); have f4 := fz (q * 5 + 4)
            have e0 := fz ((q + 1) * 5); have e1 := fz ((q + 1) * 5 + 1); have e2 := fz ((q + 1) * 5 + 2); have e3 := fz ((q + 1) * 5 + 3); have e4 := fz ((q + 1) * 5 + 4)
            have HSW := Lib.hid (O5.out.swap (p := q) (q := q + 1) (by omega) HXY.out.2.1 HXY.out.1)
            clear hw5 fz hcl hlt2
            go_wp2
            go_region
            all_goals
              go_wp2
              go_roundw
              case rel => exact ⟨q, _, rfl, by omega, by omega, KF.drew HSW.out, HD.out.1, HD.out.2, by (repeat (first | with_reducible exact World.grownBy.refl _ _ | with_reducible refine only_drewN ?_ _ | with_reducible refine only_drew ?_ | with_reducible refine only_alloc ?_ _ | with_reducible refine only_setCell ?_ (by first | exact Or.inl rfl | (refine Or.inr ?_; simp; done) | (refine Or.inr ?_; omega)) _)); exact G5.out⟩
              case measure => simp [intOf]
    · have HO := Lib.hid (And.intro ho (And.intro (hs.sub (Nat.le_refl a) (show b ≤ k by omega)) (And.intro hke hg)))
      clear ho hs hke hg
      go_wp2
      go_end0
      exact ⟨rfl, G, HO.out⟩
end Go.Proofs.YtmhelhjjadoiaaaGreatDoor

/- The library's exchanges of runs and rotations at looks. No condition but those stated. -/
namespace Go.Proofs.YtmhelhjjadoiaaaGreatDoor
set_option linter.unusedVariables false
set_option linter.unusedSimpArgs false
open Go.RowKit Go.Sort
theorem swpF_next (F : Nat → Lk) {x y i : Nat} (h : x + i < y) : swp1 (swpF F x y i) (y + i) (x + i) = swpF F x y (i + 1) := by
  funext q
  unfold swp1 swpF
  by_cases e : q = y + i
  · subst e
    rw [if_pos rfl, if_neg (show ¬ (x ≤ x + i ∧ x + i < x + i) by omega), if_neg (show ¬ (y ≤ x + i ∧ x + i < y + i) by omega), if_neg (show ¬ (x ≤ y + i ∧ y + i < x + (i + 1)) by omega), if_pos (show y ≤ y + i ∧ y + i < y + (i + 1) by omega), show x + (y + i - y) = x + i by omega]
  · rw [if_neg e]
    by_cases e2 : q = x + i
    · subst e2
      rw [if_pos rfl, if_neg (show ¬ (x ≤ y + i ∧ y + i < x + i) by omega), if_neg (show ¬ (y ≤ y + i ∧ y + i < y + i) by omega), if_pos (show x ≤ x + i ∧ x + i < x + (i + 1) by omega), show y + (x + i - x) = y + i by omega]
    · rw [if_neg e2]
      by_cases c1 : x ≤ q ∧ q < x + i
      · rw [if_pos c1, if_pos (show x ≤ q ∧ q < x + (i + 1) by omega)]
      · rw [if_neg c1, if_neg (show ¬ (x ≤ q ∧ q < x + (i + 1)) by omega)]
        by_cases c2 : y ≤ q ∧ q < y + i
        · rw [if_pos c2, if_pos (show y ≤ q ∧ q < y + (i + 1) by omega)]
        · rw [if_neg c2, if_neg (show ¬ (y ≤ q ∧ q < y + (i + 1)) by omega)]
theorem swpF_zero (F : Nat → Lk) (x y : Nat) : swpF F x y 0 = F := by
  funext q
  unfold swpF
  rw [if_neg (by omega), if_neg (by omega)]
set_option maxRecDepth 100000 in
set_option maxHeartbeats 8000000 in
theorem C_swapK (base g n cap x y k : Nat) (F : Nat → Lk) (w : World) (h : KF base w g n cap F) (hn : n ≤ 1048576) (hxy : x + k ≤ y) (hyn : y + k ≤ n) :
    Calls Tryz.prog 145 #[.slice (some ⟨g, 0, none⟩) n cap, .int .i64 x, .int .i64 y, .int .i64 k, .func (.func 64) #[] #[]] w fun e w' =>
      e = .returned (.tuple #[]) ∧ KF base w' g n cap (swpF F x y k) ∧ w.grownBy w' (some g) := by
  obtain ⟨hcap, hcm⟩ := h.cap
  have HH := Lib.hid h
  clear h
  go_enter Tryz.func145, Tryz.ntmps145
  go_wp2
  go_loopw [10] (fun i wr => ∃ q : Nat, q ≤ k ∧ i = .int .i64 q ∧ KF base wr g n cap (swpF F x y q) ∧ w.grownBy wr (some g)) (fun i _ => k - (intOf i).toNat)
  case atStart => exact ⟨0, Nat.zero_le _, rfl, by rw [swpF_zero]; exact HH.out, World.grownBy.refl _ _⟩
  case round =>
    obtain ⟨q, hq, rfl, ho, hg⟩ := hrel
    by_cases hlt : q < k
    · obtain ⟨G, hG⟩ : ∃ G, swpF F x y q = G := ⟨_, rfl⟩
      have hnx := swpF_next F (x := x) (y := y) (i := q) (by omega)
      rw [hG] at ho hnx
      obtain ⟨u, hu⟩ : ∃ u, G (x + q) = u := ⟨_, rfl⟩
      obtain ⟨v, hv⟩ : ∃ v, G (y + q) = v := ⟨_, rfl⟩
      obtain ⟨c0, c1, c2, c3, c4⟩ := ho.at_ (show x + q < n by omega)
      obtain ⟨d0, d1, d2, d3, d4⟩ := ho.at_ (show y + q < n by omega)
      rw [hu] at c0 c1 c2 c3 c4
      rw [hv] at d0 d1 d2 d3 d4
      have fz := ho.frozen
      have f0 := fz ((x + q) * 5); have f1 := fz ((x + q) * 5 + 1); have f2 := fz ((x + q) * 5 + 2); have f3 := fz ((x + q) * 5 + 3); have f4 := fz ((x + q) * 5 + 4)
      have e0 := fz ((y + q) * 5); have e1 := fz ((y + q) * 5 + 1); have e2 := fz ((y + q) * 5 + 2); have e3 := fz ((y + q) * 5 + 3); have e4 := fz ((y + q) * 5 + 4)
      have b0 : (0 : Int) ≤ (x : Int) + (q : Int) := by omega
      have b1 : (x : Int) + (q : Int) < (n : Int) := by omega
      have b2 : (0 : Int) ≤ (y : Int) + (q : Int) := by omega
      have b3 : (y : Int) + (q : Int) < (n : Int) := by omega
      have t0 : ((x : Int) + (q : Int)).toNat = x + q := by omega
      have t1 : ((y : Int) + (q : Int)).toNat = y + q := by omega
      have HSW := Lib.hid (ho.swap (p := y + q) (q := x + q) (by omega) hv hu)
      have HNX := Lib.hid hnx
      have HG := Lib.hid hg
      clear hG hnx hu hv fz ho hg
      go_wp2
      go_region
      all_goals
        go_wp2
        go_roundw
        case rel => exact ⟨q + 1, by omega, by go_num, by rw [← HNX.out]; exact KF.drew HSW.out, by (repeat (first | with_reducible exact World.grownBy.refl _ _ | with_reducible refine only_drewN ?_ _ | with_reducible refine only_drew ?_ | with_reducible refine only_alloc ?_ _ | with_reducible refine only_setCell ?_ (by first | exact Or.inl rfl | (refine Or.inr ?_; simp; done) | (refine Or.inr ?_; omega)) _)); exact HG.out⟩
        case measure => simp [intOf]; omega
    · obtain rfl : q = k := by omega
      have HO := Lib.hid (And.intro ho hg)
      clear ho hg
      go_wp2
      go_end0
      exact ⟨rfl, HO.out⟩
theorem C_swapKi (base g n cap x y k : Nat) (X Y K : Int) (F : Nat → Lk) (w : World) (h : KF base w g n cap F) (hn : n ≤ 1048576) (hX : X = (x : Int)) (hY : Y = (y : Int)) (hK : K = (k : Int)) (hxy : x + k ≤ y) (hyn : y + k ≤ n) :
    Calls Tryz.prog 145 #[.slice (some ⟨g, 0, none⟩) n cap, .int .i64 X, .int .i64 Y, .int .i64 K, .func (.func 64) #[] #[]] w fun e w' =>
      e = .returned (.tuple #[]) ∧ KF base w' g n cap (swpF F x y k) ∧ w.grownBy w' (some g) := by
  subst hX hY hK
  exact C_swapK base g n cap x y k F w h hn hxy hyn
set_option maxRecDepth 100000 in
set_option maxHeartbeats 8000000 in
theorem C_rotK (base g n cap a m b : Nat) (F : Nat → Lk) (w : World) (h : KF base w g n cap F) (hn : n ≤ 1048576) (ham : a < m) (hmb : m < b) (hbn : b ≤ n) :
    Calls Tryz.prog 129 #[.slice (some ⟨g, 0, none⟩) n cap, .int .i64 a, .int .i64 m, .int .i64 b, .func (.func 64) #[] #[]] w fun e w' =>
      e = .returned (.tuple #[]) ∧ KF base w' g n cap (rotF F a m b) ∧ w.grownBy w' (some g) := by
  have HH := Lib.hid h
  clear h
  go_enter Tryz.func129, Tryz.ntmps129
  go_wp2
  go_loopw [10, 11] (fun p q wr => ∃ (i j : Nat) (G : Nat → Lk), p = .int .i64 i ∧ q = .int .i64 j ∧ 1 ≤ i ∧ 1 ≤ j ∧ i ≤ m - a ∧ j ≤ b - m ∧ KF base wr g n cap G ∧ rotF G (m - i) m (m + j) = rotF F a m b ∧ w.grownBy wr (some g)) (fun p q _ => (intOf p).toNat + (intOf q).toNat)
  case atStart => exact ⟨m - a, b - m, F, by rw [show ((m - a : Nat) : Int) = (m : Int) - (a : Int) by omega], by rw [show ((b - m : Nat) : Int) = (b : Int) - (m : Int) by omega], by omega, by omega, Nat.le_refl _, Nat.le_refl _, HH.out, by rw [show m - (m - a) = a by omega, show m + (b - m) = b by omega], World.grownBy.refl _ _⟩
  case round =>
    obtain ⟨i, j, G, rfl, rfl, hi, hj, hia, hjb, ho, hr, hg⟩ := hrel
    have HO := Lib.hid (And.intro ho (And.intro hr hg))
    clear ho hr hg
    by_cases he : i = j
    · subst he
      have he2 : ((i : Int) != (i : Int)) = false := by simp
      go_wp2_with fail
      refine (C_swapKi base g n cap (m - i) m i _ _ _ G _ HO.out.1 hn (by omega) rfl rfl (by omega) (by omega)).mono ?_; rintro e w1 ⟨rfl, ho1, hg1⟩
      have HO1 := Lib.hid (And.intro ho1 (grown_transK HO.out.2.2 hg1))
      clear ho1 hg1
      go_wp2_with fail
      go_end0
      refine ⟨rfl, ?_, HO1.out.2⟩
      rw [← HO.out.2.1]
      have := rot_swap G (lo := m - i) (m := m) (by omega)
      rw [show m - (m - i) = i by omega] at this
      rw [this]
      exact HO1.out.1
    · have he2 : ((i : Int) != (j : Int)) = true := by rw [bne_iff_ne]; omega
      by_cases hlt : j < i
      · go_wp2_with fail
        refine (C_swapKi base g n cap (m - i) m j _ _ _ G _ HO.out.1 hn (by omega) rfl rfl (by omega) (by omega)).mono ?_; rintro e w1 ⟨rfl, ho1, hg1⟩
        have HO1 := Lib.hid (And.intro ho1 (grown_transK HO.out.2.2 hg1))
        clear ho1 hg1
        go_wp2_with fail
        go_roundw
        case rel => exact ⟨i - j, j, _, by rw [show ((i - j : Nat) : Int) = (i : Int) - (j : Int) by omega], rfl, by omega, by omega, by omega, by omega, HO1.out.1, by rw [show m - (i - j) = m - i + j by omega, ← rot_left G (by omega) hlt]; exact HO.out.2.1, HO1.out.2⟩
        case measure => simp [intOf]; omega
      · go_wp2_with fail
        refine (C_swapKi base g n cap (m - i) (m + j - i) i _ _ _ G _ HO.out.1 hn (by omega) (by omega) rfl (by omega) (by omega)).mono ?_; rintro e w1 ⟨rfl, ho1, hg1⟩
        have HO1 := Lib.hid (And.intro ho1 (grown_transK HO.out.2.2 hg1))
        clear ho1 hg1
        go_wp2_with fail
        go_roundw
        case rel => exact ⟨i, j - i, _, rfl, by rw [show ((j - i : Nat) : Int) = (j : Int) - (i : Int) by omega], by omega, by omega, by omega, by omega, HO1.out.1, by rw [← rot_right G (by omega) (by omega)]; exact HO.out.2.1, HO1.out.2⟩
        case measure => simp [intOf]; omega
end Go.Proofs.YtmhelhjjadoiaaaGreatDoor

/- The library's merging of two sorted runs, at looks. No condition but those stated. -/
namespace Go.Proofs.YtmhelhjjadoiaaaGreatDoor
set_option linter.unusedVariables false
set_option linter.unusedSimpArgs false
open Go.RowKit Go.Sort
theorem rot_step1 (F : Nat → Lk) {a k : Nat} (h : a ≤ k) : swp1 (rotF F a (a + 1) (k + 1)) (k + 1) k = rotF F a (a + 1) (k + 1 + 1) := by
  funext q
  unfold swp1 rotF
  by_cases e : q = k + 1
  · subst e
    rw [if_pos rfl, if_pos (by omega), if_neg (by omega), if_pos (by omega), if_neg (by omega)]
    congr 1; omega
  · rw [if_neg e]
    by_cases e2 : q = k
    · subst e2
      rw [if_pos rfl, if_neg (by omega), if_pos (by omega), if_pos (by omega)]
      congr 1; omega
    · rw [if_neg e2]
      by_cases c : a ≤ q ∧ q < k + 1
      · rw [if_pos c, if_pos (by omega), if_pos (by omega), if_pos (by omega)]
      · rw [if_neg c, if_neg (by omega)]
theorem rot_step2 (F : Nat → Lk) {k m : Nat} (h : k + 1 ≤ m) : swp1 (rotF F (k + 1) m (m + 1)) k (k + 1) = rotF F k m (m + 1) := by
  funext q
  unfold swp1 rotF
  by_cases e : q = k
  · subst e
    rw [if_pos rfl, if_pos (by omega), if_pos (by omega), if_pos (by omega), if_pos (by omega)]
    congr 1; omega
  · rw [if_neg e]
    by_cases e2 : q = k + 1
    · subst e2
      rw [if_pos rfl, if_neg (by omega), if_pos (by omega), if_neg (by omega)]
      congr 1; omega
    · rw [if_neg e2]
      by_cases c : k + 1 ≤ q ∧ q < m + 1
      · rw [if_pos c, if_neg (by omega), if_pos (by omega), if_neg (by omega)]
      · rw [if_neg c, if_neg (by omega)]
theorem half_int (x : Nat) : (x : Int) / 2 = ((x / 2 : Nat) : Int) := by omega
set_option maxRecDepth 100000 in
set_option maxHeartbeats 8000000 in
theorem C_symA (base g n cap a b : Nat) (F : Nat → Lk) (w : World) (h : KF base w g n cap F) (hn : n ≤ 1048576) (hab : a + 1 < b) (hbn : b ≤ n) (hs : SrtF Lk.tick F (a + 1) b) :
    Calls Tryz.prog 104 #[.slice (some ⟨g, 0, none⟩) n cap, .int .i64 a, .int .i64 ((a + 1 : Nat) : Int), .int .i64 b, .func (.func 64) #[] #[]] w fun e w' =>
      e = .returned (.tuple #[]) ∧ ∃ G, KF base w' g n cap G ∧ MrgF Lk.tick F G a b n ∧ w.grownBy w' (some g) := by
  obtain ⟨hcap, hcm⟩ := h.cap
  obtain ⟨x, hx⟩ : ∃ x, F a = x := ⟨_, rfl⟩
  obtain ⟨c0, c1, c2, c3, c4⟩ := h.at_ (show a < n by omega)
  rw [hx] at c0 c1 c2 c3 c4
  have HH := Lib.hid (And.intro h (And.intro hs hx))
  clear h hs hx
  have e1 : ((a : Int) + 1 - (a : Int)) = 1 := by omega
  go_enter Tryz.func104, Tryz.ntmps104
  go_wp2
  go_loopw [10, 11] (fun p q wr => ∃ i j : Nat, p = .int .i64 i ∧ q = .int .i64 j ∧ a + 1 ≤ i ∧ i ≤ j ∧ j ≤ b ∧ (a + 1 < i → (F (i - 1)).tick ≤ (F a).tick) ∧ (j < b → (F a).tick ≤ (F j).tick) ∧ Below w.heap.size w wr) (fun p q _ => (intOf q).toNat - (intOf p).toNat)
  case atStart => exact ⟨a + 1, b, rfl, rfl, Nat.le_refl _, by omega, Nat.le_refl _, fun h => absurd h (by omega), fun h => absurd h (by omega), by (repeat (first | with_reducible exact Below.refl _ _ | with_reducible exact below_regrown _ _ _ | with_reducible refine bel_step0 (by assumption) ?_ | with_reducible refine bel_alloc0 ?_ _ | with_reducible refine bel_regrown0 ?_ _ _ | with_reducible refine bel_regrown ?_ (by first | omega | (simp; done) | (simp; omega)) _ _ | with_reducible refine below_drewN ?_ _ | with_reducible refine Below.drew ?_ | with_reducible refine Below.alloc ?_ (by first | omega | (simp; done) | (simp; omega)) _ | with_reducible refine Below.setCell ?_ (by first | omega | (simp; done) | (simp; omega)) _ | with_reducible refine bel_step (by assumption) (by first | omega | (simp; done) | (simp; omega)) ?_ | with_reducible refine bel_grown (by assumption) (by first | omega | (simp; done) | (simp; omega)) (by first | omega | (simp; done) | (simp; omega)) ?_))⟩
  case round =>
    obtain ⟨i, j, rfl, rfl, hi, hij, hj, hlo, hhi, hB⟩ := hrel
    by_cases hlt : i < j
    · obtain ⟨h, hh⟩ : ∃ h : Nat, (i + j) / 2 = h := ⟨_, rfl⟩
      have eh : ((i : Int) + (j : Int)) / 2 = (h : Int) := by omega
      have hh1 : i ≤ h := by omega
      have hh2 : h < j := by omega
      obtain ⟨y, hy⟩ : ∃ y, F h = y := ⟨_, rfl⟩
      obtain ⟨d0, d1, d2, d3, d4⟩ := (HH.out.1.below hB).at_ (show h < n by omega)
      obtain ⟨b0, b1, b2, b3, b4⟩ := (HH.out.1.below hB).at_ (show a < n by omega)
      rw [HH.out.2.2] at b0 b1 b2 b3 b4
      rw [hy] at d0 d1 d2 d3 d4
      have g0 := cell_regrown b0; have g1 := cell_regrown b1; have g2 := cell_regrown b2; have g3 := cell_regrown b3; have g4 := cell_regrown b4
      have k0 := cell_regrown d0; have k1 := cell_regrown d1; have k2 := cell_regrown d2; have k3 := cell_regrown d3; have k4 := cell_regrown d4
      have HE : ∀ d os, Calls Tryz.prog 64 #[.agg #[.int .i64 (y).tick, .int .i64 (y).who, .int .i64 (y).rid, .int .i64 (y).kind, .string (y).why], .agg #[.int .i64 (x).tick, .int .i64 (x).who, .int .i64 (x).rid, .int .i64 (x).kind, .string (x).why]] (grow (redrawn wr d) os) fun e w'' => e = .returned (.int .i64 (cmpI y.tick x.tick)) ∧ ∃ p : Regrown, w'' = grow (redrawn wr p.d) p.os :=
        fun d os => Calls.regrown_of (C_Mrg1 y x _)
      obtain ⟨bb, hb⟩ : ∃ bb, decide (y.tick < x.tick) = bb := ⟨_, rfl⟩
      have hcl : decide (cmpI y.tick x.tick < 0) = bb := by rw [cmpI_lt]; exact hb
      have q1 : (0 : Int) ≤ (h : Int) := by omega
      have q2 : (h : Int) < (n : Int) := by omega
      have q3 : (a : Int) < (n : Int) := by omega
      have q4 : (0 : Int) ≤ (a : Int) := by omega
      have HH2 := Lib.hid (And.intro hlo (And.intro hhi (And.intro hy hb)))
      clear hlo hhi b0 b1 b2 b3 b4 d0 d1 d2 d3 d4 c0 c1 c2 c3 c4 hb hy hh
      go_wp2
      clear eh
      (refine wp_region_quiet_below (by kernel_rfl) (by kernel_rfl) ?_; (repeat (go_big_quiet_step (exact HE _ _))); refine wpQuiet_nil ?_; intro _ hw'; obtain ⟨⟨dq, osq⟩, hw''⟩ := hw'; subst hw'')
      clear g0 g1 g2 g3 g4 k0 k1 k2 k3 k4 HE
      cases bb
      · go_wp2
        go_roundw
        case rel => exact ⟨i, h, rfl, rfl, hi, by omega, by omega, HH2.out.1, fun _ => by rw [HH2.out.2.2.1, HH.out.2.2]; have := HH2.out.2.2.2; simp at this; exact this, by (repeat (first | with_reducible exact Below.refl _ _ | with_reducible exact below_regrown _ _ _ | with_reducible refine bel_step0 (by assumption) ?_ | with_reducible refine bel_alloc0 ?_ _ | with_reducible refine bel_regrown0 ?_ _ _ | with_reducible refine bel_regrown ?_ (by first | omega | (simp; done) | (simp; omega)) _ _ | with_reducible refine below_drewN ?_ _ | with_reducible refine Below.drew ?_ | with_reducible refine Below.alloc ?_ (by first | omega | (simp; done) | (simp; omega)) _ | with_reducible refine Below.setCell ?_ (by first | omega | (simp; done) | (simp; omega)) _ | with_reducible refine bel_step (by assumption) (by first | omega | (simp; done) | (simp; omega)) ?_ | with_reducible refine bel_grown (by assumption) (by first | omega | (simp; done) | (simp; omega)) (by first | omega | (simp; done) | (simp; omega)) ?_))⟩
        case measure => simp [intOf]; omega
      · go_wp2
        go_roundw
        case rel => exact ⟨h + 1, j, by go_num, rfl, by omega, by omega, hj, fun _ => by rw [show h + 1 - 1 = h by omega, HH2.out.2.2.1, HH.out.2.2]; have := HH2.out.2.2.2; simp at this; omega, HH2.out.2.1, by (repeat (first | with_reducible exact Below.refl _ _ | with_reducible exact below_regrown _ _ _ | with_reducible refine bel_step0 (by assumption) ?_ | with_reducible refine bel_alloc0 ?_ _ | with_reducible refine bel_regrown0 ?_ _ _ | with_reducible refine bel_regrown ?_ (by first | omega | (simp; done) | (simp; omega)) _ _ | with_reducible refine below_drewN ?_ _ | with_reducible refine Below.drew ?_ | with_reducible refine Below.alloc ?_ (by first | omega | (simp; done) | (simp; omega)) _ | with_reducible refine Below.setCell ?_ (by first | omega | (simp; done) | (simp; omega)) _ | with_reducible refine bel_step (by assumption) (by first | omega | (simp; done) | (simp; omega)) ?_ | with_reducible refine bel_grown (by assumption) (by first | omega | (simp; done) | (simp; omega)) (by first | omega | (simp; done) | (simp; omega)) ?_))⟩
        case measure => simp [intOf]; omega
    · obtain rfl : i = j := by omega
      have HH2 := Lib.hid (And.intro hlo hhi)
      have HG := Lib.hid (And.intro (HH.out.1.below hB) (show w.grownBy wr (some g) from grown_belowK (World.grownBy.refl _ _) hB))
      clear hlo hhi hB c0 c1 c2 c3 c4
      go_wp2
      go_loopw [13] (fun p wi => ∃ k : Nat, p = .int .i64 k ∧ a ≤ k ∧ k + 1 ≤ i ∧ KF base wi g n cap (rotF F a (a + 1) (k + 1)) ∧ w.grownBy wi (some g)) (fun p _ => i - (intOf p).toNat)
      case atStart => exact ⟨a, rfl, Nat.le_refl _, by omega, by rw [rot_trivR F (by omega)]; exact HG.out.1, HG.out.2⟩
      case round =>
        clear HG
        obtain ⟨k, rfl, hak, hki, ho, hg⟩ := hrel
        by_cases hlt2 : k + 1 < i
        · obtain ⟨G, hG⟩ : ∃ G, rotF F a (a + 1) (k + 1) = G := ⟨_, rfl⟩
          have hnx := rot_step1 F hak
          rw [hG] at ho hnx
          have hpk : (k : Int) < (i : Int) - 1 := by omega
          obtain ⟨u, hu⟩ : ∃ u, G (k) = u := ⟨_, rfl⟩
          obtain ⟨v, hv⟩ : ∃ v, G (k + 1) = v := ⟨_, rfl⟩
          obtain ⟨c0, c1, c2, c3, c4⟩ := ho.at_ (show k < n by omega)
          obtain ⟨d0, d1, d2, d3, d4⟩ := ho.at_ (show k + 1 < n by omega)
          rw [hu] at c0 c1 c2 c3 c4
          rw [hv] at d0 d1 d2 d3 d4
          have fz := ho.frozen
          have f0 := fz ((k) * 5); have f1 := fz ((k) * 5 + 1); have f2 := fz ((k) * 5 + 2); have f3 := fz ((k) * 5 + 3); have f4 := fz ((k) * 5 + 4)
          have e0 := fz ((k + 1) * 5); have e1 := fz ((k + 1) * 5 + 1); have e2 := fz ((k + 1) * 5 + 2); have e3 := fz ((k + 1) * 5 + 3); have e4 := fz ((k + 1) * 5 + 4)
          have b0 : (0 : Int) ≤ (k : Int) := by omega
          have b1 : (k : Int) < (n : Int) := by omega
          have b2 : (0 : Int) ≤ (k : Int) + 1 := by omega
          have b3 : (k : Int) + 1 < (n : Int) := by omega
          have t0 : ((k : Int)).toNat = k := by omega
          have t1 : ((k : Int) + 1).toNat = k + 1 := by omega
          have HSW := Lib.hid (ho.swap (p := k + 1) (q := k) (by omega) hv hu)
          have HNX := Lib.hid hnx
          have HG := Lib.hid hg
          clear hG hnx hu hv fz ho hg
          go_wp2
          go_region
          all_goals
            go_wp2
            go_roundw
          case rel => exact ⟨k + 1, by go_num, by omega, by omega, by rw [← HNX.out]; exact KF.drew HSW.out, by (repeat (first | with_reducible exact World.grownBy.refl _ _ | with_reducible refine only_drewN ?_ _ | with_reducible refine only_drew ?_ | with_reducible refine only_alloc ?_ _ | with_reducible refine only_setCell ?_ (by first | exact Or.inl rfl | (refine Or.inr ?_; simp; done) | (refine Or.inr ?_; omega)) _)); exact HG.out⟩
          case measure => simp [intOf]; omega
        · obtain rfl : k + 1 = i := by omega
          have hpk : ¬ (k : Int) < ((k + 1 : Nat) : Int) - 1 := by omega
          have HO := Lib.hid (And.intro ho hg)
          have HM := Lib.hid (mrg_first HH.out.2.1 hi hj HH2.out.1 HH2.out.2 hbn)
          clear ho hg
          go_wp2
          (try simp only [Exit.inBlock, Exit.then]); refine bodyPost_ret (results_none rfl _ _ _) rfl ?_
          exact ⟨rfl, _, HO.out.1, HM.out, HO.out.2⟩
set_option maxRecDepth 100000 in
set_option maxHeartbeats 8000000 in
theorem C_symB (base g n cap a m : Nat) (F : Nat → Lk) (w : World) (h : KF base w g n cap F) (hn : n ≤ 1048576) (hab : a + 2 ≤ m) (hbn : m + 1 ≤ n) (hs : SrtF Lk.tick F a m) :
    Calls Tryz.prog 104 #[.slice (some ⟨g, 0, none⟩) n cap, .int .i64 a, .int .i64 m, .int .i64 ((m + 1 : Nat) : Int), .func (.func 64) #[] #[]] w fun e w' =>
      e = .returned (.tuple #[]) ∧ ∃ G, KF base w' g n cap G ∧ MrgF Lk.tick F G a (m + 1) n ∧ w.grownBy w' (some g) := by
  obtain ⟨hcap, hcm⟩ := h.cap
  obtain ⟨x, hx⟩ : ∃ x, F m = x := ⟨_, rfl⟩
  have HH := Lib.hid (And.intro h (And.intro hs hx))
  clear h hs hx
  have e0 : ((m : Int) - (a : Int) == 1) = false := by rw [beq_eq_false_iff_ne]; omega
  have e1 : ((m : Int) + 1 - (m : Int)) = 1 := by omega
  go_enter Tryz.func104, Tryz.ntmps104
  go_wp2
  go_loopw [14, 15] (fun p q wr => ∃ i j : Nat, p = .int .i64 i ∧ q = .int .i64 j ∧ a ≤ i ∧ i ≤ j ∧ j ≤ m ∧ (a < i → (F (i - 1)).tick ≤ (F m).tick) ∧ (j < m → (F m).tick ≤ (F j).tick) ∧ Below w.heap.size w wr) (fun p q _ => (intOf q).toNat - (intOf p).toNat)
  case atStart => exact ⟨a, m, rfl, rfl, Nat.le_refl _, by omega, Nat.le_refl _, fun h => absurd h (by omega), fun h => absurd h (by omega), by (repeat (first | with_reducible exact Below.refl _ _ | with_reducible exact below_regrown _ _ _ | with_reducible refine bel_step0 (by assumption) ?_ | with_reducible refine bel_alloc0 ?_ _ | with_reducible refine bel_regrown0 ?_ _ _ | with_reducible refine bel_regrown ?_ (by first | omega | (simp; done) | (simp; omega)) _ _ | with_reducible refine below_drewN ?_ _ | with_reducible refine Below.drew ?_ | with_reducible refine Below.alloc ?_ (by first | omega | (simp; done) | (simp; omega)) _ | with_reducible refine Below.setCell ?_ (by first | omega | (simp; done) | (simp; omega)) _ | with_reducible refine bel_step (by assumption) (by first | omega | (simp; done) | (simp; omega)) ?_ | with_reducible refine bel_grown (by assumption) (by first | omega | (simp; done) | (simp; omega)) (by first | omega | (simp; done) | (simp; omega)) ?_))⟩
  case round =>
    obtain ⟨i, j, rfl, rfl, hi, hij, hj, hlo, hhi, hB⟩ := hrel
    by_cases hlt : i < j
    · obtain ⟨h, hh⟩ : ∃ h : Nat, (i + j) / 2 = h := ⟨_, rfl⟩
      have eh : ((i : Int) + (j : Int)) / 2 = (h : Int) := by omega
      have hh1 : i ≤ h := by omega
      have hh2 : h < j := by omega
      obtain ⟨y, hy⟩ : ∃ y, F h = y := ⟨_, rfl⟩
      obtain ⟨d0, d1, d2, d3, d4⟩ := (HH.out.1.below hB).at_ (show h < n by omega)
      obtain ⟨b0, b1, b2, b3, b4⟩ := (HH.out.1.below hB).at_ (show m < n by omega)
      rw [HH.out.2.2] at b0 b1 b2 b3 b4
      rw [hy] at d0 d1 d2 d3 d4
      have g0 := cell_regrown b0; have g1 := cell_regrown b1; have g2 := cell_regrown b2; have g3 := cell_regrown b3; have g4 := cell_regrown b4
      have k0 := cell_regrown d0; have k1 := cell_regrown d1; have k2 := cell_regrown d2; have k3 := cell_regrown d3; have k4 := cell_regrown d4
      have HE : ∀ d os, Calls Tryz.prog 64 #[.agg #[.int .i64 (x).tick, .int .i64 (x).who, .int .i64 (x).rid, .int .i64 (x).kind, .string (x).why], .agg #[.int .i64 (y).tick, .int .i64 (y).who, .int .i64 (y).rid, .int .i64 (y).kind, .string (y).why]] (grow (redrawn wr d) os) fun e w'' => e = .returned (.int .i64 (cmpI x.tick y.tick)) ∧ ∃ p : Regrown, w'' = grow (redrawn wr p.d) p.os :=
        fun d os => Calls.regrown_of (C_Mrg1 x y _)
      obtain ⟨bb, hb⟩ : ∃ bb, decide (x.tick < y.tick) = bb := ⟨_, rfl⟩
      have hcl : decide (cmpI x.tick y.tick < 0) = bb := by rw [cmpI_lt]; exact hb
      have q1 : (0 : Int) ≤ (h : Int) := by omega
      have q2 : (h : Int) < (n : Int) := by omega
      have q3 : (m : Int) < (n : Int) := by omega
      have q4 : (0 : Int) ≤ (m : Int) := by omega
      have HH2 := Lib.hid (And.intro hlo (And.intro hhi (And.intro hy hb)))
      clear hlo hhi b0 b1 b2 b3 b4 d0 d1 d2 d3 d4 hb hy hh
      go_wp2
      clear eh
      (refine wp_region_quiet_below (by kernel_rfl) (by kernel_rfl) ?_; (repeat (go_big_quiet_step (exact HE _ _))); refine wpQuiet_nil ?_; intro _ hw'; obtain ⟨⟨dq, osq⟩, hw''⟩ := hw'; subst hw'')
      clear g0 g1 g2 g3 g4 k0 k1 k2 k3 k4 HE
      cases bb
      · go_wp2
        go_roundw
        case rel => exact ⟨h + 1, j, by go_num, rfl, by omega, by omega, hj, fun _ => by rw [show h + 1 - 1 = h by omega, HH2.out.2.2.1, HH.out.2.2]; have := HH2.out.2.2.2; simp at this; omega, HH2.out.2.1, by (repeat (first | with_reducible exact Below.refl _ _ | with_reducible exact below_regrown _ _ _ | with_reducible refine bel_step0 (by assumption) ?_ | with_reducible refine bel_alloc0 ?_ _ | with_reducible refine bel_regrown0 ?_ _ _ | with_reducible refine bel_regrown ?_ (by first | omega | (simp; done) | (simp; omega)) _ _ | with_reducible refine below_drewN ?_ _ | with_reducible refine Below.drew ?_ | with_reducible refine Below.alloc ?_ (by first | omega | (simp; done) | (simp; omega)) _ | with_reducible refine Below.setCell ?_ (by first | omega | (simp; done) | (simp; omega)) _ | with_reducible refine bel_step (by assumption) (by first | omega | (simp; done) | (simp; omega)) ?_ | with_reducible refine bel_grown (by assumption) (by first | omega | (simp; done) | (simp; omega)) (by first | omega | (simp; done) | (simp; omega)) ?_))⟩
        case measure => simp [intOf]; omega
      · go_wp2
        go_roundw
        case rel => exact ⟨i, h, rfl, rfl, hi, by omega, by omega, HH2.out.1, fun _ => by rw [HH2.out.2.2.1, HH.out.2.2]; have := HH2.out.2.2.2; simp at this; omega, by (repeat (first | with_reducible exact Below.refl _ _ | with_reducible exact below_regrown _ _ _ | with_reducible refine bel_step0 (by assumption) ?_ | with_reducible refine bel_alloc0 ?_ _ | with_reducible refine bel_regrown0 ?_ _ _ | with_reducible refine bel_regrown ?_ (by first | omega | (simp; done) | (simp; omega)) _ _ | with_reducible refine below_drewN ?_ _ | with_reducible refine Below.drew ?_ | with_reducible refine Below.alloc ?_ (by first | omega | (simp; done) | (simp; omega)) _ | with_reducible refine Below.setCell ?_ (by first | omega | (simp; done) | (simp; omega)) _ | with_reducible refine bel_step (by assumption) (by first | omega | (simp; done) | (simp; omega)) ?_ | with_reducible refine bel_grown (by assumption) (by first | omega | (simp; done) | (simp; omega)) (by first | omega | (simp; done) | (simp; omega)) ?_))⟩
        case measure => simp [intOf]; omega
    · obtain rfl : i = j := by omega
      have HH2 := Lib.hid (And.intro hlo hhi)
      have HG := Lib.hid (And.intro (HH.out.1.below hB) (show w.grownBy wr (some g) from grown_belowK (World.grownBy.refl _ _) hB))
      clear hlo hhi hB
      go_wp2
      go_loopw [17] (fun p wi => ∃ k : Nat, p = .int .i64 k ∧ i ≤ k ∧ k ≤ m ∧ KF base wi g n cap (rotF F k m (m + 1)) ∧ w.grownBy wi (some g)) (fun p _ => (intOf p).toNat)
      case atStart => exact ⟨m, rfl, hj, Nat.le_refl _, by rw [rot_trivL F]; exact HG.out.1, HG.out.2⟩
      case round =>
        clear HG
        obtain ⟨k, rfl, hak, hki, ho, hg⟩ := hrel
        by_cases hlt2 : i < k
        · obtain ⟨k, rfl⟩ : ∃ q, k = q + 1 := ⟨k - 1, by omega⟩
          obtain ⟨G, hG⟩ : ∃ G, rotF F (k + 1) m (m + 1) = G := ⟨_, rfl⟩
          have hnx := rot_step2 F hki
          rw [hG] at ho hnx
          have hpk : (i : Int) < (k : Int) + 1 := by omega
          have hpk2 : (k : Int) + 1 - 1 = (k : Int) := by omega
          obtain ⟨u, hu⟩ : ∃ u, G (k + 1) = u := ⟨_, rfl⟩
          obtain ⟨v, hv⟩ : ∃ v, G (k) = v := ⟨_, rfl⟩
          obtain ⟨c0, c1, c2, c3, c4⟩ := ho.at_ (show k + 1 < n by omega)
          obtain ⟨d0, d1, d2, d3, d4⟩ := ho.at_ (show k < n by omega)
          rw [hu] at c0 c1 c2 c3 c4
          rw [hv] at d0 d1 d2 d3 d4
          have fz := ho.frozen
          have f0 := fz ((k + 1) * 5); have f1 := fz ((k + 1) * 5 + 1); have f2 := fz ((k + 1) * 5 + 2); have f3 := fz ((k + 1) * 5 + 3); have f4 := fz ((k + 1) * 5 + 4)
          have e0 := fz ((k) * 5); have e1 := fz ((k) * 5 + 1); have e2 := fz ((k) * 5 + 2); have e3 := fz ((k) * 5 + 3); have e4 := fz ((k) * 5 + 4)
          have b0 : (0 : Int) ≤ (k : Int) + 1 := by omega
          have b1 : (k : Int) + 1 < (n : Int) := by omega
          have b2 : (0 : Int) ≤ (k : Int) := by omega
          have b3 : (k : Int) < (n : Int) := by omega
          have t0 : ((k : Int) + 1).toNat = k + 1 := by omega
          have t1 : ((k : Int)).toNat = k := by omega
          have HSW := Lib.hid (ho.swap (p := k) (q := k + 1) (by omega) hv hu)
          have HNX := Lib.hid hnx
          have HG := Lib.hid hg
          clear hG hnx hu hv fz ho hg
          go_wp2
          go_region
          all_goals
            go_wp2
            go_roundw
          case rel => exact ⟨k, by go_num, by omega, by omega, by rw [← HNX.out]; exact KF.drew HSW.out, by (repeat (first | with_reducible exact World.grownBy.refl _ _ | with_reducible refine only_drewN ?_ _ | with_reducible refine only_drew ?_ | with_reducible refine only_alloc ?_ _ | with_reducible refine only_setCell ?_ (by first | exact Or.inl rfl | (refine Or.inr ?_; simp; done) | (refine Or.inr ?_; omega)) _)); exact HG.out⟩
          case measure => simp [intOf]
        · obtain rfl : k = i := by omega
          have HO := Lib.hid (And.intro ho hg)
          have HM := Lib.hid (mrg_last HH.out.2.1 hi hj HH2.out.1 HH2.out.2 hbn)
          clear ho hg
          go_wp2
          (try simp only [Exit.inBlock, Exit.then]); refine bodyPost_ret (results_none rfl _ _ _) rfl ?_
          exact ⟨rfl, _, HO.out.1, HM.out, HO.out.2⟩
end Go.Proofs.YtmhelhjjadoiaaaGreatDoor
