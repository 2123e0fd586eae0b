/- Rows of looks that are sorted in place. No condition but those stated. -/
import Derived.Test.YtmhelhjjadoiaaaDoorLkR
import Derived.Test.YtmhelhjjadoiaaaDoorCmp
import Derived.Test.YtmhelhjjadoiaaaDoorSym
import Derived.BigRegion
namespace Go.Proofs.YtmhelhjjadoiaaaDoor
set_option linter.unusedVariables false
set_option linter.unusedSimpArgs false
open Go.RowKit Go.Sort
theorem cmpI_lt (a b : Int) : decide (cmpI a b < 0) = decide (a < b) := by
  unfold cmpI
  by_cases h : a < b
  · simp [h]
  · by_cases h2 : b < a <;> simp [h, h2]
theorem C_Mrg1 (x y : Lk) (w : World) : Calls Tryd.prog 76 #[.agg #[.int .i64 (x).tick, .int .i64 (x).who, .int .i64 (x).rid, .int .i64 (x).kind, .string (x).why], .agg #[.int .i64 (y).tick, .int .i64 (y).who, .int .i64 (y).rid, .int .i64 (y).kind, .string (y).why]] w fun e w' => e = .returned (.int .i64 (cmpI x.tick y.tick)) ∧ Below w.heap.size w w' := by
  go_enter Tryd.func76, Tryd.ntmps76
  go_wp2_with (go_at_call 77; refine (C_CompareI _ _ _).mono ?_; rintro e w' ⟨rfl, rfl⟩)
  go_ret
  exact ⟨rfl, by (repeat (first | with_reducible exact Below.refl _ _ | with_reducible exact below_regrown _ _ _ | with_reducible refine bel_step0 (by assumption) ?_ | with_reducible refine bel_alloc0 ?_ _ | with_reducible refine bel_regrown0 ?_ _ _ | with_reducible refine bel_regrown ?_ (by first | omega | (simp; done) | (simp; omega)) _ _ | with_reducible refine below_drewN ?_ _ | with_reducible refine Below.drew ?_ | with_reducible refine Below.alloc ?_ (by first | omega | (simp; done) | (simp; omega)) _ | with_reducible refine Below.setCell ?_ (by first | omega | (simp; done) | (simp; omega)) _ | with_reducible refine bel_step (by assumption) (by first | omega | (simp; done) | (simp; omega)) ?_ | with_reducible refine bel_grown (by assumption) (by first | omega | (simp; done) | (simp; omega)) (by first | omega | (simp; done) | (simp; omega)) ?_))⟩
/-- The n looks F lie in a row of the call's own: the slice (g, n, cap). -/
def KF (base : Nat) (w : World) (g n cap : Nat) (F : Nat → Lk) : Prop :=
  ∃ xs : List Value, w.ownsRow base 26 5 (.slice (some ⟨g, 0, none⟩) n cap) n xs ∧ ∀ i, i < n * 5 → xs[i]? = some (cK (F (i / 5)) (i % 5))
theorem KF.congr {base g n cap : Nat} {w : World} {F G : Nat → Lk} (h : KF base w g n cap F) (e : ∀ i, i < n → F i = G i) : KF base w g n cap G :=
  let ⟨xs, h1, h2⟩ := h
  ⟨xs, h1, fun i hi => by rw [h2 i hi, e (i / 5) (by omega)]⟩
theorem KF.ofB {base g n cap : Nat} {w w' : World} {F : Nat → Lk} (h : KF base w g n cap F) (hb : w'.heap[g]? = w.heap[g]?) : KF base w' g n cap F :=
  let ⟨xs, h1, h2⟩ := h
  ⟨xs, own_of_block h1 (fun q hq => by have : g = q := (by simpa [Value.ownBlock] using hq); subst this; exact hb), h2⟩
theorem KF.lt {base g n cap : Nat} {w : World} {F : Nat → Lk} (h : KF base w g n cap F) : base ≤ g ∧ g < w.heap.size :=
  let ⟨_, h1, _⟩ := h
  World.ownsRow.lt h1 g (by simp [Value.ownBlock])
theorem KF.below {base g n cap : Nat} {w w' : World} {F : Nat → Lk} (hb : Below w.heap.size w w') (h : KF base w g n cap F) : KF base w' g n cap F := h.ofB (hb.block g h.lt.2)
theorem KF.cap {base g n cap : Nat} {w : World} {F : Nat → Lk} (h : KF base w g n cap F) : n ≤ cap ∧ cap ≤ 9223372036854775807 := by
  obtain ⟨xs, h1, _⟩ := h
  rcases h1.2 with ⟨h2, _⟩ | ⟨g', cap', cur, e, _, _, hnc, hcm, _⟩
  · cases h2
  · injection e with _ _ e3
    subst e3
    exact ⟨hnc, by unfold maxLen at hcm; exact hcm⟩
theorem KF.cell {base g n cap : Nat} {w : World} {F : Nat → Lk} (h : KF base w g n cap F) {j m : Nat} (hj : j < n) (hm : m < 5) : w.cell? ⟨g, j * 5 + m, none⟩ = some (cK (F j) m) := by
  obtain ⟨xs, h1, h2⟩ := h
  rw [h1.cellAt (j * 5 + m) (by omega), h2 _ (by omega), show (j * 5 + m) / 5 = j by omega, show (j * 5 + m) % 5 = m by omega]
theorem KF.at_ {base g n cap : Nat} {w : World} {F : Nat → Lk} (h : KF base w g n cap F) {j : Nat} (hj : j < n) : LkAt w g (j * 5) (F j) :=
  ⟨h.cell hj (m := 0) (by omega), h.cell hj (m := 1) (by omega), h.cell hj (m := 2) (by omega), h.cell hj (m := 3) (by omega), h.cell hj (m := 4) (by omega)⟩
theorem KF.frozen {base g n cap : Nat} {w : World} {F : Nat → Lk} (h : KF base w g n cap F) (i : Nat) : w.frozen? ⟨g, i, none⟩ = false := by
  obtain ⟨xs, h1, _⟩ := h
  exact h1.frozenAt i
def upd (F : Nat → Lk) (j : Nat) (x : Lk) (i : Nat) : Lk := if i = j then x else F i
theorem KF.set {base g n cap : Nat} {w : World} {F : Nat → Lk} (h : KF base w g n cap F) (j : Nat) (x : Lk) :
    KF base (((((w.setCell ⟨g, j * 5, none⟩ (.int .i64 x.tick)).setCell ⟨g, j * 5 + 1, none⟩ (.int .i64 x.who)).setCell ⟨g, j * 5 + 2, none⟩ (.int .i64 x.rid)).setCell ⟨g, j * 5 + 3, none⟩ (.int .i64 x.kind)).setCell ⟨g, j * 5 + 4, none⟩ (.string x.why)) g n cap (upd F j x) := by
  obtain ⟨xs, h1, h2⟩ := h
  refine ⟨((((xs.set (j * 5) (.int .i64 x.tick)).set (j * 5 + 1) (.int .i64 x.who)).set (j * 5 + 2) (.int .i64 x.rid)).set (j * 5 + 3) (.int .i64 x.kind)).set (j * 5 + 4) (.string x.why),
    (((((h1.stored (j * 5) _).1.stored (j * 5 + 1) _).1.stored (j * 5 + 2) _).1.stored (j * 5 + 3) _).1.stored (j * 5 + 4) _).1, fun i hi => ?_⟩
  have hl : xs.length = n * 5 := h1.1
  simp only [List.getElem?_set, List.length_set]
  unfold upd
  have h2i := h2 i hi
  by_cases e4 : j * 5 + 4 = i
  · rw [if_pos e4, if_pos (by omega), if_pos (by omega), show i % 5 = 4 by omega]; rfl
  rw [if_neg e4]
  by_cases e3 : j * 5 + 3 = i
  · rw [if_pos e3, if_pos (by omega), if_pos (by omega), show i % 5 = 3 by omega]; rfl
  rw [if_neg e3]
  by_cases e2 : j * 5 + 2 = i
  · rw [if_pos e2, if_pos (by omega), if_pos (by omega), show i % 5 = 2 by omega]; rfl
  rw [if_neg e2]
  by_cases e1 : j * 5 + 1 = i
  · rw [if_pos e1, if_pos (by omega), if_pos (by omega), show i % 5 = 1 by omega]; rfl
  rw [if_neg e1]
  by_cases e0 : j * 5 = i
  · rw [if_pos e0, if_pos (by omega), if_pos (by omega), show i % 5 = 0 by omega]; rfl
  rw [if_neg e0, h2i, if_neg (by omega)]
/-- Two elements exchanged. -/
def swp1 (F : Nat → Lk) (p q : Nat) (i : Nat) : Lk := if i = p then F q else if i = q then F p else F i
theorem upd_swp (F : Nat → Lk) {p q : Nat} (h : p ≠ q) : upd (upd F q (F p)) p (F q) = swp1 F p q := by
  funext i
  rfl
theorem swp1_comm (F : Nat → Lk) {p q : Nat} : swp1 F p q = swp1 F q p := by
  funext i
  unfold swp1
  by_cases e : i = p
  · by_cases e2 : i = q
    · rw [if_pos e, if_pos e2]; subst e e2; rfl
    · rw [if_pos e, if_neg e2, if_pos e]
  · by_cases e2 : i = q
    · rw [if_neg e, if_pos e2, if_pos e2]
    · rw [if_neg e, if_neg e2, if_neg e2, if_neg e]
theorem swp1_swpF (F : Nat → Lk) (p q : Nat) : swp1 F p q = swpF F p q 1 := by
  funext i
  unfold swp1 swpF
  by_cases e : i = p
  · rw [if_pos e, if_pos (show p ≤ i ∧ i < p + 1 by omega), show q + (i - p) = q by omega]
  · rw [if_neg e, if_neg (show ¬ (p ≤ i ∧ i < p + 1) by omega)]
    by_cases e2 : i = q
    · rw [if_pos e2, if_pos (show q ≤ i ∧ i < q + 1 by omega), show p + (i - q) = p by omega]
    · rw [if_neg e2, if_neg (show ¬ (q ≤ i ∧ i < q + 1) by omega)]
theorem swp1_next (F : Nat → Lk) (p : Nat) : swp1 F p (p + 1) = rotF F p (p + 1) (p + 1 + 1) := by
  have := rot_swap F (lo := p) (m := p + 1) (by omega)
  rw [show p + 1 + (p + 1 - p) = p + 1 + 1 by omega, show p + 1 - p = 1 by omega] at this
  rw [this, swp1_swpF]
theorem grown_belowK {w w1 w2 : World} {g : Nat} (h : w.grownBy w1 (some g)) (hb : Below w1.heap.size w1 w2) : w.grownBy w2 (some g) :=
  ⟨hb.os.trans h.os, hb.tape.trans h.tape, hb.output.trans h.output, Nat.le_trans h.size hb.size, fun k hk hn => (hb.block k (Nat.lt_of_lt_of_le hk h.size)).trans (h.block k hk hn)⟩
theorem grown_transK {w w1 w2 : World} {g : Nat} (h : w.grownBy w1 (some g)) (k : w1.grownBy w2 (some g)) : w.grownBy w2 (some g) :=
  ⟨k.os.trans h.os, k.tape.trans h.tape, k.output.trans h.output, Nat.le_trans h.size k.size, fun q hq hn => (k.block q (Nat.lt_of_lt_of_le hq h.size) hn).trans (h.block q hq hn)⟩
theorem KF.drew {base g n cap : Nat} {w : World} {F : Nat → Lk} (h : KF base w g n cap F) : KF base w.drew g n cap F := h.below (Below.refl _ _).drew
/-- The two elements at p and q, exchanged by stores at q first. -/
theorem KF.swap {base g n cap : Nat} {w : World} {F : Nat → Lk} (h : KF base w g n cap F) {p q : Nat} (hpq : p ≠ q) {x y : Lk} (hx : F p = x) (hy : F q = y) :
    KF base ((((((((((w.setCell ⟨g, q * 5, none⟩ (.int .i64 x.tick)).setCell ⟨g, q * 5 + 1, none⟩ (.int .i64 x.who)).setCell ⟨g, q * 5 + 2, none⟩ (.int .i64 x.rid)).setCell ⟨g, q * 5 + 3, none⟩ (.int .i64 x.kind)).setCell ⟨g, q * 5 + 4, none⟩ (.string x.why)).setCell ⟨g, p * 5, none⟩ (.int .i64 y.tick)).setCell ⟨g, p * 5 + 1, none⟩ (.int .i64 y.who)).setCell ⟨g, p * 5 + 2, none⟩ (.int .i64 y.rid)).setCell ⟨g, p * 5 + 3, none⟩ (.int .i64 y.kind)).setCell ⟨g, p * 5 + 4, none⟩ (.string y.why)) g n cap (swp1 F p q) := by
  have := (h.set q x).set p y
  rw [← hx, ← hy, upd_swp F hpq] at this
  rw [← hx, ← hy]
  exact this
theorem OL.kf {base g n cap : Nat} {w : World} {l : List Lk} (hn : l.length = n) (h : OL base w (.slice (some ⟨g, 0, none⟩) n cap) l) : KF base w g n cap (atK l) := by
  subst hn
  exact ⟨cells5 l, h, fun i hi => cells5_get hi⟩
theorem atK_seg {F : Nat → Lk} {n j : Nat} (h : j < n) : atK (seg F 0 n) j = F j := by
  rw [atK_get (by rw [seg_len]; exact h)]
  simp [seg]
theorem KF.ol {base g n cap : Nat} {w : World} {F : Nat → Lk} (h : KF base w g n cap F) : OL base w (.slice (some ⟨g, 0, none⟩) n cap) (seg F 0 n) := by
  obtain ⟨xs, h1, h2⟩ := h
  have e : xs = cells5 (seg F 0 n) := by
    apply List.ext_getElem?
    intro i
    by_cases hi : i < n * 5
    · rw [h2 i hi, cells5_get (by rw [seg_len]; exact hi), atK_seg (by omega)]
    · rw [List.getElem?_eq_none (by rw [h1.1]; omega), List.getElem?_eq_none (by rw [cells5_length, seg_len]; omega)]
  unfold OL
  rw [seg_len, ← e]; exact h1
end Go.Proofs.YtmhelhjjadoiaaaDoor
