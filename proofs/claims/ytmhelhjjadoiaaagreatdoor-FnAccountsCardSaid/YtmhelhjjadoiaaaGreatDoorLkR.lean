/- Rows of looks that a call owns. No condition but those stated. -/
import Derived.Test.YtmhelhjjadoiaaaGreatDoorLkC
import Derived.Test.YtmhelhjjadoiaaaGreatDoorLkO
import Derived.Maps.AppendAt
namespace Go.Proofs.YtmhelhjjadoiaaaGreatDoor
set_option linter.unusedVariables false
set_option linter.unusedSimpArgs false
open Go.RowKit Go.Sort
def atK (l : List Lk) (j : Nat) : Lk := l.getD j zeroK
theorem atK_cons_zero (x : Lk) (l : List Lk) : atK (x :: l) 0 = x := rfl
theorem atK_cons_succ (x : Lk) (l : List Lk) (j : Nat) : atK (x :: l) (j + 1) = atK l j := rfl
theorem atK_get {l : List Lk} {j : Nat} (h : j < l.length) : atK l j = l[j] := by
  unfold atK; rw [List.getD_eq_getElem?_getD, List.getElem?_eq_getElem h]; rfl
theorem atK_mem {l : List Lk} {j : Nat} (h : j < l.length) : atK l j ∈ l := by rw [atK_get h]; exact List.getElem_mem _
theorem atK_left {l r : List Lk} {j : Nat} (h : j < l.length) : atK (l ++ r) j = atK l j := by
  unfold atK; rw [List.getD_eq_getElem?_getD, List.getD_eq_getElem?_getD, List.getElem?_append_left h]
theorem atK_right {l r : List Lk} {j : Nat} (h : l.length ≤ j) : atK (l ++ r) j = atK r (j - l.length) := by
  unfold atK; rw [List.getD_eq_getElem?_getD, List.getD_eq_getElem?_getD, List.getElem?_append_right h]
/-- The cells of a list of looks. -/
def cells5 : List Lk → List Value
  | [] => []
  | x :: l => .int .i64 x.tick :: .int .i64 x.who :: .int .i64 x.rid :: .int .i64 x.kind :: .string x.why :: cells5 l
theorem cells5_length (l : List Lk) : (cells5 l).length = l.length * 5 := by
  induction l with
  | nil => rfl
  | cons x l ih => simp only [cells5, List.length_cons, ih]; omega
theorem cells5_append (l r : List Lk) : cells5 (l ++ r) = cells5 l ++ cells5 r := by
  induction l with
  | nil => rfl
  | cons x l ih => simp only [List.cons_append, cells5, ih]
theorem cells5_one (l : List Lk) : ∀ u ∈ cells5 l, u.oneCell' = true := by
  induction l with
  | nil => intro u h; cases h
  | cons x l ih =>
    intro u h
    simp only [cells5, List.mem_cons] at h
    rcases h with rfl | rfl | rfl | rfl | rfl | h
    · rfl
    · rfl
    · rfl
    · rfl
    · rfl
    · exact ih u h
theorem cells5_at {l : List Lk} {j m : Nat} (hj : j < l.length) (hm : m < 5) : (cells5 l)[j * 5 + m]? = some (cK (atK l j) m) := by
  induction l generalizing j with
  | nil => simp at hj
  | cons x l ih =>
    cases j with
    | zero =>
      rw [Nat.zero_mul, Nat.zero_add, atK_cons_zero]
      match m, hm with
      | 0, _ => rfl
      | 1, _ => rfl
      | 2, _ => rfl
      | 3, _ => rfl
      | 4, _ => rfl
    | succ j =>
      rw [atK_cons_succ, show (j + 1) * 5 + m = j * 5 + m + 1 + 1 + 1 + 1 + 1 by omega]
      simp only [cells5, List.getElem?_cons_succ]
      exact ih (by simpa using hj)
theorem cells5_get {l : List Lk} {i : Nat} (hi : i < l.length * 5) : (cells5 l)[i]? = some (cK (atK l (i / 5)) (i % 5)) := by
  have := cells5_at (l := l) (j := i / 5) (m := i % 5) (by omega) (by omega)
  rwa [show i / 5 * 5 + i % 5 = i by omega] at this
/-- The value v is a slice of the looks l, in a row of the call's own. -/
def OL (base : Nat) (w : World) (v : Value) (l : List Lk) : Prop := w.ownsRow base 37 5 v l.length (cells5 l)
theorem OL.nil (base : Nat) (w : World) : OL base w (.slice none 0 0) [] := World.ownsRow_nil w base _ _
theorem OL.emptyAt {base g : Nat} {w : World} (hg : w.heap.size = g) (hb : base ≤ g) : OL base (w.alloc (.cells #[] 37)) (.slice (some ⟨g, 0, none⟩) 0 0) [] := by
  subst hg; exact World.ownsRow_made w #[] 0 hb (by decide) rfl
theorem OL.ofB {base : Nat} {w w' : World} {v : Value} {l : List Lk} (h : OL base w v l) (hb : ∀ g, v.ownBlock = some g → w'.heap[g]? = w.heap[g]?) : OL base w' v l := own_of_block h hb
theorem OL.lt {base : Nat} {w : World} {v : Value} {l : List Lk} (h : OL base w v l) : ∀ k, v.ownBlock = some k → base ≤ k ∧ k < w.heap.size := World.ownsRow.lt h
theorem OL.below {base : Nat} {w w' : World} {v : Value} {l : List Lk} (hb : Below w.heap.size w w') (h : OL base w v l) : OL base w' v l := h.ofB fun g hg => hb.block g (h.lt g hg).2
theorem OL.alloc {base : Nat} {w : World} {v : Value} {l : List Lk} (h : OL base w v l) (o : Obj) : OL base (w.alloc o) v l := h.below ((Below.refl _ _).alloc (Nat.le_refl _) o)
theorem OL.chg {base lo hi : Nat} {w w' : World} {v : Value} {l : List Lk} (hc : Chg lo hi w w') (hl : hi ≤ base) (h : OL base w v l) : OL base w' v l :=
  h.ofB fun g hg => hc.block g (h.lt g hg).2 (.inr (by have := (h.lt g hg).1; omega))
theorem OL.mono {base base' : Nat} {w : World} {v : Value} {l : List Lk} (hb : base' ≤ base) (h : OL base w v l) : OL base' w v l := by
  refine ⟨h.1, ?_⟩
  rcases h.2 with h0 | ⟨g, cap, cur, e, h1, h2⟩
  · exact .inl h0
  · exact .inr ⟨g, cap, cur, e, by omega, h2⟩
theorem OL.form {base : Nat} {w : World} {v : Value} {l : List Lk} (h : OL base w v l) : ∃ A cap, v = .slice A l.length cap := by
  rcases h.2 with ⟨rfl, h0⟩ | ⟨g, cap, cur, rfl, _⟩
  · exact ⟨none, 0, by rw [h0]⟩
  · exact ⟨_, cap, rfl⟩
theorem OL.formN {base n : Nat} {w : World} {v : Value} {l : List Lk} {x : Lk} (hn : l.length = n) (h : OL base w v (l ++ [x])) : ∃ A cap, v = .slice A (n + 1) cap := by
  obtain ⟨A, cap, e⟩ := h.form
  exact ⟨A, cap, by rw [e, ← hn]; simp⟩
theorem OL.wk {base : Nat} {w : World} {v : Value} {l : List Lk} (h : OL base w v l) : WK base w.heap.size w v l.length (atK l) := by
  rcases h.2 with ⟨rfl, h0⟩ | ⟨g, cap, cur, rfl, hb, hh, hnc, hcm, _⟩
  · exact ⟨none, 0, by rw [h0], fun h => absurd h (by omega), by omega, by omega⟩
  · have hl := (Array.getElem?_eq_some_iff.1 hh).1
    refine ⟨_, cap, rfl, fun _ => ⟨g, 0, rfl, hb, hl, hl, fun j hj => ?_, fun i => h.frozenAt i⟩, hnc, by unfold maxLen at hcm; exact hcm⟩
    have e : ∀ m, m < 5 → w.cell? ⟨g, 0 + j * 5 + m, none⟩ = some (cK (atK l j) m) := fun m hm => by
      rw [Nat.zero_add, h.cellAt (j * 5 + m) (by omega)]
      exact cells5_at hj hm
    exact ⟨e 0 (by omega), e 1 (by omega), e 2 (by omega), e 3 (by omega), e 4 (by omega)⟩
theorem OL.lks {base : Nat} {w : World} {v : Value} {l : List Lk} (h : OL base w v l) : LKs w v l.length (atK l) := h.wk.lks
theorem RK.reads {w : World} {A : Option Addr} {l : List Lk} (h : RK w A l.length (atK l)) : Reads w w.heap.size 5 A l.length (cells5 l) := by
  refine ⟨by rw [cells5_length], fun h0 => ?_⟩
  obtain ⟨b, off, e, hl, hc⟩ := h h0
  refine ⟨_, e, hl, fun i u hu => ?_⟩
  have hi : i < l.length * 5 := by have := (List.getElem?_eq_some_iff.1 hu).1; rwa [cells5_length] at this
  rw [cells5_get hi, Option.some.injEq] at hu
  subst hu
  have ea : (Addr.add ⟨b, off, none⟩ i) = ⟨b, off + i, none⟩ := by
    unfold Addr.add
    by_cases e : i = 0
    · subst e; rfl
    · rw [if_neg e]
  rw [ea]
  have hk := hc (i / 5) (by omega)
  have hm : i % 5 < 5 := Nat.mod_lt _ (by omega)
  have e2 : off + i = off + i / 5 * 5 + i % 5 := by omega
  rw [e2]
  generalize i % 5 = m at hm
  match m, hm with
  | 0, _ => exact hk.c0
  | 1, _ => exact hk.c1
  | 2, _ => exact hk.c2
  | 3, _ => exact hk.c3
  | 4, _ => exact hk.c4
theorem RK.one {w : World} {g : Nat} {x : Lk} (hl : g < w.heap.size) (h : LkAt w g 0 x) : RK w (some ⟨g, 0, none⟩) [x].length (atK [x]) := fun _ =>
  ⟨g, 0, rfl, hl, fun j hj => by
    obtain rfl : j = 0 := by simpa using hj
    exact h⟩
theorem lk_lit (w : World) (x : Lk) (T : TypeId) : LkAt (w.alloc (.cells #[.int .i64 x.tick, .int .i64 x.who, .int .i64 x.rid, .int .i64 x.kind, .string x.why] T)) w.heap.size 0 x :=
  ⟨cell_new _ _ _ _ _ rfl, cell_new _ _ _ _ _ rfl, cell_new _ _ _ _ _ rfl, cell_new _ _ _ _ _ rfl, cell_new _ _ _ _ _ rfl⟩
/-- Appending looks to a row of the call's own. -/
theorem wp_appL (w : World) {ops : Array Oper} {rest : List Oper} {o : Oper} {a : Act} {Q : Exit → Act → World → Prop} (hgd : o.guard = none) (s x : Operand)
    (ho : o.op = .call { callee := .builtin .append, args := #[s, x], argTypes := #[24, 24] })
    (base : Nat) (v : Value) (l : List Lk) (hs : a.eval s = v) (hown : OL base w v l) (A : Option Addr) (m c : Nat) (r : List Lk) (hm : r.length = m) (hx : a.eval x = .slice A m c) (hr : RK w A r.length (atK r))
    (hlen : l.length + m ≤ 1099511627776) (hbase : base ≤ w.heap.size)
    (h : ∀ v' w', OL base w' v' (l ++ r) → w.grownBy w' v.ownBlock → (v'.ownBlock = v.ownBlock ∨ v'.ownBlock = some w.heap.size) → wpList Tryz.prog ops Q rest (a.put o.dst v') w') : wpList Tryz.prog ops Q (o :: rest) a w := by
  subst hm
  obtain ⟨i0, hi, hz0, hz1, hz2⟩ := info_parts info_look
  refine wpList_append_any w hgd s x 24 ho base 37 i0 _ 5 48 Tryz.underlying24 hi hz0 hz1 hz2 rfl (by omega) v l.length (cells5 l) hs hown w.heap.size A r.length c (cells5 r) hx hr.reads
    (cells5_one r) (by unfold maxLen; omega) (by omega) hbase (fun v' w' h1 h2 h3 => h v' w' ?_ h2 h3)
  unfold OL
  rw [List.length_append, cells5_append]; exact h1
/-- Appending a run of looks at a step of a region that draws its order. -/
theorem step_appL (w : World) {ops : Array Oper} {o : Oper} {a : Act} {K : Act → World → Prop} {Q : Exit → Act → World → Prop} {E : Prop} (hgd : o.guard = none) (s x : Operand)
    (ho : o.op = .call { callee := .builtin .append, args := #[s, x], argTypes := #[24, 24] })
    (wb : World) (v : Value) (l r : List Lk) (hs : a.eval s = v) (hown : OL wb.heap.size w v l) (hb : Below wb.heap.size wb w) (A : Option Addr) (m c : Nat) (hm : r.length = m) (hx : a.eval x = .slice A m c) (hr : RK w A r.length (atK r))
    (hlen : l.length + m ≤ 1099511627776)
    (h : ∀ v' w', OL wb.heap.size w' v' (l ++ r) → Below wb.heap.size wb w' → (∀ q, q < w.heap.size → v.ownBlock ≠ some q → w'.heap[q]? = w.heap[q]?) → w.heap.size ≤ w'.heap.size → K (a.put o.dst v') w') : if Region.wanted o (yielded ops a.tmps) = true then Oper.wp Tryz.prog o a w K Q else E := by
  subst hm
  obtain ⟨i0, hi, hz0, hz1, hz2⟩ := info_parts info_look
  have hbase := hb.size
  refine step_append_any w hgd s x 24 ho wb.heap.size 37 i0 _ 5 48 Tryz.underlying24 hi hz0 hz1 hz2 rfl (by omega) v l.length (cells5 l) hs hown w.heap.size A r.length c (cells5 r) hx hr.reads
    (cells5_one r) (by unfold maxLen; omega) (by omega) hbase (fun v' w' h1 h2 _ => h v' w' ?_ ?_ (fun q hq hn => h2.block q hq (fun e => hn e.symm)) h2.size)
  · unfold OL
    rw [List.length_append, cells5_append]; exact h1
  · exact hb.trans ((Below.refl _ w).grown h2 hbase (fun k hk => (OL.lt hown k hk).1))
end Go.Proofs.YtmhelhjjadoiaaaGreatDoor
