/- Rows of queries of a call's own, and queries as trees in memory. No condition but those stated. -/
import Derived.Test.YtjmfkenhnfdbjaaGreatDoorQyG
import Derived.Test.YtjmfkenhnfdbjaaGreatDoorLkO
import Derived.Maps.AppendAt
namespace Go.Proofs.YtjmfkenhnfdbjaaGreatDoor
set_option linter.unusedVariables false
set_option linter.unusedSimpArgs false
open Go.RowKit Go.Sort
/-- A query's three cells. -/
structure Tq where
  c : Int
  n : Int
  A : Option Addr
  m : Nat
  k : Nat
def zeroQ : Tq := ⟨0, 0, none, 0, 0⟩
def cT (x : Tq) (m : Nat) : Value := if m = 0 then .int .u8 x.c else if m = 1 then .int .i64 x.n else .slice x.A x.m x.k
def atTq (l : List Tq) (j : Nat) : Tq := l.getD j zeroQ
theorem atTq_get {l : List Tq} {j : Nat} (h : j < l.length) : atTq l j = l[j] := by
  unfold atTq; rw [List.getD_eq_getElem?_getD, List.getElem?_eq_getElem h]; rfl
theorem atTq_left {l r : List Tq} {j : Nat} (h : j < l.length) : atTq (l ++ r) j = atTq l j := by
  unfold atTq; rw [List.getD_eq_getElem?_getD, List.getD_eq_getElem?_getD, List.getElem?_append_left h]
theorem atTq_right {l r : List Tq} {j : Nat} (h : l.length ≤ j) : atTq (l ++ r) j = atTq r (j - l.length) := by
  unfold atTq; rw [List.getD_eq_getElem?_getD, List.getD_eq_getElem?_getD, List.getElem?_append_right h]
def cells3 : List Tq → List Value
  | [] => []
  | x :: l => .int .u8 x.c :: .int .i64 x.n :: .slice x.A x.m x.k :: cells3 l
theorem cells3_length (l : List Tq) : (cells3 l).length = l.length * 3 := by
  induction l with
  | nil => rfl
  | cons x l ih => simp only [cells3, List.length_cons, ih]; omega
theorem cells3_append (l r : List Tq) : cells3 (l ++ r) = cells3 l ++ cells3 r := by
  induction l with
  | nil => rfl
  | cons x l ih => simp only [List.cons_append, cells3, ih]
theorem cells3_one (l : List Tq) : ∀ u ∈ cells3 l, u.oneCell' = true := by
  induction l with
  | nil => intro u h; cases h
  | cons x l ih =>
    intro u h
    simp only [cells3, List.mem_cons] at h
    rcases h with rfl | rfl | rfl | h
    · rfl
    · rfl
    · rfl
    · exact ih u h
theorem cells3_at {l : List Tq} {j m : Nat} (hj : j < l.length) (hm : m < 3) : (cells3 l)[j * 3 + m]? = some (cT (atTq l j) m) := by
  induction l generalizing j with
  | nil => simp at hj
  | cons x l ih =>
    cases j with
    | zero =>
      rw [Nat.zero_mul, Nat.zero_add]
      match m, hm with
      | 0, _ => rfl
      | 1, _ => rfl
      | 2, _ => rfl
    | succ j =>
      rw [show (j + 1) * 3 + m = j * 3 + m + 1 + 1 + 1 by omega]
      simp only [cells3, List.getElem?_cons_succ]
      exact ih (by simpa using hj)
theorem cells3_get {l : List Tq} {i : Nat} (hi : i < l.length * 3) : (cells3 l)[i]? = some (cT (atTq l (i / 3)) (i % 3)) := by
  have := cells3_at (l := l) (j := i / 3) (m := i % 3) (by omega) (by omega)
  rwa [show i / 3 * 3 + i % 3 = i by omega] at this
/-- The value v is a slice of the queries l, in a row of the call's own. -/
def QL (base : Nat) (w : World) (v : Value) (l : List Tq) : Prop := w.ownsRow base 61 3 v l.length (cells3 l)
theorem QL.ofB {base : Nat} {w w' : World} {v : Value} {l : List Tq} (h : QL base w v l) (hb : ∀ g, v.ownBlock = some g → w'.heap[g]? = w.heap[g]?) : QL base w' v l := own_of_block h hb
theorem QL.lt {base : Nat} {w : World} {v : Value} {l : List Tq} (h : QL base w v l) : ∀ k, v.ownBlock = some k → base ≤ k ∧ k < w.heap.size := World.ownsRow.lt h
theorem QL.below {base : Nat} {w w' : World} {v : Value} {l : List Tq} (hb : Below w.heap.size w w') (h : QL base w v l) : QL base w' v l := h.ofB fun g hg => hb.block g (h.lt g hg).2
theorem QL.chg {base lo hi : Nat} {w w' : World} {v : Value} {l : List Tq} (hc : Chg lo hi w w') (hl : hi ≤ base) (h : QL base w v l) : QL base w' v l :=
  h.ofB fun g hg => hc.block g (h.lt g hg).2 (.inr (Nat.le_trans hl (h.lt g hg).1))
theorem QL.form {base : Nat} {w : World} {v : Value} {l : List Tq} (h : QL base w v l) : ∃ A cap, v = .slice A l.length cap := by
  rcases h.2 with ⟨rfl, h0⟩ | ⟨g, cap, cur, rfl, _⟩
  · exact ⟨none, 0, by rw [h0]⟩
  · exact ⟨_, cap, rfl⟩
theorem QL.formG {base : Nat} {w : World} {v : Value} {l : List Tq} (h : QL base w v l) (h0 : 0 < l.length) : ∃ g cap, v = .slice (some ⟨g, 0, none⟩) l.length cap ∧ base ≤ g ∧ g < w.heap.size ∧ l.length ≤ cap ∧ cap ≤ 9223372036854775807 := by
  rcases h.2 with ⟨rfl, h1⟩ | ⟨g, cap, cur, rfl, hb, hh, hn, hm, _⟩
  · omega
  · exact ⟨g, cap, rfl, hb, (Array.getElem?_eq_some_iff.1 hh).1, hn, by unfold maxLen at hm; exact hm⟩
theorem QL.cell {base g n cap : Nat} {w : World} {l : List Tq} (h : QL base w (.slice (some ⟨g, 0, none⟩) n cap) l) {j m : Nat} (hj : j < l.length) (hm : m < 3) : w.cell? ⟨g, j * 3 + m, none⟩ = some (cT (atTq l j) m) := by
  rcases h.2 with ⟨e, _⟩ | ⟨g', cap', cur, e, _⟩
  · cases e
  · injection e with e1 e2 e3
    subst e2
    rw [World.ownsRow.cellAt h (j * 3 + m) (by omega)]
    exact cells3_at hj hm
theorem info_query : (Tryz.prog.info? 61).map (fun i => (i.zero, i.size, i.bytes)) = some (some (.agg #[.int .u8 0, .int .i64 0, .slice none 0 0]), 3, 40) := by kernel_rfl
theorem q_reads {w : World} {g : Nat} {x : Tq} (hl : g < w.heap.size) (h0 : w.cell? ⟨g, 0, none⟩ = some (.int .u8 x.c)) (h1 : w.cell? ⟨g, 1, none⟩ = some (.int .i64 x.n)) (h2 : w.cell? ⟨g, 2, none⟩ = some (.slice x.A x.m x.k)) : Reads w w.heap.size 3 (some ⟨g, 0, none⟩) 1 (cells3 [x]) :=
  ⟨rfl, fun _ => ⟨⟨g, 0, none⟩, rfl, hl, fun i u hu => by
    match i, hu with
    | 0, hu => simp [cells3] at hu; subst hu; exact h0
    | 1, hu => simp [cells3] at hu; subst hu; exact h1
    | 2, hu => simp [cells3] at hu; subst hu; exact h2
    | i + 3, hu => simp [cells3] at hu⟩⟩
/-- One query appended, at a step of a region that draws its order. -/
theorem step_appQ (w : World) {ops : Array Oper} {o : Oper} {a : Act} {K : Act → World → Prop} {Q : Exit → Act → World → Prop} {E : Prop} (hgd : o.guard = none) (s x : Operand)
    (ho : o.op = .call { callee := .builtin .append, args := #[s, x], argTypes := #[59, 59] })
    (base : Nat) (v : Value) (l : List Tq) (hs : a.eval s = v) (hown : QL base w v l) (hbase : base ≤ w.heap.size) (g : Nat) (y : Tq) (hx : a.eval x = .slice (some ⟨g, 0, none⟩) 1 1) (hl : g < w.heap.size)
    (h0 : w.cell? ⟨g, 0, none⟩ = some (.int .u8 y.c)) (h1 : w.cell? ⟨g, 1, none⟩ = some (.int .i64 y.n)) (h2 : w.cell? ⟨g, 2, none⟩ = some (.slice y.A y.m y.k))
    (hlen : l.length + 1 ≤ 1099511627776)
    (h : ∀ v' w', QL base w' v' (l ++ [y]) → w.grownBy w' v.ownBlock → (v'.ownBlock = v.ownBlock ∨ v'.ownBlock = some w.heap.size) → K (a.put o.dst v') w') : if Region.wanted o (yielded ops a.tmps) = true then Oper.wp Tryz.prog o a w K Q else E := by
  obtain ⟨i0, hi, hz0, hz1, hz2⟩ := info_parts info_query
  refine step_append_any w hgd s x 59 ho base 61 i0 _ 3 40 Tryz.underlying59 hi hz0 hz1 hz2 rfl (by omega) v l.length (cells3 l) hs hown w.heap.size (some ⟨g, 0, none⟩) 1 1 (cells3 [y]) hx (q_reads hl h0 h1 h2)
    (cells3_one [y]) (by unfold maxLen; omega) (by omega) hbase (fun v' w' k1 k2 k3 => h v' w' ?_ k2 k3)
  unfold QL
  rw [List.length_append, cells3_append]; exact k1
/-- The value is the query's tree, in blocks that D holds of. -/
def TR (w : World) (D : Nat → Prop) : Qy → Tq → Prop
  | .test c n => fun x => x = ⟨(c : Int), n, none, 0, 0⟩
  | .neg q => fun x => ∃ g k y, x = ⟨33, 0, some ⟨g, 0, none⟩, 1, k⟩ ∧ D g ∧ g < w.heap.size ∧ (w.cell? ⟨g, 0, none⟩ = some (.int .u8 y.c) ∧ w.cell? ⟨g, 1, none⟩ = some (.int .i64 y.n) ∧ w.cell? ⟨g, 2, none⟩ = some (.slice y.A y.m y.k)) ∧ TR w D q y
  | .seq o m f => fun x => ∃ g k, x = ⟨if o then 124 else 38, 0, some ⟨g, 0, none⟩, m, k⟩ ∧ D g ∧ g < w.heap.size ∧ m ≤ k ∧ k ≤ 9223372036854775807 ∧ ∀ j, j < m → ∃ y : Tq, (w.cell? ⟨g, j * 3, none⟩ = some (.int .u8 y.c) ∧ w.cell? ⟨g, j * 3 + 1, none⟩ = some (.int .i64 y.n) ∧ w.cell? ⟨g, j * 3 + 2, none⟩ = some (.slice y.A y.m y.k)) ∧ TR w D (f j) y
theorem TR.frame {w w' : World} {D : Nat → Prop} (hb : ∀ g, D g → g < w.heap.size → w'.heap[g]? = w.heap[g]?) (hs : w.heap.size ≤ w'.heap.size) : ∀ (q : Qy) (x : Tq), TR w D q x → TR w' D q x := by
  have hc : ∀ g i, D g → g < w.heap.size → w'.cell? ⟨g, i, none⟩ = w.cell? ⟨g, i, none⟩ := fun g i h1 h2 => World.cell?_of_block (w := w) (a := ⟨g, i, none⟩) (hb g h1 h2)
  intro q
  induction q with
  | test c n => intro x h; exact h
  | neg q ih =>
    intro x h
    obtain ⟨g, k, y, e, h1, h2, ⟨h3, h4, h5⟩, h6⟩ := h
    exact ⟨g, k, y, e, h1, Nat.lt_of_lt_of_le h2 hs, ⟨(hc g 0 h1 h2).trans h3, (hc g 1 h1 h2).trans h4, (hc g 2 h1 h2).trans h5⟩, ih y h6⟩
  | seq o m f ih =>
    intro x h
    obtain ⟨g, k, e, h1, h2, h3, h4, h5⟩ := h
    refine ⟨g, k, e, h1, Nat.lt_of_lt_of_le h2 hs, h3, h4, fun j hj => ?_⟩
    obtain ⟨y, ⟨k1, k2, k3⟩, k4⟩ := h5 j hj
    exact ⟨y, ⟨(hc g _ h1 h2).trans k1, (hc g _ h1 h2).trans k2, (hc g _ h1 h2).trans k3⟩, ih j y k4⟩
theorem TR.mono {w : World} {D E : Nat → Prop} (hd : ∀ g, D g → E g) : ∀ (q : Qy) (x : Tq), TR w D q x → TR w E q x := by
  intro q
  induction q with
  | test c n => intro x h; exact h
  | neg q ih =>
    intro x h
    obtain ⟨g, k, y, e, h1, h2, h3, h6⟩ := h
    exact ⟨g, k, y, e, hd g h1, h2, h3, ih y h6⟩
  | seq o m f ih =>
    intro x h
    obtain ⟨g, k, e, h1, h2, h3, h4, h5⟩ := h
    refine ⟨g, k, e, hd g h1, h2, h3, h4, fun j hj => ?_⟩
    obtain ⟨y, h6, h7⟩ := h5 j hj
    exact ⟨y, h6, ih j y h7⟩
end Go.Proofs.YtjmfkenhnfdbjaaGreatDoor
