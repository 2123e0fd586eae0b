/- The program's SameReason, up to its sort. No condition but those stated. -/
import Derived.Test.YtmhelhjjadoiaaaDoorSmA
import Derived.Test.YtmhelhjjadoiaaaDoorLkO
namespace Go.Proofs.YtmhelhjjadoiaaaDoor
set_option linter.unusedVariables false
set_option linter.unusedSimpArgs false
open Go.RowKit Go.Sort Go.WideMaps Go.Maps
/-- The counts of the first k looks' reasons. -/
noncomputable def cL (R : Nat → Lk) : Nat → Lit → Int
  | 0 => fun _ => 0
  | k + 1 => updC (cL R k) (kS (R k).why) (cL R k (kS (R k).why) + 1)
/-- The reasons of the first k looks, each once. -/
noncomputable def dL (R : Nat → Lk) : Nat → List ByteArray
  | 0 => []
  | k + 1 => if cL R k (kS (R k).why) = 0 then dL R k ++ [(R k).why] else dL R k
theorem cL_bd (R : Nat → Lk) (k : Nat) : ∀ x, 0 ≤ cL R k x ∧ cL R k x ≤ k := by
  induction k with
  | zero => intro x; exact ⟨Int.le_refl 0, Int.le_refl 0⟩
  | succ k ih =>
    intro x
    have h1 := ih x
    have h2 := ih (kS (R k).why)
    by_cases e : x = kS (R k).why
    · subst e
      have : cL R (k + 1) (kS (R k).why) = cL R k (kS (R k).why) + 1 := updC_same _ _ _
      rw [this]; omega
    · have : cL R (k + 1) x = cL R k x := updC_other e
      rw [this]; omega
theorem dL_new {R : Nat → Lk} {k : Nat} (h : cL R k (kS (R k).why) = 0) : dL R (k + 1) = dL R k ++ [(R k).why] := by
  show (if _ then _ else _) = _; rw [if_pos h]
theorem dL_old {R : Nat → Lk} {k : Nat} (h : ¬ cL R k (kS (R k).why) = 0) : dL R (k + 1) = dL R k := by
  show (if _ then _ else _) = _; rw [if_neg h]
theorem dL_le (R : Nat → Lk) (k : Nat) : (dL R k).length ≤ k := by
  induction k with
  | zero => exact Nat.le_refl _
  | succ k ih =>
    by_cases h : cL R k (kS (R k).why) = 0
    · rw [dL_new h, List.length_append]; simp; omega
    · rw [dL_old h]; omega
theorem CM.of_block {K : TypeId} {w w' : World} {B n : Nat} {c : Lit → Int} (h : CM K w B n c) (e : w'.heap[B]? = w.heap[B]?) : CM K w' B n c := by
  obtain ⟨D, ⟨es, clock, hb, r⟩, h2⟩ := h
  exact ⟨D, ⟨es, clock, e.trans hb, r⟩, h2⟩
theorem OT.of_block {base : Nat} {w w' : World} {v : Value} {xs : List ByteArray} (h : OT base w v xs) (hb : ∀ g, v.ownBlock = some g → w'.heap[g]? = w.heap[g]?) : OT base w' v xs := own_of_block h hb
theorem OT.lt {base : Nat} {w : World} {v : Value} {xs : List ByteArray} (h : OT base w v xs) : ∀ k, v.ownBlock = some k → base ≤ k ∧ k < w.heap.size := World.ownsRow.lt h
/-- What the first loop keeps. -/
structure SM (B : Nat) (w0 w : World) (v : Value) (xs : List ByteArray) (n : Nat) (c : Lit → Int) : Prop where
  be : Below w0.heap.size w0 w
  ot : OT (B + 1 + 1) w v xs
  cm : CM 9 w B n c
  ce : w.cell? ⟨B + 1, 0, none⟩ = some (.map (some B))
  lt : B + 1 < w.heap.size
  hB : w0.heap.size ≤ B
theorem SM.below {B n : Nat} {w0 w w' : World} {v : Value} {xs : List ByteArray} {c : Lit → Int} (h : SM B w0 w v xs n c) (hb : Below w.heap.size w w') : SM B w0 w' v xs n c :=
  ⟨bel_step0 hb h.be, h.ot.below hb, h.cm.below hb, (hb.cell (p := ⟨B + 1, 0, none⟩) h.lt).trans h.ce, Nat.lt_of_lt_of_le h.lt hb.size, h.hB⟩
theorem SM.alloc {B n : Nat} {w0 w : World} {v : Value} {xs : List ByteArray} {c : Lit → Int} (h : SM B w0 w v xs n c) (o : Obj) : SM B w0 (w.alloc o) v xs n c := h.below ((Below.refl _ _).alloc (Nat.le_refl _) o)
theorem SM.app {B n : Nat} {w0 w w' : World} {v v' : Value} {xs ys : List ByteArray} {c : Lit → Int} (h : SM B w0 w v xs n c) (ho : OT (B + 1 + 1) w' v' ys) (hb : Below (B + 1 + 1) w w') : SM B w0 w' v' ys n c :=
  ⟨h.be.trans (hb.mono (by have := h.hB; omega)), ho, h.cm.of_block (hb.block B (by omega)), (hb.cell (p := ⟨B + 1, 0, none⟩) (by simp)).trans h.ce, Nat.lt_of_lt_of_le h.lt hb.size, h.hB⟩
theorem SM.put {B n : Nat} {w0 w w' : World} {v : Value} {xs : List ByteArray} {c d : Lit → Int} (h : SM B w0 w v xs n c) (hc : CM 9 w' B (n + 1) d) (hg : w.grownBy w' (some B)) : SM B w0 w' v xs (n + 1) d :=
  ⟨bel_grown hg h.hB h.be.size h.be, h.ot.of_block fun g hq => hg.block g (h.ot.lt g hq).2 (by have := (h.ot.lt g hq).1; intro e; injection e with e; omega), hc,
    (World.cell?_of_block (w := w) (a := ⟨B + 1, 0, none⟩) (hg.block (B + 1) h.lt (by intro e; injection e with e; omega))).trans h.ce, Nat.lt_of_lt_of_le h.lt hg.size, h.hB⟩
theorem wp_appG (w : World) {ops : Array Oper} {rest : List Oper} {o : Oper} {a : Act} {Q : Exit → Act → World → Prop} (hgd : o.guard = none) (s x : Operand)
    (ho : o.op = .call { callee := .builtin .append, args := #[s, x], argTypes := #[49, 49] })
    (base : Nat) (v : Value) (xs : List ByteArray) (hs : a.eval s = v) (hown : OT base w v xs) (g : Nat) (y : ByteArray) (hx : a.eval x = .slice (some ⟨g, 0, none⟩) 1 1) (hc : w.cell? ⟨g, 0, none⟩ = some (.string y))
    (hlen : xs.length ≤ 1099511627776) (hbase : base ≤ w.heap.size)
    (h : ∀ v' w', OT base w' v' (xs ++ [y]) → w.grownBy w' v.ownBlock → wpList Tryd.prog ops Q rest (a.put o.dst v') w') : wpList Tryd.prog ops Q (o :: rest) a w := by
  obtain ⟨i0, hi, hz0, hz1, hz2⟩ := info_parts info_string
  refine wpList_append_own w hgd s x 49 ho base 9 i0 (.string ByteArray.empty) 1 16 Tryd.underlying49 hi hz0 hz1 hz2 rfl (by omega) v xs.length (xs.map Value.string) hs hown ⟨g, 0, none⟩ 1 1 [.string y] hx rfl
    (fun j u hu => ?_) (fun u hu => ?_) (by unfold maxLen; omega) (by omega) hbase (fun v' w' h1 h2 h3 => h v' w' ?_ h2)
  · match j, hu with
    | 0, hu => simp only [List.getElem?_cons_zero, Option.some.injEq] at hu; subst hu; simpa [Addr.add] using hc
    | j + 1, hu => simp at hu
  · simp only [List.mem_singleton] at hu; subst hu; rfl
  · unfold OT; simpa using h1
theorem SM.appG {B n : Nat} {w0 w w' : World} {v v' : Value} {xs ys : List ByteArray} {c : Lit → Int} (h : SM B w0 w v xs n c) (ho : OT (B + 1 + 1) w' v' ys) (hg : w.grownBy w' v.ownBlock) : SM B w0 w' v' ys n c :=
  h.app ho ((Below.refl (B + 1 + 1) w).grown hg (by have := h.lt; omega) (fun k hk => (h.ot.lt k hk).1))
/-- A struct of a look that was just laid, behind an append. -/
theorem lk_kept {wr w' : World} {cs : Array Value} {T : TypeId} {o : Obj} {row : Option Nat} (hg : ((wr.alloc (.cells cs T)).alloc o).grownBy w' row) (hl : ∀ q, row = some q → q < wr.heap.size) (i : Nat) (u : Value) (hu : cs[i]? = some u) :
    w'.cell? ⟨wr.heap.size, i, none⟩ = some u := by
  have h1 : wr.heap.size < (wr.alloc (.cells cs T)).heap.size := by simp
  have h2 : wr.heap.size < ((wr.alloc (.cells cs T)).alloc o).heap.size := by simp
  refine (World.cell?_of_block (w := (wr.alloc (.cells cs T)).alloc o) (a := ⟨wr.heap.size, i, none⟩) (hg.block wr.heap.size h2 (fun e => by have := hl _ e.symm; omega))).trans ?_
  exact (World.cell?_alloc_lt _ _ _ h1).trans (cell_new wr cs T i u hu)
theorem key_lit (s : ByteArray) : WideAt.IsKeyLit (kS s) := trivial
end Go.Proofs.YtmhelhjjadoiaaaDoor
