/- Appending one number to a slice of the call's own. No condition but those stated. -/
import Derived.Test.YtjmfkenhnfdbjaaGreatDoorIntsE
namespace Go.Proofs.YtjmfkenhnfdbjaaGreatDoor
set_option linter.unusedVariables false
open Go.RowKit Go.Sort

/-- The value v is a slice of the call's own, in blocks from base on, that holds the numbers xs. -/
def OI (base : Nat) (w : World) (v : Value) (xs : List Int) : Prop := w.ownsRow base 3 1 v xs.length (xs.map (Value.int .i64))
theorem OI.nil (base : Nat) (w : World) : OI base w (.slice none 0 0) [] := World.ownsRow_nil w base _ _
theorem OI.empty {base : Nat} {w : World} (hb : base ≤ w.heap.size) : OI base (w.alloc (.cells #[] 3)) (.slice (some ⟨w.heap.size, 0, none⟩) 0 0) [] :=
  World.ownsRow_made w #[] 0 hb (by decide) rfl
theorem OI.below {base : Nat} {w w' : World} {v : Value} {xs : List Int} (hb : Below w.heap.size w w') (h : OI base w v xs) : OI base w' v xs :=
  World.ownsRow.kept h (row := none) ⟨hb.os, hb.tape, hb.output, hb.size, fun k hk _ => hb.block k hk⟩ (by cases h0 : v.ownBlock with | none => exact .inl rfl | some k => exact .inr (by simp))
theorem OI.alloc {base : Nat} {w : World} {v : Value} {xs : List Int} (o : Obj) (h : OI base w v xs) : OI base (w.alloc o) v xs := World.ownsRow.alloc h o
theorem OI.wi {base : Nat} {w : World} {v : Value} {xs : List Int} (h : OI base w v xs) : WI base w.heap.size w v xs.length (ai xs) := WI.own h
theorem wp_app1 (w : World) {ops : Array Oper} {rest : List Oper} {o : Oper} {a : Act} {Q : Exit → Act → World → Prop} (hgd : o.guard = none) (s x : Operand)
    (ho : o.op = .call { callee := .builtin .append, args := #[s, x], argTypes := #[45, 45] })
    (base : Nat) (v : Value) (xs : List Int) (hs : a.eval s = v) (hown : OI base w v xs) (g : Nat) (y : Int) (hx : a.eval x = .slice (some ⟨g, 0, none⟩) 1 1) (hc : w.cell? ⟨g, 0, none⟩ = some (.int .i64 y))
    (hlen : xs.length ≤ 1099511627776) (hbase : base ≤ w.heap.size)
    (h : ∀ v' w', OI base w' v' (xs ++ [y]) → Below base w w' → wpList Tryz.prog ops Q rest (a.put o.dst v') w') : wpList Tryz.prog ops Q (o :: rest) a w := by
  obtain ⟨i0, hi, hz0, hz1, hz2⟩ := info_parts info_int
  refine wpList_append_own w hgd s x 45 ho base 3 i0 (.int .i64 0) 1 8 Tryz.underlying45 hi hz0 hz1 hz2 rfl (by omega) v xs.length (xs.map (Value.int .i64)) hs hown ⟨g, 0, none⟩ 1 1 [.int .i64 y] hx rfl
    (fun j u hu => ?_) (fun u hu => ?_) (by unfold maxLen; omega) (by omega) hbase (fun v' w' h1 h2 h3 => h v' w' ?_ ?_)
  · match j, hu with
    | 0, hu => simp only [List.getElem?_cons_zero, Option.some.injEq] at hu; subst hu; simpa [Addr.add] using hc
    | j + 1, hu => simp at hu
  · simp only [List.mem_singleton] at hu; subst hu; rfl
  · unfold OI; simpa using h1
  · refine (Below.refl base w).grown h2 hbase (fun k hk => ?_)
    exact (World.ownsRow.lt hown k hk).1
end Go.Proofs.YtjmfkenhnfdbjaaGreatDoor
