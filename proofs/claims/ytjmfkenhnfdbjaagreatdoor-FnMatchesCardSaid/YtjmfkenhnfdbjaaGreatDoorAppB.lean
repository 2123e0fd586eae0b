/- Copies of slices of numbers. No condition but those stated. -/
import Derived.Test.YtjmfkenhnfdbjaaGreatDoorAppA
import Derived.Lib.LazyBuf
import Derived.Lib.BufferMore
namespace Go.Proofs.YtjmfkenhnfdbjaaGreatDoor
set_option linter.unusedVariables false
set_option linter.unusedSimpArgs false
open Go.RowKit Go.Sort

def lst (n : Nat) (f : Nat → Int) : List Int := (List.range n).map f
theorem lst_length (n : Nat) (f : Nat → Int) : (lst n f).length = n := by simp [lst]
theorem ai_lst {n j : Nat} (f : Nat → Int) (h : j < n) : ai (lst n f) j = f j := by
  unfold ai lst; rw [List.getD_eq_getElem?_getD, List.getElem?_map, List.getElem?_range h]; rfl
theorem SI.reads {w : World} {A : Option Addr} {n cap : Nat} {f : Nat → Int} (h : SI w (.slice A n cap) n f) : Reads w w.heap.size 1 A n ((lst n f).map (Value.int .i64)) := by
  obtain ⟨A', cap', e, hr, _, _⟩ := h
  cases e
  refine ⟨by simp [lst], fun h0 => ?_⟩
  obtain ⟨b, off, rfl, hb, hc⟩ := hr h0
  refine ⟨_, rfl, hb, fun j u hu => ?_⟩
  have hj : j < n := by have := (List.getElem?_eq_some_iff.1 hu).1; simpa [lst] using this
  rw [List.getElem?_map, show (lst n f)[j]? = some (f j) by unfold lst; rw [List.getElem?_map, List.getElem?_range hj]; rfl] at hu
  simp only [Option.map_some, Option.some.injEq] at hu
  subst hu
  have := hc j hj
  unfold Addr.add
  by_cases e : j = 0
  · subst e; simpa using this
  · rw [if_neg e]; exact this
theorem wp_appN (w : World) {ops : Array Oper} {rest : List Oper} {o : Oper} {a : Act} {Q : Exit → Act → World → Prop} (hgd : o.guard = none) (s x : Operand)
    (ho : o.op = .call { callee := .builtin .append, args := #[s, x], argTypes := #[45, 45] })
    (base : Nat) (v : Value) (xs : List Int) (hs : a.eval s = v) (hown : OI base w v xs) (A : Option Addr) (m c : Nat) (f : Nat → Int) (hx : a.eval x = .slice A m c) (hr : SI w (.slice A m c) m f)
    (hlen : xs.length + m ≤ 1099511627776) (hbase : base ≤ w.heap.size)
    (h : ∀ v' w', OI base w' v' (xs ++ lst m f) → Below base w w' → wpList Tryz.prog ops Q rest (a.put o.dst v') w') : wpList Tryz.prog ops Q (o :: rest) a w := by
  obtain ⟨i0, hi, hz0, hz1, hz2⟩ := info_parts info_int
  refine wpList_append_any w hgd s x 45 ho base 3 i0 (.int .i64 0) 1 8 Tryz.underlying45 hi hz0 hz1 hz2 rfl (by omega) v xs.length (xs.map (Value.int .i64)) hs hown w.heap.size A m c _ hx hr.reads
    (fun u hu => ?_) (by unfold maxLen; omega) (by omega) hbase (fun v' w' h1 h2 _ => h v' w' ?_ ?_)
  · obtain ⟨y, _, rfl⟩ := List.mem_map.1 hu; rfl
  · unfold OI; rw [List.length_append, lst_length, List.map_append]; exact h1
  · exact (Below.refl base w).grown h2 hbase (fun k hk => (World.ownsRow.lt hown k hk).1)
end Go.Proofs.YtjmfkenhnfdbjaaGreatDoor
