/- Deciders: the reference. No condition but those stated. -/
import Derived.Test.YtcdffikambbleaaRevS
import Derived.Test.YtcdffikambbleaaShelf
import Derived.Deep.RegionHeld3
import Derived.Deep.DrawnRows
namespace Go.Proofs.Ytcdffikambbleaa
set_option linter.unusedVariables false
set_option linter.unusedSimpArgs false
open Go.RowKit Go.Sort
theorem step_appN (w : World) {ops : Array Oper} {o : Oper} {a : Act} {K : Act → World → Prop} {Q : Exit → Act → World → Prop} {E : Prop} (hgd : o.guard = none) (s x : Operand)
    (ho : o.op = .call { callee := .builtin .append, args := #[s, x], argTypes := #[22, 22] })
    (wb : World) (v : Value) (xs : List Int) (hs : a.eval s = v) (hown : OI wb.heap.size w v xs) (hb : Below wb.heap.size wb w) (A : Option Addr) (m c : Nat) (f : Nat → Int) (hx : a.eval x = .slice A m c) (hr : SI w (.slice A m c) m f)
    (hlen : xs.length + m ≤ 1099511627776)
    (h : ∀ v' w', OI wb.heap.size w' v' (xs ++ lst m f) → Below wb.heap.size wb w' → K (a.put o.dst v') w') : if Region.wanted o (yielded ops a.tmps) = true then Oper.wp Try.prog o a w K Q else E := by
  obtain ⟨i0, hi, hz0, hz1, hz2⟩ := info_parts info_int
  have hbase := hb.size
  refine step_append_any w hgd s x 22 ho wb.heap.size 3 i0 (.int .i64 0) 1 8 Try.underlying22 hi hz0 hz1 hz2 rfl (by omega) v xs.length (xs.map (Value.int .i64)) hs hown w.heap.size A m c _ hx hr.reads
    (fun u hu => ?_) (by unfold maxLen; omega) (by omega) hbase (fun v' w' h1 h2 _ => h v' w' ?_ ?_)
  · obtain ⟨y, _, rfl⟩ := List.mem_map.1 hu; rfl
  · unfold OI; rw [List.length_append, lst_length, List.map_append]; exact h1
  · exact hb.trans ((Below.refl _ w).grown h2 hbase (fun k hk => (World.ownsRow.lt hown k hk).1))
theorem SI.tailIf {w : World} {b off n cap k : Nat} {f : Nat → Int} (h : SI w (.slice (some ⟨b, off, none⟩) n cap) n f) (hk : k ≤ n) : SI w (.slice (if cap = k then some ⟨b, off, none⟩ else some ⟨b, off + k, none⟩) (n - k) (cap - k)) (n - k) (fun j => f (k + j)) := by
  by_cases e : cap = k
  · rw [if_pos e]
    have hc := h
    obtain ⟨A', cap', e', _, hc1, hc2⟩ := hc
    cases e'
    exact ⟨_, _, rfl, fun h0 => absurd h0 (by omega), by omega, by omega⟩
  · rw [if_neg e]; exact h.tail hk
theorem C_l1OwnAt (wb : World) (v : Value) (n : Nat) (f : Nat → Int) (w : World) (h : SI wb v n f) (hb : Below wb.heap.size wb w) (hn : n ≤ 1099511627776) :
    Calls Try.prog 92 #[v] w fun e w' => ∃ v', e = .returned v' ∧ OI wb.heap.size w' v' (lst n f) ∧ Below wb.heap.size wb w' :=
  (C_l1Own v n f w (h.below hb) hn).mono fun e w' ⟨v', h1, h2, h3⟩ => ⟨v', h1, h2.mono hb.size, bel_step0 h3 hb⟩
end Go.Proofs.Ytcdffikambbleaa
