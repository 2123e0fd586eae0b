/- Appending texts in a drawn region. No condition but those stated. -/
import Derived.Test.YtmhelhjjadoiaaaDoorPut
import Derived.Test.YtmhelhjjadoiaaaDoorTxtD
namespace Go.Proofs.YtmhelhjjadoiaaaDoor
set_option linter.unusedVariables false
set_option linter.unusedSimpArgs false
open Go.RowKit Go.Sort
theorem TI.cut {w : World} {A : Option Addr} {n cap k : Nat} {f : Nat → ByteArray} (h : TI w (.slice A n cap) n f) (hk : k ≤ n) : TI w (.slice A k cap) k f := by
  obtain ⟨A', cap', e, hr, hc, hm⟩ := h
  cases e
  refine ⟨A, cap, rfl, fun h0 => ?_, by omega, hm⟩
  obtain ⟨b, off, rfl, hl, hcell⟩ := hr (by omega)
  exact ⟨b, off, rfl, hl, fun j hj => hcell j (by omega)⟩
theorem TI.tail {w : World} {b off n cap k : Nat} {f : Nat → ByteArray} (h : TI w (.slice (some ⟨b, off, none⟩) n cap) n f) (hk : k ≤ n) : TI w (.slice (some ⟨b, off + k, none⟩) (n - k) (cap - k)) (n - k) (fun j => f (k + j)) := by
  obtain ⟨A', cap', e, hr, hc, hm⟩ := h
  cases e
  refine ⟨_, _, rfl, fun h0 => ?_, by omega, by omega⟩
  obtain ⟨b', off', e, hl, hcell⟩ := hr (by omega)
  cases e
  exact ⟨b, off + k, rfl, hl, fun j hj => by rw [Nat.add_assoc]; exact hcell (k + j) (by omega)⟩
theorem TI.tailIf {w : World} {b off n cap k : Nat} {f : Nat → ByteArray} (h : TI w (.slice (some ⟨b, off, none⟩) n cap) n f) (hk : k ≤ n) : TI w (.slice (if cap = k then some ⟨b, off, none⟩ else some ⟨b, off + k, none⟩) (n - k) (cap - k)) (n - k) (fun j => f (k + j)) := by
  by_cases e : cap = k
  · rw [if_pos e]
    have hc := h
    obtain ⟨A', cap', e', _, hc1, hc2⟩ := hc
    cases e'
    exact ⟨_, _, rfl, fun h0 => absurd h0 (by omega), by omega, by omega⟩
  · rw [if_neg e]; exact h.tail hk
theorem lstT_take (l : List ByteArray) (k : Nat) (hk : k ≤ l.length) : lstT k (atT l) = l.take k := by
  show (List.range k).map (atT l) = l.take k
  apply List.ext_getElem
  · rw [List.length_map, List.length_range, List.length_take]; omega
  · intro j h1 h2
    rw [List.getElem_map, List.getElem_range, List.getElem_take]
    have hj : j < l.length := by simp at h1; omega
    have := atT_lt hj
    rw [List.getElem?_eq_getElem hj] at this
    injection this with this
    exact this.symm
theorem lstT_drop (l : List ByteArray) (k : Nat) (hk : k ≤ l.length) : lstT (l.length - k) (fun j => atT l (k + j)) = l.drop k := by
  show (List.range (l.length - k)).map (fun j => atT l (k + j)) = l.drop k
  apply List.ext_getElem
  · rw [List.length_map, List.length_range, List.length_drop]
  · intro j h1 h2
    rw [List.getElem_map, List.getElem_range, List.getElem_drop]
    have hj : k + j < l.length := by simp at h1; omega
    have := atT_lt hj
    rw [List.getElem?_eq_getElem hj] at this
    injection this with this
    exact this.symm
theorem step_appT (w : World) {ops : Array Oper} {o : Oper} {a : Act} {K : Act → World → Prop} {Q : Exit → Act → World → Prop} {E : Prop} (hgd : o.guard = none) (s x : Operand)
    (ho : o.op = .call { callee := .builtin .append, args := #[s, x], argTypes := #[49, 49] })
    (wb : World) (v : Value) (xs : List ByteArray) (hs : a.eval s = v) (hown : OT wb.heap.size w v xs) (hb : Below wb.heap.size wb w) (A : Option Addr) (m c : Nat) (f : Nat → ByteArray) (hx : a.eval x = .slice A m c) (hr : TI w (.slice A m c) m f)
    (hlen : xs.length + m ≤ 1099511627776)
    (h : ∀ v' w', OT wb.heap.size w' v' (xs ++ lstT m f) → Below wb.heap.size wb w' → (∀ q, q < w.heap.size → v.ownBlock ≠ some q → w'.heap[q]? = w.heap[q]?) → w.heap.size ≤ w'.heap.size → K (a.put o.dst v') w') : if Region.wanted o (yielded ops a.tmps) = true then Oper.wp Tryd.prog o a w K Q else E := by
  obtain ⟨i0, hi, hz0, hz1, hz2⟩ := info_parts info_string
  have hbase := hb.size
  refine step_append_any w hgd s x 49 ho wb.heap.size 9 i0 (.string ByteArray.empty) 1 16 Tryd.underlying49 hi hz0 hz1 hz2 rfl (by omega) v xs.length (xs.map (Value.string)) hs hown w.heap.size A m c _ hx hr.reads
    (fun u hu => ?_) (by unfold maxLen; omega) (by omega) hbase (fun v' w' h1 h2 _ => h v' w' ?_ ?_ (fun q hq hn => h2.block q hq (fun e => hn e.symm)) h2.size)
  · obtain ⟨y, _, rfl⟩ := List.mem_map.1 hu; rfl
  · unfold OT; rw [List.length_append, lstT_length, List.map_append]; exact h1
  · exact hb.trans ((Below.refl _ w).grown h2 hbase (fun k hk => (World.ownsRow.lt hown k hk).1))
theorem OT.emptyAt {base : Nat} {W : World} {g : Nat} (hg : g = W.heap.size) (hb : base ≤ g) : OT base (W.alloc (.cells #[] 9)) (.slice (some ⟨g, 0, none⟩) 0 0) [] := by
  subst hg; exact OT.empty hb
theorem ti_cell {w : World} {g : Nat} {x : ByteArray} (hg : g < w.heap.size) (h : w.cell? ⟨g, 0, none⟩ = some (.string x)) : TI w (.slice (some ⟨g, 0, none⟩) 1 1) 1 (fun _ => x) :=
  ⟨_, _, rfl, fun _ => ⟨g, 0, rfl, hg, fun j hj => by obtain rfl : j = 0 := (by omega); exact h⟩, Nat.le_refl _, by omega⟩
theorem ti_lit (W : World) (x : ByteArray) (T : TypeId) : TI (W.alloc (.cells #[.string x] T)) (.slice (some ⟨W.heap.size, 0, none⟩) 1 1) 1 (fun _ => x) :=
  ti_cell (by simp) (cell_new _ _ _ _ _ rfl)
theorem litT_kept1 {w w2 : World} {T T' : TypeId} {x : ByteArray} (hq : ∀ q, q < ((w.alloc (.cells #[] T)).alloc (.cells #[.string x] T')).heap.size → (Value.slice (some ⟨w.heap.size, 0, none⟩) 0 0).ownBlock ≠ some q → w2.heap[q]? = ((w.alloc (.cells #[] T)).alloc (.cells #[.string x] T')).heap[q]?)
    (hs : ((w.alloc (.cells #[] T)).alloc (.cells #[.string x] T')).heap.size ≤ w2.heap.size) : TI w2 (.slice (some ⟨w.heap.size + 1, 0, none⟩) 1 1) 1 (fun _ => x) := by
  simp only [World.size_alloc] at hs
  refine ti_cell (by omega) ((World.cell?_of_block (a := ⟨w.heap.size + 1, 0, none⟩) (hq (w.heap.size + 1) (by simp) (by simp [Value.ownBlock]))).trans ?_)
  have := cell_new (w.alloc (.cells #[] T)) #[.string x] T' 0 _ rfl
  rw [World.size_alloc] at this
  exact this
theorem litT_kept0 {w w2 : World} {T T' : TypeId} {x : ByteArray} (hq : ∀ q, q < ((w.alloc (.cells #[.string x] T')).alloc (.cells #[] T)).heap.size → (Value.slice (some ⟨w.heap.size + 1, 0, none⟩) 0 0).ownBlock ≠ some q → w2.heap[q]? = ((w.alloc (.cells #[.string x] T')).alloc (.cells #[] T)).heap[q]?)
    (hs : ((w.alloc (.cells #[.string x] T')).alloc (.cells #[] T)).heap.size ≤ w2.heap.size) : TI w2 (.slice (some ⟨w.heap.size, 0, none⟩) 1 1) 1 (fun _ => x) := by
  simp only [World.size_alloc] at hs
  exact ti_cell (by omega) ((World.cell?_of_block (a := ⟨w.heap.size, 0, none⟩) (hq w.heap.size (by simp) (by simp [Value.ownBlock]))).trans (cell_old _ (by simp) (cell_new _ _ _ _ _ rfl)))
end Go.Proofs.YtmhelhjjadoiaaaDoor
