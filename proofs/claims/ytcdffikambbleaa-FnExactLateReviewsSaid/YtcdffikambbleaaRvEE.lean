/- Appending runs of reviews in regions that draw their order. No condition but those stated. -/
import Derived.Test.YtcdffikambbleaaRvED
namespace Go.Proofs.Ytcdffikambbleaa
set_option linter.unusedVariables false
set_option linter.unusedSimpArgs false
open Go.RowKit Go.Sort
/-- The slice whose head is A reads as the reviews l. -/
def RE (w : World) (A : Option Addr) (l : List El) : Prop :=
  0 < l.length → ∃ b off, A = some ⟨b, off, none⟩ ∧ b < w.heap.size ∧ ∀ i, i < l.length * 3 → w.cell? ⟨b, off + i, none⟩ = some (cE (atE l (i / 3)) (i % 3))
theorem RE.nil (w : World) (A : Option Addr) : RE w A [] := fun h => absurd h (by simp)
theorem RE.below {w w' : World} {A : Option Addr} {l : List El} (h : RE w A l) (hb : Below w.heap.size w w') : RE w' A l := fun h0 => by
  obtain ⟨b, off, e, hl, hc⟩ := h h0
  exact ⟨b, off, e, Nat.lt_of_lt_of_le hl hb.size, fun i hi => (hb.cell (p := ⟨b, off + i, none⟩) hl).trans (hc i hi)⟩
theorem RE.take {w : World} {A : Option Addr} {l : List El} (h : RE w A l) (k : Nat) : RE w A (l.take k) := fun h0 => by
  have h1 : (l.take k).length ≤ l.length := by rw [List.length_take]; omega
  obtain ⟨b, off, e, hl, hc⟩ := h (by omega)
  refine ⟨b, off, e, hl, fun i hi => ?_⟩
  rw [hc i (by omega)]
  have e2 : atE (l.take k) (i / 3) = atE l (i / 3) := by
    rw [List.length_take] at hi
    unfold atE
    rw [List.getD_eq_getElem?_getD, List.getD_eq_getElem?_getD, List.getElem?_take_of_lt (by omega)]
  rw [e2]
theorem RE.drop {w : World} {b off : Nat} {l : List El} (h : RE w (some ⟨b, off, none⟩) l) (k : Nat) : RE w (some ⟨b, off + k * 3, none⟩) (l.drop k) := fun h0 => by
  rw [List.length_drop] at h0
  obtain ⟨b', off', e, hl, hc⟩ := h (by omega)
  injection e with e
  injection e with e1 e2 _
  subst e1 e2
  refine ⟨b, off + k * 3, rfl, hl, fun i hi => ?_⟩
  rw [List.length_drop] at hi
  rw [Nat.add_assoc, hc (k * 3 + i) (by omega), show (k * 3 + i) / 3 = k + i / 3 by omega, show (k * 3 + i) % 3 = i % 3 by omega]
  have e2 : atE (l.drop k) (i / 3) = atE l (k + i / 3) := by
    unfold atE
    rw [List.getD_eq_getElem?_getD, List.getD_eq_getElem?_getD, List.getElem?_drop]
  rw [e2]
theorem RE.one {w : World} {B : Nat} {x : El} (hl : B < w.heap.size) (h0 : w.cell? ⟨B, 0, none⟩ = some (.int .i64 x.rid)) (h1 : w.cell? ⟨B, 1, none⟩ = some (.int .i64 x.due)) (h2 : w.cell? ⟨B, 2, none⟩ = some (.slice x.A x.n x.c)) : RE w (some ⟨B, 0, none⟩) [x] := fun _ =>
  ⟨B, 0, rfl, hl, fun i hi => by
    rw [Nat.zero_add]
    match i, hi with
    | 0, _ => exact h0
    | 1, _ => exact h1
    | 2, _ => exact h2
    | i + 3, h => simp at h; omega⟩
theorem RE.reads {w : World} {A : Option Addr} {l : List El} (h : RE w A l) : Reads w w.heap.size 3 A l.length ((List.range (l.length * 3)).map fun i => cE (atE l (i / 3)) (i % 3)) := by
  refine ⟨by simp, fun h0 => ?_⟩
  obtain ⟨b, off, e, hl, hc⟩ := h h0
  refine ⟨_, e, hl, fun i u hu => ?_⟩
  have hi : i < l.length * 3 := by have := (List.getElem?_eq_some_iff.1 hu).1; simpa using this
  rw [List.getElem?_map, List.getElem?_range hi] at hu
  simp only [Option.map_some, Option.some.injEq] at hu
  subst hu
  have ea : (Addr.add ⟨b, off, none⟩ i) = ⟨b, off + i, none⟩ := by
    unfold Addr.add
    by_cases e : i = 0
    · subst e; rfl
    · rw [if_neg e]
  rw [ea]; exact hc i hi
theorem OE.re {base : Nat} {w : World} {A : Option Addr} {n cap : Nat} {l : List El} (h : OE base w (.slice A n cap) l) : RE w A l := fun h0 => by
  obtain ⟨A', c', e, _, _, hA⟩ := own3.form h
  injection e with e1 e2 e3
  obtain ⟨g, rfl, _, hl⟩ := hA h0
  subst e1 e2 e3
  exact ⟨g, 0, rfl, hl, fun i hi => by rw [Nat.zero_add]; exact own3.cell h hi⟩
/-- Appending a run of reviews at a step of a region that draws its order. -/
theorem step_appE (w : World) {ops : Array Oper} {o : Oper} {a : Act} {K : Act → World → Prop} {Q : Exit → Act → World → Prop} {E : Prop} (hgd : o.guard = none) (s x : Operand)
    (ho : o.op = .call { callee := .builtin .append, args := #[s, x], argTypes := #[34, 34] })
    (wb : World) (v : Value) (l r : List El) (hs : a.eval s = v) (hown : OE wb.heap.size w v l) (hb : Below wb.heap.size wb w) (A : Option Addr) (m c : Nat) (hm : r.length = m) (hx : a.eval x = .slice A m c) (hr : RE w A r)
    (hlen : l.length + m ≤ 1099511627776)
    (h : ∀ v' w', OE wb.heap.size w' v' (l ++ r) → Below wb.heap.size wb w' → (∀ q, q < w.heap.size → v.ownBlock ≠ some q → w'.heap[q]? = w.heap[q]?) → w.heap.size ≤ w'.heap.size → K (a.put o.dst v') w') : if Region.wanted o (yielded ops a.tmps) = true then Oper.wp Try.prog o a w K Q else E := by
  subst hm
  obtain ⟨i0, hi, hz0, hz1, hz2⟩ := info_parts info_rev
  have hbase := hb.size
  obtain ⟨xs, ho1, ho2⟩ := hown
  refine step_append_any w hgd s x 34 ho wb.heap.size 27 i0 _ 3 40 Try.underlying34 hi hz0 hz1 hz2 rfl (by omega) v l.length xs hs ho1 w.heap.size A r.length c _ hx hr.reads
    (fun u hu => ?_) (by unfold maxLen; omega) (by omega) hbase (fun v' w' h1 h2 _ => h v' w' ?_ ?_ (fun q hq hn => h2.block q hq (fun e => hn e.symm)) h2.size)
  · obtain ⟨i, hi, rfl⟩ := List.mem_map.1 hu
    exact cE_one _ _
  · refine ⟨_, by rw [List.length_append]; exact h1, fun i hi => ?_⟩
    have hl := ho1.1
    rw [List.length_append] at hi
    by_cases e : i < l.length * 3
    · rw [List.getElem?_append_left (by omega), ho2 i e]
      show _ = some (cE (atE (l ++ r) (i / 3)) (i % 3))
      rw [atE_app_left (by omega)]
    · rw [List.getElem?_append_right (by omega), hl, List.getElem?_map, List.getElem?_range (by omega)]
      show some (cE (atE r ((i - l.length * 3) / 3)) ((i - l.length * 3) % 3)) = some (cE (atE (l ++ r) (i / 3)) (i % 3))
      rw [atE_app_right (by omega), show (i - l.length * 3) / 3 = i / 3 - l.length by omega, show (i - l.length * 3) % 3 = i % 3 by omega]
  · exact hb.trans ((Below.refl _ w).grown h2 hbase (fun k hk => (World.ownsRow.lt ho1 k hk).1))
theorem OE.emptyAt {base : Nat} {W : World} {g : Nat} (hg : g = W.heap.size) (hb : base ≤ g) : OE base (W.alloc (.cells #[] 27)) (.slice (some ⟨g, 0, none⟩) 0 0) [] := by
  subst hg; exact own3.empty hb _
theorem re_lit (W : World) (x : El) (T : TypeId) : RE (W.alloc (.cells #[.int .i64 x.rid, .int .i64 x.due, .slice x.A x.n x.c] T)) (some ⟨W.heap.size, 0, none⟩) [x] :=
  RE.one (by simp) (cell_new _ _ _ _ _ rfl) (cell_new _ _ _ _ _ rfl) (cell_new _ _ _ _ _ rfl)
theorem re_block {w w2 : World} {g : Nat} {x : El} (h : RE w (some ⟨g, 0, none⟩) [x]) (hg : w2.heap[g]? = w.heap[g]?) : RE w2 (some ⟨g, 0, none⟩) [x] := fun h0 => by
  obtain ⟨b, off, e, hl, hc⟩ := h h0
  injection e with e
  injection e with e1 e2 _
  subst e1 e2
  refine ⟨g, 0, rfl, ?_, fun i hi => (World.cell?_of_block (w := w) (a := ⟨g, 0 + i, none⟩) hg).trans (hc i hi)⟩
  rcases Nat.lt_or_ge g w2.heap.size with h | h
  · exact h
  · rw [Array.getElem?_eq_none h, Array.getElem?_eq_getElem hl] at hg; cases hg
theorem re_kept1 {w w2 : World} {T T' : TypeId} {x : El} (hq : ∀ q, q < ((w.alloc (.cells #[] T)).alloc (.cells #[.int .i64 x.rid, .int .i64 x.due, .slice x.A x.n x.c] T')).heap.size → (Value.slice (some ⟨w.heap.size, 0, none⟩) 0 0).ownBlock ≠ some q → w2.heap[q]? = ((w.alloc (.cells #[] T)).alloc (.cells #[.int .i64 x.rid, .int .i64 x.due, .slice x.A x.n x.c] T')).heap[q]?)
    : RE w2 (some ⟨w.heap.size + 1, 0, none⟩) [x] := by
  have h := re_lit (w.alloc (.cells #[] T)) x T'
  rw [World.size_alloc] at h
  exact re_block h (hq (w.heap.size + 1) (by simp) (by simp [Value.ownBlock]))
theorem re_kept0 {w w2 : World} {T T' : TypeId} {x : El} (hq : ∀ q, q < ((w.alloc (.cells #[.int .i64 x.rid, .int .i64 x.due, .slice x.A x.n x.c] T')).alloc (.cells #[] T)).heap.size → (Value.slice (some ⟨w.heap.size + 1, 0, none⟩) 0 0).ownBlock ≠ some q → w2.heap[q]? = ((w.alloc (.cells #[.int .i64 x.rid, .int .i64 x.due, .slice x.A x.n x.c] T')).alloc (.cells #[] T)).heap[q]?)
    : RE w2 (some ⟨w.heap.size, 0, none⟩) [x] := by
  have h := (re_lit w x T').below ((Below.refl _ _).alloc (Nat.le_refl _) (.cells #[] T))
  exact re_block h (hq w.heap.size (by simp) (by simp [Value.ownBlock]))
end Go.Proofs.Ytcdffikambbleaa
