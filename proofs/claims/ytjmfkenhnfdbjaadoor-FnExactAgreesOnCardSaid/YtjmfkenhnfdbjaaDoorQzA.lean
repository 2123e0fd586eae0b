/- Records of the laws that came in, opened. No condition. -/
import Derived.Test.YtjmfkenhnfdbjaaDoorQyZ
import Derived.Test.YtjmfkenhnfdbjaaDoorOpen
import Derived.Lib.LazyBuf
namespace Go.Proofs.YtjmfkenhnfdbjaaDoor
set_option linter.unusedVariables false
open Go.ChangeShapes Go.WideShapes Go.ChangeAt Go.RowKit Go.Deep Go.Joins
section
variable {H : Type} {enc : TypeId × Value → H} {w : World} {base : Nat} {spare : Nat → Bool} {held : Bool}
theorem spot_cell {a : Addr} {k : Nat} {v : Value} {b off : Nat} (hab : a = ⟨b, off, none⟩) (h : w.cell? (a.add k) = some v) : w.cell? ⟨b, off + k, none⟩ = some v := by
  subst hab
  unfold Addr.add at h
  by_cases e : k = 0
  · subst e; simpa using h
  · rw [if_neg e] at h; exact h
set_option maxRecDepth 100000 in
theorem open_Ev {fuel : Nat} {v : Value} {x : DataW H × List MemPlace} (h : DataW.trod enc Tryd.prog w base spare held fuel 25 [v] = some x) :
    ∃ y : Nat × (Nat → Int) × (Nat → Int), ∀ a b c, EvS w v ⟨a, b, c, y.1, y.2.1, y.2.2⟩ := by
  rcases open_slice_fields (fs := #[_, _]) Tryd.underlying25 Tryd.underlying94 (by kernel_rfl) (by kernel_rfl) h with ⟨hcs, _⟩ | ⟨a, len, cap, m, D, Pl, hcs, _, hl, hm, hmm, _, hi⟩
  · simp only [List.cons.injEq, and_true] at hcs
    exact ⟨(0, fun _ => 0, fun _ => 0), fun a b c => ⟨none, 0, hcs, fun h => absurd h (by simp), by simp, by omega⟩⟩
  · simp only [List.cons.injEq, and_true] at hcs
    have hle : len ≤ m := by rw [hmm]; split <;> omega
    have key : ∀ i, ∃ x : Int × Int, i < len → (w.cell? (a.add (i * 2 + 0)) = some (.int .i64 x.1) ∧ w.cell? (a.add (i * 2 + 1)) = some (.int .i64 x.2)) := by
      intro i
      by_cases hlt : i < len
      · obtain ⟨ys, n, _, _, _, hfld⟩ := hi i (by omega)
        obtain ⟨v0, y0, c0, _, t0⟩ := hfld 0 _ rfl
        obtain ⟨v1, y1, c1, _, t1⟩ := hfld 1 _ rfl
        obtain ⟨n0, e, _, b0⟩ := DataW.trod_int Tryd.underlying3 t0; simp only [List.cons.injEq, and_true] at e; subst e
        obtain ⟨n1, e, _, b1⟩ := DataW.trod_int Tryd.underlying3 t1; simp only [List.cons.injEq, and_true] at e; subst e
        exact ⟨(n0, n1), fun _ => ⟨c0, c1⟩⟩
      · exact ⟨(0, 0), fun h => absurd h hlt⟩
    obtain ⟨R, hR⟩ := Classical.axiomOfChoice key
    refine ⟨(len, fun j => (R j).1, fun j => (R j).2), fun _ _ _ => ⟨some a, cap, hcs, fun h0 => ?_, hl, by unfold maxLen at hm; exact hm⟩⟩
    obtain ⟨c0, _⟩ := hR 0 h0
    obtain ⟨b, off, spot⟩ := a
    have hs : spot = none := by simpa [Addr.add] using World.cell?_spot c0
    subst hs
    refine ⟨b, off, rfl, ?_, fun j hj => ?_⟩
    · have := World.block_lt_of_cell? w _ c0
      simpa [Addr.add] using this
    · obtain ⟨c0, c1⟩ := hR j hj
      exact ⟨spot_cell rfl c0, by have := spot_cell rfl c1; rwa [← Nat.add_assoc] at this⟩
/-- The value is the record. -/
def RcV (w : World) (v : Value) (x : Rc) : Prop := ∃ sv, v = .agg #[.int .i64 (x).id, .int .i64 (x).ser, .int .i64 (x).made, sv] ∧ EvS w sv x
set_option maxRecDepth 100000 in
theorem view_lawsRecord {r : Reach} {b0 : Nat} {v : Value} {d : DataW H} {p : List MemPlace} (hv : Value.okWide Tryd.prog w r b0 27 v) (h : DataW.Trod enc Tryd.prog w base spare held 27 v d p) :
    ∃ x : Rc, RcV w v x := by
  obtain ⟨v0, v1, v2, v3, y0, y1, y2, y3, n, rfl, _, _, t0, t1, t2, t3⟩ := open_agg4 Tryd.underlying27 (by kernel_rfl) (by kernel_rfl) hv h
  obtain ⟨n0, e, _, b0⟩ := DataW.trod_int Tryd.underlying3 t0; simp only [List.cons.injEq, and_true] at e; subst e
  obtain ⟨n1, e, _, b1⟩ := DataW.trod_int Tryd.underlying3 t1; simp only [List.cons.injEq, and_true] at e; subst e
  obtain ⟨n2, e, _, b2⟩ := DataW.trod_int Tryd.underlying3 t2; simp only [List.cons.injEq, and_true] at e; subst e
  obtain ⟨⟨m, k, d⟩, hE⟩ := open_Ev t3
  exact ⟨⟨n0, n1, n2, m, k, d⟩, _, rfl, hE _ _ _⟩
set_option maxRecDepth 100000 in
theorem view_SlawsRecord {r : Reach} {b0 : Nat} {v : Value} {d : DataW H} {p : List MemPlace} (hv : Value.okWide Tryd.prog w r b0 37 v) (h : DataW.Trod enc Tryd.prog w base spare held 37 v d p) :
    ∃ x : Nat × (Nat → Rc), RcS w v x.1 x.2 := by
  obtain ⟨a0, len0, cap0, rfl⟩ := okWide_slice Tryd.underlying37 hv
  obtain ⟨fuel, hf⟩ := h
  rcases open_slice_fields (fs := #[_, _, _, _]) Tryd.underlying37 Tryd.underlying27 (by kernel_rfl) (by kernel_rfl) hf with ⟨hcs, _⟩ | ⟨a, len, cap, m, D, Pl, hcs, _, hl, hm, hmm, _, hi⟩
  · simp [Value.cells] at hcs
    obtain ⟨rfl, rfl, rfl⟩ := hcs
    exact ⟨(0, fun _ => noRec), none, 0, rfl, fun h => absurd h (by simp), by simp, by omega⟩
  · simp [Value.cells] at hcs
    obtain ⟨rfl, rfl, rfl⟩ := hcs
    have hle : len0 ≤ m := by rw [hmm]; split <;> omega
    have key : ∀ i, ∃ x : Rc, i < len0 → ∃ sv, EvS w sv x ∧ w.cell? (a.add (i * 4 + 0)) = some (.int .i64 x.id) ∧ w.cell? (a.add (i * 4 + 1)) = some (.int .i64 x.ser) ∧ w.cell? (a.add (i * 4 + 2)) = some (.int .i64 x.made) ∧ w.cell? (a.add (i * 4 + 3)) = some sv := by
      intro i
      by_cases hlt : i < len0
      · obtain ⟨ys, n, _, _, _, hfld⟩ := hi i (by omega)
        obtain ⟨v0, y0, c0, _, t0⟩ := hfld 0 _ rfl
        obtain ⟨v1, y1, c1, _, t1⟩ := hfld 1 _ rfl
        obtain ⟨v2, y2, c2, _, t2⟩ := hfld 2 _ rfl
        obtain ⟨v3, y3, c3, _, t3⟩ := hfld 3 _ rfl
        obtain ⟨n0, e, _, b0⟩ := DataW.trod_int Tryd.underlying3 t0; simp only [List.cons.injEq, and_true] at e; subst e
        obtain ⟨n1, e, _, b1⟩ := DataW.trod_int Tryd.underlying3 t1; simp only [List.cons.injEq, and_true] at e; subst e
        obtain ⟨n2, e, _, b2⟩ := DataW.trod_int Tryd.underlying3 t2; simp only [List.cons.injEq, and_true] at e; subst e
        obtain ⟨⟨m3, k3, d3⟩, hE⟩ := open_Ev t3
        exact ⟨⟨n0, n1, n2, m3, k3, d3⟩, fun _ => ⟨_, hE _ _ _, c0, c1, c2, c3⟩⟩
      · exact ⟨noRec, fun h => absurd h hlt⟩
    obtain ⟨R, hR⟩ := Classical.axiomOfChoice key
    refine ⟨(len0, R), some a, cap0, rfl, fun h0 => ?_, hl, by unfold maxLen at hm; exact hm⟩
    obtain ⟨sv0, _, c0, _⟩ := hR 0 h0
    obtain ⟨b, off, spot⟩ := a
    have hs : spot = none := by simpa [Addr.add] using World.cell?_spot c0
    subst hs
    refine ⟨b, off, rfl, ?_, fun j hj => ?_⟩
    · have := World.block_lt_of_cell? w _ c0
      simpa [Addr.add] using this
    · obtain ⟨sv, hs, c0, c1, c2, c3⟩ := hR j hj
      exact ⟨sv, hs, spot_cell rfl c0, by have := spot_cell rfl c1; rwa [← Nat.add_assoc] at this, by have := spot_cell rfl c2; rwa [← Nat.add_assoc] at this, by have := spot_cell rfl c3; rwa [← Nat.add_assoc] at this⟩
end
end Go.Proofs.YtjmfkenhnfdbjaaDoor
