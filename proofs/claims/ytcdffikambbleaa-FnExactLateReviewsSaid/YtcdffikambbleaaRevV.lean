/- Arguments of the laws on reviews, opened. No condition. -/
import Derived.Test.YtcdffikambbleaaRevA
import Derived.Test.YtcdffikambbleaaOpen
namespace Go.Proofs.Ytcdffikambbleaa
set_option linter.unusedVariables false
open Go.ChangeShapes Go.WideShapes Go.ChangeAt Go.RowKit Go.Deep Go.Joins
section
variable {H : Type} {enc : TypeId × Value → H} {w : World} {base : Nat} {spare : Nat → Bool} {held : Bool}
set_option maxRecDepth 100000 in
theorem view_lawsReview {r : Reach} {b0 : Nat} {v : Value} {d : DataW H} {p : List MemPlace} (hv : Value.okWide Try.prog w r b0 24 v) (h : DataW.Trod enc Try.prog w base spare held 24 v d p) :
    ∃ x : Rv, RR w v x := by
  obtain ⟨v0, v1, v2, y0, y1, y2, n, rfl, _, _, t0, t1, t2⟩ := open_agg3 Try.underlying24 (by kernel_rfl) (by kernel_rfl) hv h
  obtain ⟨n0, e, _, b0⟩ := DataW.trod_int Try.underlying3 t0; simp only [List.cons.injEq, and_true] at e; subst e
  obtain ⟨n1, e, _, b1⟩ := DataW.trod_int Try.underlying3 t1; simp only [List.cons.injEq, and_true] at e; subst e
  obtain ⟨n2, f2, hs, _⟩ := open_SI Try.underlying22 Try.underlying3 (by kernel_rfl) t2
  exact ⟨⟨n0, n1, n2, f2⟩, _, rfl, hs⟩
theorem spot_cell {a : Addr} {k : Nat} {v : Value} {b off : Nat} (hab : a = ⟨b, off, none⟩) (h : w.cell? (a.add k) = some v) : w.cell? ⟨b, off + k, none⟩ = some v := by
  subst hab
  unfold Addr.add at h
  by_cases e : k = 0
  · subst e; simpa using h
  · rw [if_neg e] at h; exact h
set_option maxRecDepth 100000 in
theorem view_SlawsReview {r : Reach} {b0 : Nat} {v : Value} {d : DataW H} {p : List MemPlace} (hv : Value.okWide Try.prog w r b0 31 v) (h : DataW.Trod enc Try.prog w base spare held 31 v d p) :
    ∃ x : Nat × (Nat → Rv), RRs w v x.1 x.2 := by
  obtain ⟨a0, len0, cap0, rfl⟩ := okWide_slice Try.underlying31 hv
  obtain ⟨fuel, hf⟩ := h
  rcases open_slice_fields (fs := #[_, _, _]) Try.underlying31 Try.underlying24 (by kernel_rfl) (by kernel_rfl) hf with ⟨hcs, _⟩ | ⟨a, len, cap, m, D, Pl, hcs, _, hl, hm, hmm, _, hi⟩
  · simp [Value.cells] at hcs
    obtain ⟨rfl, rfl, rfl⟩ := hcs
    exact ⟨(0, fun _ => ⟨0, 0, 0, fun _ => 0⟩), none, 0, rfl, fun h => absurd h (by simp), by simp, by omega⟩
  · simp [Value.cells] at hcs
    obtain ⟨rfl, rfl, rfl⟩ := hcs
    have hle : len0 ≤ m := by rw [hmm]; split <;> omega
    have key : ∀ i, ∃ x : Rv, i < len0 → ∃ sv, SI w sv x.n x.f ∧ w.cell? (a.add (i * 3 + 0)) = some (.int .i64 x.rid) ∧ w.cell? (a.add (i * 3 + 1)) = some (.int .i64 x.due) ∧ w.cell? (a.add (i * 3 + 2)) = some sv := by
      intro i
      by_cases hlt : i < len0
      · obtain ⟨ys, n, _, _, _, hfld⟩ := hi i (by omega)
        obtain ⟨v0, y0, c0, _, t0⟩ := hfld 0 _ rfl
        obtain ⟨v1, y1, c1, _, t1⟩ := hfld 1 _ rfl
        obtain ⟨v2, y2, c2, _, t2⟩ := hfld 2 _ rfl
        obtain ⟨n0, e, _, b0⟩ := DataW.trod_int Try.underlying3 t0; simp only [List.cons.injEq, and_true] at e; subst e
        obtain ⟨n1, e, _, b1⟩ := DataW.trod_int Try.underlying3 t1; simp only [List.cons.injEq, and_true] at e; subst e
        obtain ⟨n2, f2, hs, _⟩ := open_SI Try.underlying22 Try.underlying3 (by kernel_rfl) t2
        exact ⟨⟨n0, n1, n2, f2⟩, fun _ => ⟨_, hs, c0, c1, c2⟩⟩
      · exact ⟨⟨0, 0, 0, fun _ => 0⟩, fun h => absurd h hlt⟩
    obtain ⟨R, hR⟩ := Classical.axiomOfChoice key
    refine ⟨(len0, R), some a, cap0, rfl, fun h0 => ?_, hl, by unfold maxLen at hm; exact hm⟩
    obtain ⟨sv0, _, c0, _, _⟩ := hR 0 h0
    obtain ⟨b, off, spot⟩ := a
    have hs : spot = none := by simpa [Addr.add] using World.cell?_spot c0
    subst hs
    refine ⟨b, off, rfl, ?_, fun j hj => ?_⟩
    · have := World.block_lt_of_cell? w _ c0
      simpa [Addr.add] using this
    · obtain ⟨sv, hs, c0, c1, c2⟩ := hR j hj
      exact ⟨sv, hs, spot_cell rfl c0, by have := spot_cell rfl c1; rwa [← Nat.add_assoc] at this, by have := spot_cell rfl c2; rwa [← Nat.add_assoc] at this⟩
end
end Go.Proofs.Ytcdffikambbleaa
