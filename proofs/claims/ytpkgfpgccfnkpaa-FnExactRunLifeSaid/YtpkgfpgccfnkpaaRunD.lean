/- Arguments of the law on steps, opened. No condition. -/
import Derived.Test.YtpkgfpgccfnkpaaRunA
import Derived.Test.YtpkgfpgccfnkpaaOpen
namespace Go.Proofs.Ytpkgfpgccfnkpaa
set_option linter.unusedVariables false
open Go.ChangeShapes Go.WideShapes Go.ChangeAt Go.RowKit Go.Deep Go.Joins
section
variable {H : Type} {enc : TypeId × Value → H} {w : World} {base : Nat} {spare : Nat → Bool} {held : Bool}
theorem spot_cell {a : Addr} {k : Nat} {v : Value} {b off : Nat} (hab : a = ⟨b, off, none⟩) (h : w.cell? (a.add k) = some v) : w.cell? ⟨b, off + k, none⟩ = some v := by
  subst hab
  unfold Addr.add at h
  by_cases e : k = 0
  · subst e; simpa using h
  · rw [if_neg e] at h; exact h
set_option maxRecDepth 100000 in
theorem view_SlawsLifeStep {r : Reach} {b0 : Nat} {v : Value} {d : DataW H} {p : List MemPlace} (hv : Value.okWide Try.prog w r b0 44 v) (h : DataW.Trod enc Try.prog w base spare held 44 v d p) :
    ∃ x : Nat × (Nat → Int × Int), SS w v x.1 (fun j => (x.2 j).1) (fun j => (x.2 j).2) ∧ ∀ j, j < x.1 → I64 (x.2 j).2 := by
  obtain ⟨a0, len0, cap0, rfl⟩ := okWide_slice Try.underlying44 hv
  obtain ⟨fuel, hf⟩ := h
  rcases open_slice_fields (fs := #[_, _]) Try.underlying44 Try.underlying39 (by kernel_rfl) (by kernel_rfl) hf with ⟨hcs, _⟩ | ⟨a, len, cap, m, D, Pl, hcs, _, hl, hm, hmm, _, hi⟩
  · simp [Value.cells] at hcs
    obtain ⟨rfl, rfl, rfl⟩ := hcs
    exact ⟨(0, fun _ => (0, 0)), ⟨none, 0, rfl, fun h => absurd h (by simp), by simp, by omega⟩, fun j hj => absurd hj (by simp)⟩
  · simp [Value.cells] at hcs
    obtain ⟨rfl, rfl, rfl⟩ := hcs
    have hle : len0 ≤ m := by rw [hmm]; split <;> omega
    have key : ∀ i, ∃ x : Int × Int, i < len0 → w.cell? (a.add (i * 2 + 0)) = some (.int .i64 x.1) ∧ w.cell? (a.add (i * 2 + 1)) = some (.int .i64 x.2) ∧ I64 x.2 := by
      intro i
      by_cases hlt : i < len0
      · obtain ⟨ys, n, _, _, _, hfld⟩ := hi i (by omega)
        obtain ⟨v0, y0, c0, _, t0⟩ := hfld 0 _ rfl
        obtain ⟨v1, y1, c1, _, t1⟩ := hfld 1 _ rfl
        obtain ⟨n0, e, _, b0⟩ := DataW.trod_int Try.underlying3 t0; simp only [List.cons.injEq, and_true] at e; subst e
        obtain ⟨n1, e, _, b1⟩ := DataW.trod_int Try.underlying3 t1; simp only [List.cons.injEq, and_true] at e; subst e
        exact ⟨(n0, n1), fun _ => ⟨c0, c1, i64_of_wf b1⟩⟩
      · exact ⟨(0, 0), fun h => absurd h hlt⟩
    obtain ⟨R, hR⟩ := Classical.axiomOfChoice key
    refine ⟨(len0, R), ⟨some a, cap0, rfl, fun h0 => ?_, hl, by unfold maxLen at hm; exact hm⟩, fun j hj => (hR j hj).2.2⟩
    obtain ⟨c0, _, _⟩ := hR 0 h0
    obtain ⟨b, off, spot⟩ := a
    have hs : spot = none := by simpa [Addr.add] using World.cell?_spot c0
    subst hs
    refine ⟨b, off, rfl, ?_, fun j hj => ?_⟩
    · have := World.block_lt_of_cell? w _ c0
      simpa [Addr.add] using this
    · obtain ⟨c0, c1, _⟩ := hR j hj
      exact ⟨spot_cell rfl c0, by have := spot_cell rfl c1; rwa [← Nat.add_assoc] at this⟩
end
end Go.Proofs.Ytpkgfpgccfnkpaa
