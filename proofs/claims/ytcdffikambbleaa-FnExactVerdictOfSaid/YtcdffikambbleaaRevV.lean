/- Arguments of the laws on reviews, opened. No condition. -/
import Derived.Test.YtcdffikambbleaaRevA
import Derived.Test.YtcdffikambbleaaOpen
namespace Go.Proofs.Ytcdffikambbleaa
set_option linter.unusedVariables false
open Go.ChangeShapes Go.WideShapes Go.ChangeAt Go.RowKit Go.Deep Go.Joins
section
variable {H : Type} {enc : TypeId × Value → H} {w : World} {base : Nat} {spare : Nat → Bool} {held : Bool}
set_option maxRecDepth 100000 in
theorem view_lawsReview {r : Reach} {b0 : Nat} {v : Value} {d : DataW H} {p : List MemPlace} (hv : Value.okWide Try.prog w r b0 24 v) (h : DataW.Trod enc Try.prog w base spare held 24 v d p) :
    ∃ x : Rv, RR w v x := by
  obtain ⟨v0, v1, v2, y0, y1, y2, n, rfl, _, _, t0, t1, t2⟩ := open_agg3 Try.underlying24 (by kernel_rfl) (by kernel_rfl) hv h
  obtain ⟨n0, e, _, b0⟩ := DataW.trod_int Try.underlying3 t0; simp only [List.cons.injEq, and_true] at e; subst e
  obtain ⟨n1, e, _, b1⟩ := DataW.trod_int Try.underlying3 t1; simp only [List.cons.injEq, and_true] at e; subst e
  obtain ⟨n2, f2, hs, _⟩ := open_SI Try.underlying22 Try.underlying3 (by kernel_rfl) t2
  exact ⟨⟨n0, n1, n2, f2⟩, _, rfl, hs⟩
end
end Go.Proofs.Ytcdffikambbleaa
