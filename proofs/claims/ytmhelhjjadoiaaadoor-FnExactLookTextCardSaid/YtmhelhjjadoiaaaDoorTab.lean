/- The table of powers of ten, out of a row's own condition. -/
import Derived.Test.YtmhelhjjadoiaaaDoorNum
import Derived.Stop.LaidErr
namespace Go.Proofs.YtmhelhjjadoiaaaDoor
open Go.RowKit Go.Sort
theorem tab_of (W : World) (hL : laidMetH Tryd.prog Rows.fnExactLookTextRow.laid W) : Tab W := by
  have h : laidMet Tryd.prog Rows.fnExactLookTextRow.laid W := hL
  have h2 := (laidMet.tail (laidMet.tail h))
  exact Lib.tabIs_of_head (g := 2) (t := 154) (e := 118) (n := 20) (by kernel_rfl) (by kernel_rfl) (by kernel_rfl) (by kernel_rfl) (by kernel_rfl) (by kernel_rfl) h2
end Go.Proofs.YtmhelhjjadoiaaaDoor
