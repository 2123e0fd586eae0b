/- The table of powers of ten, out of a row's own condition. -/
import Derived.Test.YtjmfkenhnfdbjaaDoorNum
import Derived.Stop.LaidErr
namespace Go.Proofs.YtjmfkenhnfdbjaaDoor
open Go.RowKit Go.Sort
theorem tab_of (W : World) (hL : laidMetH Tryd.prog Rows.fnExactBothQueriesRow.laid W) : Tab W := by
  have h : laidMet Tryd.prog Rows.fnExactBothQueriesRow.laid W := hL
  have h2 := (laidMet.tail (laidMet.tail h))
  exact Lib.tabIs_of_head (g := 3) (t := 162) (e := 129) (n := 20) (by kernel_rfl) (by kernel_rfl) (by kernel_rfl) (by kernel_rfl) (by kernel_rfl) (by kernel_rfl) h2
end Go.Proofs.YtjmfkenhnfdbjaaDoor
