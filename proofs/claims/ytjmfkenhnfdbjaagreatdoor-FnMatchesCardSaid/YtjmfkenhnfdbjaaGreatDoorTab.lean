/- The table of powers of ten, out of a row's own condition. -/
import Derived.Test.YtjmfkenhnfdbjaaGreatDoorNum
import Derived.Stop.LaidErr
namespace Go.Proofs.YtjmfkenhnfdbjaaGreatDoor
open Go.RowKit Go.Sort
theorem tab_of (W : World) (hL : laidMetH Tryz.prog Rows.fnQueriesRow.laid W) : Tab W := by
  have h : laidMet Tryz.prog Rows.fnQueriesRow.laid W := hL
  have h2 := (laidMet.tail (laidMet.tail h))
  exact Lib.tabIs_of_head (g := 3) (t := 159) (e := 53) (n := 20) (by kernel_rfl) (by kernel_rfl) (by kernel_rfl) (by kernel_rfl) (by kernel_rfl) (by kernel_rfl) h2
end Go.Proofs.YtjmfkenhnfdbjaaGreatDoor
