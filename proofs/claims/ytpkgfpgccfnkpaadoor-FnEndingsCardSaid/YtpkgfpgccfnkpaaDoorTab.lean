/- The table of powers of ten, out of a row's own condition. -/
import Derived.Test.YtpkgfpgccfnkpaaDoorNum
import Derived.Stop.LaidErr
namespace Go.Proofs.YtpkgfpgccfnkpaaDoor
open Go.RowKit Go.Sort
theorem tab_of (W : World) (hL : laidMetH Tryd.prog Rows.fnExactLifeTextRow.laid W) : Tab W := by
  have h : laidMet Tryd.prog Rows.fnExactLifeTextRow.laid W := hL
  have h2 := (laidMet.tail (laidMet.tail h))
  exact Lib.tabIs_of_head (g := 0) (t := 69) (e := 52) (n := 20) (by kernel_rfl) (by kernel_rfl) (by kernel_rfl) (by kernel_rfl) (by kernel_rfl) (by kernel_rfl) h2
end Go.Proofs.YtpkgfpgccfnkpaaDoor
