/- A world in which the listed package variables hold what they hold. No condition. -/
import Derived.Test.YtjmfkenhnfdbjaaDoorCards
import Derived.Test.YtjmfkenhnfdbjaaDoorTie
import Derived.Test.YtjmfkenhnfdbjaaDoorOpen
import Derived.Deep.DeepHandedRow
import Derived.LaidMore
import Derived.Deep.DeepLaidRun
import Derived.PinnedBridge
import Derived.OpenShut
import Derived.ChangeMaps5
namespace Go.Proofs.YtjmfkenhnfdbjaaDoor
set_option linter.unusedVariables false
open Go.ChangeShapes Go.WideShapes Go.ChangeAt Go.RowKit
/-- The world that the door's own run leaves, with what the pinned table holds. -/
noncomputable def doorW (os : Os) : World := { World.doorLaid Tryd.prog 62 os with heap := (World.doorLaid Tryd.prog 62 os).heap }
set_option maxRecDepth 100000 in
theorem door_met (os : Os) (args : Array Value) : laidMet Tryd.prog Rows.fnExactBothQueriesRow.laid ((doorW os).forCall (fun _ _ => 0) ⟨#[], args, []⟩).memory :=
  laidMet_of_run3 8 (by kernel_rfl) (by kernel_rfl) (by kernel_rfl)
theorem door_shape (os : Os) (args : Array Value) : ((doorW os).forCall (fun _ _ => 0) ⟨#[], args, []⟩).variablesB Tryd.prog = true := by kernel_rfl
theorem door_rest (os : Os) (args : Array Value) : (((doorW os).forCall (fun _ _ => 0) ⟨#[], args, []⟩).heap.toList.drop Tryd.prog.globals.size).take ((begin Tryd.prog (fun _ _ => 0) default).world.heap.size - Tryd.prog.globals.size) =
      (begin Tryd.prog (fun _ _ => 0) default).world.heap.toList.drop Tryd.prog.globals.size := by kernel_rfl
end Go.Proofs.YtjmfkenhnfdbjaaDoor
