/- A world in which the listed package variables hold what they hold. No condition. -/
import Derived.Test.YtjmfkenhnfdbjaaGreatDoorCards
import Derived.Test.YtjmfkenhnfdbjaaGreatDoorTie
import Derived.Test.YtjmfkenhnfdbjaaGreatDoorOpen
import Derived.Deep.DeepHandedRow
import Derived.LaidMore
import Derived.Deep.DeepLaidRun
import Derived.PinnedBridge
import Derived.OpenShut
import Derived.ChangeMaps5
namespace Go.Proofs.YtjmfkenhnfdbjaaGreatDoor
set_option linter.unusedVariables false
open Go.ChangeShapes Go.WideShapes Go.ChangeAt Go.RowKit
/-- The world that the door's own run leaves, with what the pinned table holds. -/
noncomputable def doorW (os : Os) : World := { World.doorLaid Tryz.prog 62 os with heap := (World.doorLaid Tryz.prog 62 os).heap }
set_option maxRecDepth 100000 in
theorem door_met (os : Os) (args : Array Value) : laidMet Tryz.prog Rows.fnQueriesRow.laid ((doorW os).forCall (fun _ _ => 0) ⟨#[], args, []⟩).memory :=
  laidMet_of_run3 8 (by kernel_rfl) (by kernel_rfl) (by kernel_rfl)
theorem door_shape (os : Os) (args : Array Value) : ((doorW os).forCall (fun _ _ => 0) ⟨#[], args, []⟩).variablesB Tryz.prog = true := by kernel_rfl
theorem door_rest (os : Os) (args : Array Value) : (((doorW os).forCall (fun _ _ => 0) ⟨#[], args, []⟩).heap.toList.drop Tryz.prog.globals.size).take ((begin Tryz.prog (fun _ _ => 0) default).world.heap.size - Tryz.prog.globals.size) =
      (begin Tryz.prog (fun _ _ => 0) default).world.heap.toList.drop Tryz.prog.globals.size := by kernel_rfl
end Go.Proofs.YtjmfkenhnfdbjaaGreatDoor
