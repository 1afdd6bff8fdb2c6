/- The world of the witness: the heap that the door's own run leaves. -/
import Derived.Test.YthpckcfdgfdngaaDoorRows
import Derived.Test.YthpckcfdgfdngaaDoorFrame
import Derived.LaidLaws
import Derived.LaidMore
import Derived.LaidHandle
import Derived.Stop.Joined
import Derived.HandedShaped
namespace Go.Proofs.YthpckcfdgfdngaaDoor
open Go.RowKit
noncomputable def laidWorld (os : Os) : World := World.doorLaid Tryd.prog 4000 os
set_option maxRecDepth 100000 in
theorem laidWorld_met (os : Os) (args : Array Value) : laidMetH Tryd.prog Rows.bodyKindsUptoRow.laid ((laidWorld os).forCall (fun _ _ => 0) ⟨#[], args, []⟩).memory :=
  laidMetH_of_parts3 (fuel := 8) (laidMet_of_run' 8 (by kernel_rfl) (by kernel_rfl)) (by kernel_rfl) (by kernel_rfl)
end Go.Proofs.YthpckcfdgfdngaaDoor
