/- The world of the witness: the heap that the door's own run leaves, utf8's two tables laid in it. -/
import Derived.Test.YtbchkaoocobpfaaDoorRows
import Derived.Test.YtbchkaoocobpfaaDoorFrame
import Derived.LaidLaws
import Derived.LaidMore
import Derived.LaidHandle
import Derived.Lib.LaidU8
import Derived.Stop.Joined
import Derived.HandedShaped
namespace Go.Proofs.YtbchkaoocobpfaaDoor
open Go.RowKit
def layCells (cs : Array Value) : Obj → Obj
  | .cells _ t f => .cells cs t f
  | o => o
def firstCells : Array Value := (Lib.firstTab.map fun z => Value.int .u8 z).toArray
def accCells : Array Value := ((List.range 16).flatMap fun i => [Value.int .u8 (Lib.accLo i), Value.int .u8 (Lib.accHi i)]).toArray
noncomputable def laidWorld (os : Os) : World :=
  let w0 := World.doorLaid Tryd.prog 4000 os
  w0
set_option maxRecDepth 100000 in
theorem laidWorld_met (os : Os) (args : Array Value) : laidMetH Tryd.prog Rows.pileSaysUptoRow.laid ((laidWorld os).forCall (fun _ _ => 0) ⟨#[], args, []⟩).memory :=
  laidMetH_of_parts3 (fuel := 8) (laidMet_of_run' 8 (by kernel_rfl) (by kernel_rfl)) (by kernel_rfl) (by kernel_rfl)
end Go.Proofs.YtbchkaoocobpfaaDoor
