/- The world of the witness: the heap that the door's own run leaves, utf8's two tables laid in it. -/
import Derived.Test.YtemjoiaapfhenaaGreatDoorRows
import Derived.Test.YtemjoiaapfhenaaGreatDoorGd00
import Derived.LaidLaws
import Derived.LaidMore
import Derived.LaidHandle
import Derived.Lib.LaidU8
import Derived.Stop.Joined
import Derived.HandedShaped
namespace Go.Proofs.YtemjoiaapfhenaaGreatDoor
open Go.RowKit
def layCells (cs : Array Value) : Obj → Obj
  | .cells _ t f => .cells cs t f
  | o => o
def firstCells : Array Value := (Lib.firstTab.map fun z => Value.int .u8 z).toArray
def accCells : Array Value := ((List.range 16).flatMap fun i => [Value.int .u8 (Lib.accLo i), Value.int .u8 (Lib.accHi i)]).toArray
noncomputable def laidWorld (os : Os) : World :=
  let w0 := World.doorLaid Tryz.prog 1000 os
  { w0 with heap := (w0.heap.modify 4 (layCells firstCells)).modify 5 (layCells accCells) }
abbrev ldD : List (String × DataW Unit) := Rows.deskSaysRow.laid.filter fun x => x.2.handleName?.isNone
set_option maxRecDepth 100000 in
theorem lw_a (os : Os) (args : Array Value) : (DataW.laidRun Tryz.prog ((laidWorld os).forCall (fun _ _ => 0) ⟨#[], args, []⟩).memory 8 (ldD.map (·.1))).map (·.1) = some ldD := by kernel_rfl
set_option maxRecDepth 100000 in
theorem lw_b (os : Os) (args : Array Value) : (DataW.laidRun Tryz.prog ((laidWorld os).forCall (fun _ _ => 0) ⟨#[], args, []⟩).memory 8 (ldD.map (·.1))).map (fun x => Go.Larder.sepB [] 1000000000 0 x.2 && laidRowsB Tryz.prog ((laidWorld os).forCall (fun _ _ => 0) ⟨#[], args, []⟩).memory x.2) = some true := by kernel_rfl
set_option maxRecDepth 100000 in
theorem lw_c (os : Os) (args : Array Value) : (Rows.deskSaysRow.laid.filter fun x => x.2.handleName?.isSome && x.2.funcsIn?.isNone).all (handleAtB Tryz.prog ((laidWorld os).forCall (fun _ _ => 0) ⟨#[], args, []⟩).memory) = true := by kernel_rfl
set_option maxRecDepth 100000 in
theorem lw_d (os : Os) (args : Array Value) : funcsRun Tryz.prog ((laidWorld os).forCall (fun _ _ => 0) ⟨#[], args, []⟩).memory 8 ((funcsListed Rows.deskSaysRow.laid).map (·.1)) = some ((funcsListed Rows.deskSaysRow.laid).map (·.2.funcsOut)) := by kernel_rfl
theorem laidWorld_met (os : Os) (args : Array Value) : laidMetH Tryz.prog Rows.deskSaysRow.laid ((laidWorld os).forCall (fun _ _ => 0) ⟨#[], args, []⟩).memory :=
  laidMetH_of_parts3 (fuel := 8) (Go.Larder.laidMet_sep 8 (lw_a os args) (lw_b os args)) (lw_c os args) (lw_d os args)
end Go.Proofs.YtemjoiaapfhenaaGreatDoor
