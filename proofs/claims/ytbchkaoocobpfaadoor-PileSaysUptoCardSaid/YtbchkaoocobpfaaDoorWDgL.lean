/- Walks: digests: tables. -/
import Derived.Test.YtbchkaoocobpfaaDoorWDgM
import Derived.Laws.CopyOwn
import Derived.Laws.Tables
import Derived.Laws.Rows
namespace Go.Proofs.YtbchkaoocobpfaaDoor
open Go.RowKit Go.Larder
set_option linter.unusedVariables false
set_option linter.unusedSimpArgs false
def U8 (n : Nat) : Value := .int .u8 (n : Int)
theorem w_iv (w : World) : Calls Tryd.prog 27 #[] w fun e w' => e = .returned (.agg (ivN.map U).toArray) ∧ Below w.heap.size w w' := by
  go_enter Tryd.func27, Tryd.ntmps27
  go_wp2_with fail
  refine bodyPost_ret (results_cell_row (by rfl) _ _ w.heap.size 58 (ivN.map U).toArray (0, 0) _ (by rfl) (heap_alloc_new w _) Tryd.underlying58 (by rfl) (by kernel_rfl)) rfl ?_
  exact ⟨rfl, (Below.refl _ _).alloc (Nat.le_refl _) _⟩
set_option maxHeartbeats 2000000 in
set_option maxRecDepth 100000 in
theorem w_lines (w : World) : Calls Tryd.prog 46 #[] w fun e w' => e = .returned (.agg (sigN.flatten.map U8).toArray) ∧ Below w.heap.size w w' := by
  go_enter Tryd.func46, Tryd.ntmps46
  go_wp2_with (first
    | (refine wpList_build (t := 100) rfl _ rfl (by kernel_rfl) ?_)
    | (refine wpList_store_row (ty := 100) rfl _ _ rfl w.heap.size _ rfl rfl 100 _ (heap_alloc_new w _) (by kernel_rfl) (by kernel_rfl) (by kernel_rfl) ?_))
  refine bodyPost_ret (results_cell_row (by rfl) _ _ w.heap.size 100 _ (0, 0) _ (by rfl) (setRow_heap _ _ _ _ _ _ (heap_alloc_new w _)) Tryd.underlying100 (by rfl) (by kernel_rfl)) rfl ?_
  refine ⟨congrArg (fun a => Ending.returned (Value.agg a)) ?_, below_setRow ((Below.refl _ _).alloc (Nat.le_refl _) _) (Nat.le_refl _) _⟩
  kernel_rfl
end Go.Proofs.YtbchkaoocobpfaaDoor
