/- Walk: strings.TrimLeft at blanks. -/
import Derived.Test.YtcoghpokkhjhgaaGreatDoorWTrimP
namespace Go.Proofs.YtcoghpokkhjhgaaGreatDoor
open Go.RowKit Go.Larder
set_option linter.unusedVariables false
set_option linter.unusedSimpArgs false

set_option maxHeartbeats 4000000 in
set_option maxRecDepth 100000 in
theorem w_TrimLeft (l : List UInt8) (hl : l.length ≤ 140737488351232) (w : World) :
    Calls Tryz.prog 57 #[S l, S [32, 9]] w fun e w' => e = .returned (S (l.dropWhile isB)) ∧ Below w.heap.size w w' := by
  rcases l with _ | ⟨a, l⟩
  · go_enter Tryz.func57, Tryz.ntmps57
    go_wp2_with fail
    go_ret
    exact ⟨rfl, Below.refl _ _⟩
  · have hM := Tryz.strings_makeASCIISet zero_set ⟨[32, 9].toArray⟩ w (by decide) (by
      intro j b h
      rcases j with _ | _ | j
      · have : b = 32 := by simpa using h.symm
        subst this; decide
      · have : b = 9 := by simpa using h.symm
        subst this; decide
      · simp at h)
    have hdat : (⟨([32, 9] : List UInt8).toArray⟩ : ByteArray).data.toList = [32, 9] := rfl
    rw [hdat] at hM
    have hsz := Lib.setCells_size [32, 9]
    have hi : ((Tryz.prog).info? 116).map (·.size) = some 256 := by kernel_rfl
    have hsc : (storeCells ⟨w.heap.size + 1, 0, none⟩ (Lib.setCells [32, 9]).toList 0).run Tryz.prog ((w.alloc (.cells (Lib.setCells [32, 9]) 116)).alloc (.cells (Array.replicate 256 (.bool false)) 116)) = .ok () ((w.alloc (.cells (Lib.setCells [32, 9]) 116)).alloc (.cells (Lib.setCells [32, 9]) 116)) := by
      have := run_storeCells_new (P := Tryz.prog) (w.alloc (.cells (Lib.setCells [32, 9]) 116)) 116 (Array.replicate 256 (.bool false)) (Lib.setCells [32, 9]) (by rw [Lib.setCells_size]; exact hi) (by rw [Lib.setCells_size, Array.size_replicate])
      have hone : ((Lib.setCells [32, 9]).all fun x => x.oneCell') = true := by kernel_rfl
      have h9 := this hone
      simpa using h9
    have hset : SetAt ((w.alloc (.cells (Lib.setCells [32, 9]) 116)).alloc (.cells (Lib.setCells [32, 9]) 116)) (w.heap.size + 1) := fun x => by
      rw [World.cell?_alloc_at _ _ _ _ (by simp), Lib.setCells_at, blank_eq]
    generalize Lib.setCells [32, 9] = cs at *
    have Hset := Lib.hid hset
    clear hset
    go_enter Tryz.func57, Tryz.ntmps57
    go_wp2_with (go_at_call 87; refine hM.mono ?_; rintro e w' ⟨rfl, hw⟩; rw [hw])
    simp only [show Tryz.zeroCells116 = Array.replicate 256 (Value.bool false) from by kernel_rfl, hsc, Result.andThen]
    rw [Oper.upon_skip]
    go_wp2_with (go_at_call 88; refine (w_trimL (a :: l) hl _ _ Hset.out).mono ?_; rintro e w' ⟨rfl, rfl⟩)
    go_ret
    exact ⟨rfl, ((Below.refl _ _).alloc (Nat.le_refl _) _).alloc (by simp) _⟩
end Go.Proofs.YtcoghpokkhjhgaaGreatDoor
