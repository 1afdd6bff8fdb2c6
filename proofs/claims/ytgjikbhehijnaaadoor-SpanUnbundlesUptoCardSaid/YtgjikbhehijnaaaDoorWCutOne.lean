/- Walks: strings.Cut, Index, IndexByte, Contains at one byte: texts of any length. -/
import Derived.Test.YtgjikbhehijnaaaDoorChecked
import Derived.Test.YtgjikbhehijnaaaDoorSpecCutOne
import Derived.Laws.Externs
import Derived.Deep.QuietTactic
import Derived.BigQuiet
namespace Go.Proofs.YtgjikbhehijnaaaDoor
open Go.RowKit Go.Larder
set_option linter.unusedVariables false
set_option linter.unusedSimpArgs false
theorem c1_drewN {B : Nat} {a w : World} (h : Below B a w) (n : Nat) : Below B a (w.drewN n) := ⟨h.os, h.tape, h.output, h.size, h.block⟩
set_option maxHeartbeats 1000000 in
set_option maxRecDepth 100000 in
theorem c1_liteIndexByte (l : List UInt8) (c : UInt8) (w : World) :
    Calls Tryd.prog 70 #[S l, .int .u8 c.toNat] w fun e w' => e = .returned (.int .i64 (Lib.indexByte l c)) ∧ w = w' := by
  go_enter Tryd.func70, Tryd.ntmps70
  go_wp2
  rw [run_callFunc_extern Tryd.func92 (by kernel_rfl) (by kernel_rfl) (by kernel_rfl) (e := Extern.BytealgIndexByte.indexByte) (by kernel_rfl), Lib.run_indexByteString]
  simp only [Result.andThen]
  rw [Oper.upon_value]
  go_wp2
  go_ret
  exact ⟨by simp, rfl⟩
theorem c1_IndexByte (l : List UInt8) (c : UInt8) (w : World) :
    Calls Tryd.prog 39 #[S l, .int .u8 c.toNat] w fun e w' => e = .returned (.int .i64 (Lib.indexByte l c)) ∧ w = w' := by
  go_enter Tryd.func39, Tryd.ntmps39
  go_wp2_with (go_at_call 70; refine (c1_liteIndexByte l c _).mono ?_; rintro e w' ⟨rfl, rfl⟩)
  go_ret
  exact ⟨rfl, rfl⟩
set_option maxHeartbeats 1000000 in
theorem c1_liteIndex (l : List UInt8) (c : UInt8) (w : World) :
    Calls Tryd.prog 83 #[S l, S [c]] w fun e w' => e = .returned (.int .i64 (Lib.indexByte l c)) ∧ w = w' := by
  cases hcl : ([c] == l)
  · go_enter Tryd.func83, Tryd.ntmps83
    go_wp2_with (go_at_call 70; refine (c1_liteIndexByte l c _).mono ?_; rintro e w' ⟨rfl, rfl⟩)
    go_ret
    exact ⟨rfl, rfl⟩
  · have hl : l = [c] := by have := hcl; simp at this; exact this.symm
    subst hl
    have h0 : Lib.indexByte [c] c = 0 := by simp [Lib.indexByte]
    go_enter Tryd.func83, Tryd.ntmps83
    go_wp2_with fail
    go_ret
    exact ⟨by rw [h0]; rfl, rfl⟩
theorem c1_Index (l : List UInt8) (c : UInt8) (w : World) :
    Calls Tryd.prog 58 #[S l, S [c]] w fun e w' => e = .returned (.int .i64 (Lib.indexByte l c)) ∧ w = w' := by
  go_enter Tryd.func58, Tryd.ntmps58
  go_wp2_with (go_at_call 83; refine (c1_liteIndex l c _).mono ?_; rintro e w' ⟨rfl, rfl⟩)
  go_ret
  exact ⟨rfl, rfl⟩
set_option maxHeartbeats 1000000 in
theorem c1_liteCut (l : List UInt8) (c : UInt8) (hl : l.length ≤ 140737488351232) (w : World) :
    Calls Tryd.prog 78 #[S l, S [c]] w fun e w' => e = .returned (.tuple #[S (cut1 c l).1, S (cut1 c l).2.1, .bool (cut1 c l).2.2]) ∧ Below w.heap.size w w' := by
  have hi := c1_liteIndex l c w
  rcases ixb_cases l c with h | ⟨k, h⟩
  · rw [cut1_none h]
    rw [h] at hi
    go_enter Tryd.func78, Tryd.ntmps78
    go_wp2_with (go_at_call 83; refine hi.mono ?_; rintro e w' ⟨rfl, rfl⟩)
    go_ret3
    exact ⟨rfl, Below.refl _ _⟩
  · obtain ⟨h1, hk⟩ := cut1_at h
    rw [h1]
    rw [h] at hi
    have hk2 : k ≤ l.length := by omega
    have hk3 : k + 1 ≤ l.length := by omega
    have e1 : (l.drop (k + 1)).take (l.length - (k + 1)) = l.drop (k + 1) := by rw [List.take_of_length_le]; simp
    clear h1
    go_enter Tryd.func78, Tryd.ntmps78
    go_wp2_with (go_at_call 83; refine hi.mono ?_; rintro e w' ⟨rfl, rfl⟩)
    go_quiet (fail)
    go_wp2_with fail
    go_ret3
    exact ⟨by simp, c1_drewN (Below.refl _ _) _⟩
theorem c1_Cut (l : List UInt8) (c : UInt8) (hl : l.length ≤ 140737488351232) (w : World) :
    Calls Tryd.prog 52 #[S l, S [c]] w fun e w' => e = .returned (.tuple #[S (cut1 c l).1, S (cut1 c l).2.1, .bool (cut1 c l).2.2]) ∧ Below w.heap.size w w' := by
  go_enter Tryd.func52, Tryd.ntmps52
  go_wp2_with (go_at_call 78; refine (c1_liteCut l c hl _).mono ?_; rintro e w1 ⟨rfl, hb⟩)
  go_ret3
  exact ⟨rfl, hb⟩
end Go.Proofs.YtgjikbhehijnaaaDoor
