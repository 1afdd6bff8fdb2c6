/- Walks: digests: the reference's turn and root. -/
import Derived.Test.YtbchkaoocobpfaaDoorWDgM
namespace Go.Proofs.YtbchkaoocobpfaaDoor
open Go.RowKit Go.Larder
set_option linter.unusedVariables false
set_option linter.unusedSimpArgs false
theorem turn_or {x k s : Nat} (hx : x < 4294967296) (hk : 32 - k = s) : bits .or .u32 ((x : Int) / 2 ^ k) ((x : Int) * 2 ^ s % 4294967296) = ((rotr x k : Nat) : Int) := by
  subst hk
  have h1 : x / 2 ^ k < 4294967296 := Nat.lt_of_le_of_lt (Nat.div_le_self _ _) hx
  have e1 : ((x : Int) * 2 ^ (32 - k) % 4294967296) = ((x * 2 ^ (32 - k) % 4294967296 : Nat) : Int) := by rw [Int.natCast_emod, Int.natCast_mul, Int.natCast_pow]; rfl
  have e2 : ((x : Int) / 2 ^ k) = ((x / 2 ^ k : Nat) : Int) := by rw [Int.natCast_ediv, Int.natCast_pow]; rfl
  rw [e1, e2, u32_or_nat _ _ h1 (Nat.mod_lt _ (by omega))]
  rfl
theorem w_turn16 (x : Nat) (hx : x < 4294967296) (w : World) : Calls Tryd.prog 36 #[.int .u32 x, .int .i64 16] w fun e w' => e = .returned (.int .u32 (rotr x 16 : Nat)) ∧ Below w.heap.size w w' := by
  have e : IntKind.i64.wrap (32 - 16) = 16 := by decide
  have e2 : IntKind.i64.wrap 16 = 16 := by decide
  go_enter Tryd.func36, Tryd.ntmps36
  go_wp2_with fail
  refine wp_region_still_tail 8 (by kernel_rfl) (by kernel_rfl) ?_
  simp only [List.take_succ_cons, List.take_zero, List.drop_succ_cons, List.drop_zero]
  repeat still_step
  try refine wpStill_nil ?_
  change wpList _ _ _ _ _ w.drew
  go_wp2_with fail
  go_ret
  exact ⟨ret_int (turn_or (k := 16) (s := 16) hx rfl), (Below.refl _ _).drew⟩
theorem w_turn12 (x : Nat) (hx : x < 4294967296) (w : World) : Calls Tryd.prog 36 #[.int .u32 x, .int .i64 12] w fun e w' => e = .returned (.int .u32 (rotr x 12 : Nat)) ∧ Below w.heap.size w w' := by
  have e : IntKind.i64.wrap (32 - 12) = 20 := by decide
  have e2 : IntKind.i64.wrap 20 = 20 := by decide
  go_enter Tryd.func36, Tryd.ntmps36
  go_wp2_with fail
  refine wp_region_still_tail 8 (by kernel_rfl) (by kernel_rfl) ?_
  simp only [List.take_succ_cons, List.take_zero, List.drop_succ_cons, List.drop_zero]
  repeat still_step
  try refine wpStill_nil ?_
  change wpList _ _ _ _ _ w.drew
  go_wp2_with fail
  go_ret
  exact ⟨ret_int (turn_or (k := 12) (s := 20) hx rfl), (Below.refl _ _).drew⟩
theorem w_turn8 (x : Nat) (hx : x < 4294967296) (w : World) : Calls Tryd.prog 36 #[.int .u32 x, .int .i64 8] w fun e w' => e = .returned (.int .u32 (rotr x 8 : Nat)) ∧ Below w.heap.size w w' := by
  have e : IntKind.i64.wrap (32 - 8) = 24 := by decide
  have e2 : IntKind.i64.wrap 24 = 24 := by decide
  go_enter Tryd.func36, Tryd.ntmps36
  go_wp2_with fail
  refine wp_region_still_tail 8 (by kernel_rfl) (by kernel_rfl) ?_
  simp only [List.take_succ_cons, List.take_zero, List.drop_succ_cons, List.drop_zero]
  repeat still_step
  try refine wpStill_nil ?_
  change wpList _ _ _ _ _ w.drew
  go_wp2_with fail
  go_ret
  exact ⟨ret_int (turn_or (k := 8) (s := 24) hx rfl), (Below.refl _ _).drew⟩
theorem w_turn7 (x : Nat) (hx : x < 4294967296) (w : World) : Calls Tryd.prog 36 #[.int .u32 x, .int .i64 7] w fun e w' => e = .returned (.int .u32 (rotr x 7 : Nat)) ∧ Below w.heap.size w w' := by
  have e : IntKind.i64.wrap (32 - 7) = 25 := by decide
  have e2 : IntKind.i64.wrap 25 = 25 := by decide
  go_enter Tryd.func36, Tryd.ntmps36
  go_wp2_with fail
  refine wp_region_still_tail 8 (by kernel_rfl) (by kernel_rfl) ?_
  simp only [List.take_succ_cons, List.take_zero, List.drop_succ_cons, List.drop_zero]
  repeat still_step
  try refine wpStill_nil ?_
  change wpList _ _ _ _ _ w.drew
  go_wp2_with fail
  go_ret
  exact ⟨ret_int (turn_or (k := 7) (s := 25) hx rfl), (Below.refl _ _).drew⟩
end Go.Proofs.YtbchkaoocobpfaaDoor
