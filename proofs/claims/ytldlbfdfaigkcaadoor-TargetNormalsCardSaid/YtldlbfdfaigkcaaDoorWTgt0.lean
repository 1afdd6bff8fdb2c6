/- Walks: a target's bytes. -/
import Derived.Test.YtldlbfdfaigkcaaDoorWIs
import Derived.Test.YtldlbfdfaigkcaaDoorWCutOne
import Derived.Test.YtldlbfdfaigkcaaDoorSpecTgt
namespace Go.Proofs.YtldlbfdfaigkcaaDoor
open Go.RowKit Go.Larder
set_option linter.unusedVariables false
set_option linter.unusedSimpArgs false

theorem w_isFree (c : UInt8) (w : World) :
    Calls Tryd.prog 69 #[.int .u8 c.toNat] w fun e w' => e = .returned (.bool (isFreeB c)) ∧ w = w' := by
  have hj : (0 : Int) ≤ Lib.indexByte dashL c ↔ inTab dashL c = true := by simp [inTab]
  go_enter Tryd.func69, Tryd.ntmps69
  go_wp2_with (go_at_call 101; refine (c1_IndexByte dashL c _).mono ?_; rintro e w' ⟨rfl, rfl⟩)
  all_goals
    go_ret
    rw [free_eq]
    refine ⟨?_, rfl⟩
    refine ret_bool ?_
    rw [Bool.eq_iff_iff]
    simp [inTab]
    try omega

theorem w_digit (c : UInt8) (w : World) :
    Calls Tryd.prog 118 #[.int .u8 c.toNat] w fun e w' => e = .returned (.int .i64 (hexv c)) ∧ w = w' := by
  have hc := c.toNat_lt
  by_cases h1 : 48 ≤ c.toNat ∧ c.toNat ≤ 57
  · have a1 : (48 : Int) ≤ (c.toNat : Int) := by omega
    have a2 : (c.toNat : Int) ≤ 57 := by omega
    have e2 : IntKind.u8.wrap ((c.toNat : Int) - 48) = (c.toNat : Int) - 48 := by rw [IntKind.wrap_u8]; omega
    have e3 : IntKind.i64.wrap ((c.toNat : Int) - 48) = (c.toNat : Int) - 48 := IntWalk.i64_in _ ⟨by omega, by omega⟩
    have hr : hexv c = (c.toNat : Int) - 48 := by unfold hexv; rw [if_pos h1]
    rw [hr]
    go_enter Tryd.func118, Tryd.ntmps118
    go_wp2_with fail
    go_ret
    exact ⟨rfl, rfl⟩
  · have b1 : ¬ ((48 : Int) ≤ (c.toNat : Int) ∧ (c.toNat : Int) ≤ 57) := by omega
    by_cases h2 : 97 ≤ c.toNat ∧ c.toNat ≤ 102
    · have a0 : ¬ (c.toNat : Int) ≤ 57 := by omega
      have a9 : (48 : Int) ≤ (c.toNat : Int) := by omega
      have a1 : (97 : Int) ≤ (c.toNat : Int) := by omega
      have a2 : (c.toNat : Int) ≤ 102 := by omega
      have e2 : IntKind.u8.wrap ((c.toNat : Int) - 97) = (c.toNat : Int) - 97 := by rw [IntKind.wrap_u8]; omega
      have e3 : IntKind.i64.wrap ((c.toNat : Int) - 97) = (c.toNat : Int) - 97 := IntWalk.i64_in _ ⟨by omega, by omega⟩
      have e4 : IntKind.i64.wrap ((c.toNat : Int) - 97 + 10) = (c.toNat : Int) - 97 + 10 := IntWalk.i64_in _ ⟨by omega, by omega⟩
      have hr : hexv c = (c.toNat : Int) - 97 + 10 := by unfold hexv; rw [if_neg h1, if_pos h2]
      rw [hr]
      go_enter Tryd.func118, Tryd.ntmps118
      go_wp2_with fail
      go_ret
      exact ⟨rfl, rfl⟩
    · by_cases h3 : 65 ≤ c.toNat ∧ c.toNat ≤ 70
      · have a0 : ¬ (c.toNat : Int) ≤ 57 := by omega
        have a9 : (48 : Int) ≤ (c.toNat : Int) := by omega
        have a8 : ¬ (97 : Int) ≤ (c.toNat : Int) := by omega
        have a1 : (65 : Int) ≤ (c.toNat : Int) := by omega
        have a2 : (c.toNat : Int) ≤ 70 := by omega
        have e2 : IntKind.u8.wrap ((c.toNat : Int) - 65) = (c.toNat : Int) - 65 := by rw [IntKind.wrap_u8]; omega
        have e3 : IntKind.i64.wrap ((c.toNat : Int) - 65) = (c.toNat : Int) - 65 := IntWalk.i64_in _ ⟨by omega, by omega⟩
        have e4 : IntKind.i64.wrap ((c.toNat : Int) - 65 + 10) = (c.toNat : Int) - 65 + 10 := IntWalk.i64_in _ ⟨by omega, by omega⟩
        have hr : hexv c = (c.toNat : Int) - 65 + 10 := by unfold hexv; rw [if_neg h1, if_neg h2, if_pos h3]
        rw [hr]
        go_enter Tryd.func118, Tryd.ntmps118
        go_wp2_with fail
        go_ret
        exact ⟨rfl, rfl⟩
      · have hr : hexv c = -1 := by unfold hexv; rw [if_neg h1, if_neg h2, if_neg h3]
        rw [hr]
        go_enter Tryd.func118, Tryd.ntmps118
        go_wp2_with fail
        all_goals first
          | (go_ret; exact ⟨rfl, rfl⟩)
          | (exfalso; omega)
end Go.Proofs.YtldlbfdfaigkcaaDoor
