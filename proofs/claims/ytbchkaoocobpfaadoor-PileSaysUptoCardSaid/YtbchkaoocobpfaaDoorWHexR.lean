/- Walk: the reference's hex. -/
import Derived.Test.YtbchkaoocobpfaaDoorWStr
import Derived.Test.YtbchkaoocobpfaaDoorSpecs
namespace Go.Proofs.YtbchkaoocobpfaaDoor
open Go.RowKit Go.Larder
set_option linter.unusedVariables false
set_option linter.unusedSimpArgs false
theorem hx_sl : ∀ (k : Nat), k < 16 → ∀ w, (Instr.slice 9 (.string ⟨#[48, 49, 50, 51, 52, 53, 54, 55, 56, 57, 97, 98, 99, 100, 101, 102]⟩) (some (.int .i64 (k : Int))) (some (.int .i64 ((k : Int) + 1))) none).run Tryd.prog w = .ok (.string ⟨#[hexd k]⟩) w := by
  intro k hk w
  have h := run_sliceS (P := Tryd.prog) 9 Tryd.underlying9 hxTab (k : Int) ((k : Int) + 1) (by omega) (by omega) (by show _ ≤ ((16 : Nat) : Int); omega) w
  refine h.trans ?_
  rw [show ((k : Int) + 1).toNat - (k : Int).toNat = 1 from by omega, Int.toNat_natCast]
  revert k
  apply sixteen <;> (intro _; rfl)
set_option maxHeartbeats 1000000 in
theorem w_hexR : ∀ (f : Nat) (n : Nat), n < f → n ≤ 5000 → ∀ (w : World),
    Calls Tryd.prog 37 #[.int .i64 (n : Int)] w fun e w' => e = .returned (S (hxL n)) ∧ w = w'
  | 0, n, h, _, w => by omega
  | f + 1, n, hf, hn, w => by
    by_cases h : n < 16
    · rw [hxL_one h]
      have hs := hx_sl n h
      have e1 : IntKind.i64.wrap ((n : Int) + 1) = (n : Int) + 1 := IntWalk.i64_in _ ⟨by omega, by omega⟩
      go_enter Tryd.func37, Tryd.ntmps37
      go_wp2_with fail
      go_ret
      exact ⟨by simp, rfl⟩
    · rw [hxL_step h]
      have i1 := fun w => w_hexR f (n / 16) (by omega) (by omega) w
      have i2 := fun w => w_hexR f (n % 16) (by omega) (by omega) w
      rw [hxL_one (n := n % 16) (by omega)] at i2
      have hl := hxL_len (n := n / 16) (by omega)
      generalize hxL (n / 16) = A at *
      have e1 : ((n / 16 : Nat) : Int) = (n : Int) / 16 := by omega
      have e2 : ((n % 16 : Nat) : Int) = (n : Int) % 16 := by omega
      rw [e1] at i1
      rw [e2] at i2
      clear e1 e2
      go_enter Tryd.func37, Tryd.ntmps37
      go_wp2_with (first
        | (go_at_call 37; (with_reducible refine Calls.mono (i1 _) ?_); rintro e w' ⟨rfl, rfl⟩)
        | (go_at_call 37; (with_reducible refine Calls.mono (i2 _) ?_); rintro e w' ⟨rfl, rfl⟩))
      go_ret
      exact ⟨by simp, rfl⟩
end Go.Proofs.YtbchkaoocobpfaaDoor
