/- Walks: a step's number. -/
import Derived.Test.YtbchkaoocobpfaaDoorChecked
import Derived.Test.YtbchkaoocobpfaaDoorSpecs
import Derived.Test.YtbchkaoocobpfaaDoorOpenSt
namespace Go.Proofs.YtbchkaoocobpfaaDoor
open Go.RowKit Go.Larder
set_option linter.unusedVariables false
set_option linter.unusedSimpArgs false
theorem sixteen {l : List Value} (h : l.length = 16) : ∃ r0 r1 r2 r3 r4 r5 r6 r7 r8 r9 r10 r11 r12 r13 r14 r15, l = [r0, r1, r2, r3, r4, r5, r6, r7, r8, r9, r10, r11, r12, r13, r14, r15] := by
  match l, h with
  | [a0, a1, a2, a3, a4, a5, a6, a7, a8, a9, a10, a11, a12, a13, a14, a15], _ => exact ⟨a0, a1, a2, a3, a4, a5, a6, a7, a8, a9, a10, a11, a12, a13, a14, a15, rfl⟩
theorem tmod_neg (n : Int) (m : Nat) : n.tmod (m : Int) = -((-n).tmod (m : Int)) := by rw [Int.neg_tmod, Int.neg_neg]
set_option maxHeartbeats 400000 in
theorem w_Rest (n : Int) (m : Nat) (hm : 0 < m) (hm2 : m ≤ 100) (hn : -9223372036854775808 ≤ n ∧ n ≤ 9223372036854775807) (w : World) :
    Calls Tryd.prog 39 #[.int .i64 n, .int .i64 (m : Int)] w fun e w' => e = .returned (.int .i64 (n % (m : Int))) ∧ w = w' := by
  have hm0 : ((m : Int) == 0) = false := by simp; omega
  have hmI : ¬ (m : Int) = 0 := by omega
  have hm1 : ¬ (m : Int) = -1 := by omega
  have hm1b : ((m : Int) == -1) = false := by simp
  obtain ⟨r, hr, hc⟩ : ∃ r : Int, n.tmod (m : Int) = r ∧ ((0 ≤ r ∧ r = n % (m : Int) ∧ r < m) ∨ (r < 0 ∧ r + m = n % (m : Int) ∧ -(m : Int) < r)) := by
    refine ⟨_, rfl, ?_⟩
    by_cases h0 : 0 ≤ n
    · left
      rw [Int.tmod_eq_emod_of_nonneg h0]
      exact ⟨Int.emod_nonneg _ (by omega), rfl, Int.emod_lt_of_pos _ (by omega)⟩
    · have h1 : n.tmod (m : Int) = -((-n) % (m : Int)) := by rw [tmod_neg, Int.tmod_eq_emod_of_nonneg (by omega)]
      rw [h1]
      have h2 := Int.emod_nonneg (-n) (show (m : Int) ≠ 0 by omega)
      have h3 := Int.emod_lt_of_pos (-n) (show (0 : Int) < m by omega)
      have h4 : n = -((-n) / (m : Int)) * m - (-n) % (m : Int) := by
        have := Int.mul_ediv_add_emod (-n) (m : Int)
        have h5 : (m : Int) * (-n / (m : Int)) = (-n / (m : Int)) * m := Int.mul_comm _ _
        have h6 : -((-n) / (m : Int)) * (m : Int) = -((-n) / (m : Int) * m) := Int.neg_mul _ _
        omega
      by_cases hz : (-n) % (m : Int) = 0
      · left
        rw [hz]
        refine ⟨by omega, ?_, by omega⟩
        have : n % (m : Int) = 0 := by
          rw [h4, hz, Int.sub_zero]
          exact Int.mul_emod_left _ _
        omega
      · right
        refine ⟨by omega, ?_, by omega⟩
        have : n % (m : Int) = ((m : Int) - (-n) % (m : Int)) % (m : Int) := by
          have h7 : n = ((m : Int) - (-n) % (m : Int)) + (m : Int) * (-((-n) / (m : Int)) - 1) := by
            have h8 : (m : Int) * (-((-n) / (m : Int)) - 1) = -((-n) / (m : Int)) * m - m := by rw [Int.mul_sub, Int.mul_one, Int.mul_comm]
            omega
          conv => lhs; rw [h7]
          rw [Int.add_mul_emod_self_left]
        rw [this]
        clear this h4
        generalize (-n) % (m : Int) = q at *
        rw [Int.emod_eq_of_lt (by omega) (by omega)]
        omega
  have Hc := Lib.hid hc
  rcases hc with ⟨h1, h2, h3⟩ | ⟨h1, h2, h3⟩
  · have hneg : ¬ r < 0 := by omega
    rw [← h2]
    clear h2 Hc
    go_enter Tryd.func39, Tryd.ntmps39
    go_wp2
    go_ret
    exact ⟨rfl, rfl⟩
  · rw [← h2]
    clear h2 Hc
    go_enter Tryd.func39, Tryd.ntmps39
    go_wp2
    go_ret
    exact ⟨rfl, rfl⟩
set_option maxHeartbeats 400000 in
theorem w_Of (x : Stp) (m : Nat) (hm : 0 < m) (hm2 : m ≤ 100) (hx : -9223372036854775808 ≤ x.kd ∧ x.kd ≤ 9223372036854775807) (w : World) :
    Calls Tryd.prog 15 #[.agg (encSt.enc x).toArray, .int .i64 (m : Int)] w fun e w' => e = .returned (.int .i64 (x.kd % (m : Int))) ∧ Below w.heap.size w w' := by
  obtain ⟨kd, a, b, s, t, lA, ls, lc, rest, len, one⟩ := x
  obtain ⟨r0, r1, r2, r3, r4, r5, r6, r7, r8, r9, r10, r11, r12, r13, r14, r15, rfl⟩ := sixteen len
  simp only at hx
  have hrest := fun W => w_Rest kd m hm hm2 hx W
  have bx := BoxAt.new w [.int .i64 kd, .int .i64 a, .int .i64 b, S s, S t, .slice lA ls.length lc, r0, r1, r2, r3, r4, r5, r6, r7, r8, r9, r10, r11, r12, r13, r14, r15] 46
  have hB := (Below.refl w.heap.size w).alloc (Nat.le_refl _) (.cells #[.int .i64 kd, .int .i64 a, .int .i64 b, S s, S t, .slice lA ls.length lc, r0, r1, r2, r3, r4, r5, r6, r7, r8, r9, r10, r11, r12, r13, r14, r15] 46)
  have c0 := bx.cell (j := 0) rfl
  show Calls _ _ #[.agg #[.int .i64 kd, .int .i64 a, .int .i64 b, S s, S t, .slice lA ls.length lc, r0, r1, r2, r3, r4, r5, r6, r7, r8, r9, r10, r11, r12, r13, r14, r15], .int .i64 (m : Int)] _ _
  go_enter Tryd.func15, Tryd.ntmps15
  go_wp2_with fail
  refine Calls.mono (hrest _) ?_
  rintro e w1 ⟨rfl, rfl⟩
  go_wp2_with fail
  go_ret
  exact ⟨rfl, hB⟩
end Go.Proofs.YtbchkaoocobpfaaDoor
