/- Walk: digests: the reference's root. -/
import Derived.Test.YtbchkaoocobpfaaDoorSpecs
import Derived.Test.YtbchkaoocobpfaaDoorChecked
namespace Go.Proofs.YtbchkaoocobpfaaDoor
open Go.RowKit Go.Larder
set_option linter.unusedVariables false
set_option linter.unusedSimpArgs false
set_option maxHeartbeats 2000000 in
theorem w_root (p : Nat) (hp : p < 100) (w : World) : Calls Tryd.prog 29 #[.int .u64 p] w fun e w' => e = .returned (.int .u32 (rootN p : Nat)) ∧ w = w' := by
  obtain ⟨R, hR⟩ : ∃ R, rootGo p 35 4294967296 21474836480 = R := ⟨_, rfl⟩
  have HR := Lib.hid hR
  have HRn := Lib.hid (show rootN p = R % 4294967296 from by rw [← hR]; rfl)
  clear hR
  go_enter Tryd.func29, Tryd.ntmps29
  go_wp2_with fail
  go_loop [3, 4, 5, 6, 7, 8, 9] (fun l' h' _ _ _ _ _ => ∃ (n low high : Nat), l' = .int .u64 low ∧ h' = .int .u64 high ∧ 4294967296 ≤ low ∧ low < high ∧ high ≤ 21474836480 ∧ high - low ≤ 2 ^ n ∧ Hid (rootGo p n low high = R)) (fun l' h' _ _ _ _ _ => (intOf h').toNat - (intOf l').toNat)
  case atStart => exact ⟨35, 4294967296, 21474836480, rfl, rfl, by omega, by omega, by omega, by decide, HR⟩
  case round =>
    obtain ⟨n, low, high, rfl, rfl, h1, h2, h3, h4, hgo⟩ := hrel
    by_cases hlt : high - low > 1
    · cases n with
      | zero => simp at h4; omega
      | succ n =>
        have hgo2 := hgo.out
        rw [rootGo, if_pos hlt] at hgo2
        have hdI : (1 : Int) < (high : Int) - (low : Int) := by omega
        obtain ⟨m, hm⟩ : ∃ m, (low + high) / 2 = m := ⟨_, rfl⟩
        rw [hm] at hgo2
        have hmI : ((low : Int) + (high : Int)) / 2 = (m : Int) := by omega
        have hm1 : 4294967296 ≤ m := by omega
        have hm2 : m < 21474836480 := by omega
        have Hm := Lib.hid hm
        clear hm
        obtain ⟨a, ha⟩ : ∃ a, m / 4294967296 = a := ⟨_, rfl⟩
        obtain ⟨b, hb⟩ : ∃ b, m % 4294967296 = b := ⟨_, rfl⟩
        have haI : (m : Int) / 4294967296 = (a : Int) := by omega
        have hbI : (m : Int) % 4294967296 = (b : Int) := by omega
        have ha5 : a ≤ 4 := by omega
        have hb5 : b < 4294967296 := by omega
        obtain ⟨aa, haa⟩ : ∃ aa, a * a = aa := ⟨_, rfl⟩
        obtain ⟨ab, hab⟩ : ∃ ab, a * b = ab := ⟨_, rfl⟩
        obtain ⟨bb, hbb⟩ : ∃ bb, b * b = bb := ⟨_, rfl⟩
        have haaI : (a : Int) * (a : Int) = (aa : Int) := by rw [← haa]; push_cast; rfl
        have habI : (a : Int) * (b : Int) = (ab : Int) := by rw [← hab]; push_cast; rfl
        have hbbI : (b : Int) * (b : Int) = (bb : Int) := by rw [← hbb]; push_cast; rfl
        have haa5 : aa ≤ 16 := by rw [← haa]; exact Nat.mul_le_mul ha5 ha5
        have hab5 : ab < 17179869184 := by
          rw [← hab]
          have := Nat.mul_le_mul ha5 (Nat.le_of_lt_succ hb5 : b ≤ 4294967295)
          omega
        have hbb5 : bb < 18446744073709551616 := by
          rw [← hbb]
          have := Nat.mul_le_mul (Nat.le_of_lt_succ hb5 : b ≤ 4294967295) (Nat.le_of_lt_succ hb5 : b ≤ 4294967295)
          omega
        have Hup := Lib.hid (show upN m + loN m / 4294967296 = aa + ab / 2147483648 + (ab * 8589934592 % 18446744073709551616 / 4294967296 + bb / 4294967296) / 4294967296 from by
          unfold upN loN
          rw [ha, hb, haa, hab, hbb])
        have Hgo2 := Lib.hid hgo2
        clear ha hb haa hab hbb hgo2 hgo
        have Hn := Lib.hid h4
        have hwr : ∀ x : Int, IntKind.u64.wrap x = x % 18446744073709551616 := fun x => by simp [IntKind.wrap, IntKind.bits, IntKind.signed]
        have Hwr := Lib.hid hwr
        clear hwr
        clear h4
        go_wp2_with fail
        · rename_i hq
          have hqN : p ≤ upN m + loN m / 4294967296 := by
            rw [Hup.out]
            simp only [Hwr.out] at hq
            omega
          have hg := Hgo2.out
          rw [if_pos hqN] at hg
          have hmN := Hm.out
          go_round
          case rel => exact ⟨n, low, m, rfl, by rw [hmI], by omega, by omega, by omega, by have := Hn.out; rw [Nat.pow_succ] at this; omega, Lib.hid hg⟩
          case measure => simp only [intOf]; omega
        · rename_i hq
          have hqN : ¬ p ≤ upN m + loN m / 4294967296 := by
            rw [Hup.out]
            simp only [Hwr.out] at hq
            omega
          have hg := Hgo2.out
          rw [if_neg hqN] at hg
          have hmN := Hm.out
          go_round
          case rel => exact ⟨n, m, high, by rw [hmI], rfl, by omega, by omega, by omega, by have := Hn.out; rw [Nat.pow_succ] at this; omega, Lib.hid hg⟩
          case measure => simp only [intOf]; omega
    · have hlow := Lib.hid (hgo.out.symm.trans (root_end hlt))
      have hdI : ¬ (1 : Int) < (high : Int) - (low : Int) := by omega
      clear hgo
      go_wp2_with fail
      go_ret
      exact ⟨ret_int (by rw [HRn.out, hlow.out]; omega), rfl⟩
end Go.Proofs.YtbchkaoocobpfaaDoor
