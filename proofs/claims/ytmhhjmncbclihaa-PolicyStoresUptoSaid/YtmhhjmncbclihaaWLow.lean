/- Walks: lower case, the program's. -/
import Derived.Test.YtmhhjmncbclihaaSpecs
import Derived.Test.YtmhhjmncbclihaaChecked
namespace Go.Proofs.Ytmhhjmncbclihaa
open Go.RowKit Go.Larder
set_option linter.unusedVariables false
set_option linter.unusedSimpArgs false

set_option maxHeartbeats 1000000 in
theorem w_Lower (l : List UInt8) (hl : l.length ≤ 140737488351232) (w : World) :
    Calls Try.prog 79 #[S l] w (fun e w' => e = .returned (S (lowL l)) ∧ Below w.heap.size w w') := by
  have hconv := fun (w : World) => run_bytes_of_string (P := Try.prog) w 9 78 5 ⟨l.toArray⟩ Try.underlying9 Try.underlying78 Try.underlying5
  go_enter Try.func79, Try.ntmps79
  go_wp2_with fail
  go_loopw [10] (fun i' wr => ∃ k : Nat, i' = .int .i64 k ∧ k ≤ l.length ∧ RowB wr w.heap.size (lowL (l.take k) ++ l.drop k) ∧ Below w.heap.size w wr) (fun i' _ => l.length - (intOf i').toNat)
  case atStart => exact ⟨0, rfl, by omega, RowB.new w l _ _, (Below.refl _ _).drew.alloc (Nat.le_refl _) _⟩
  case round =>
    obtain ⟨k, rfl, hk, hrow, hbel⟩ := hrel
    have hll : (lowL (l.take k)).length = k := by rw [lowL_len]; simp; omega
    by_cases hlt : k < l.length
    · obtain ⟨x, hx, hs⟩ := drop_step hlt
      obtain ⟨hc, hf⟩ := hrow.2 k x (by rw [List.getElem?_append_right (by omega), hll, Nat.sub_self, hs]; rfl)
      have hnext : lowL (l.take (k + 1)) = lowL (l.take k) ++ [lowB x] := by
        rw [List.take_add_one, hx]; simp [lowL]
      have hset : (lowL (l.take k) ++ l.drop k).set k (lowB x) = lowL (l.take (k + 1)) ++ l.drop (k + 1) := by
        rw [List.set_append_right _ _ (by omega), hll, Nat.sub_self, hs, hnext]; simp
      have Hset := Lib.hid hset; clear hset hs hnext
      have Hrow := Lib.hid hrow; clear hrow
      by_cases h1 : 65 ≤ x.toNat
      · by_cases h2 : x.toNat ≤ 90
        · have hi1 : (65 : Int) ≤ (x.toNat : Int) := by omega
          have hi2 : (x.toNat : Int) ≤ 90 := by omega
          have e1 : IntKind.u8.wrap ((x.toNat : Int) + 97) = (x.toNat : Int) + 97 := by rw [IntKind.wrap_u8]; omega
          have e2 : IntKind.u8.wrap ((x.toNat : Int) + 97 - 65) = ((lowB x).toNat : Int) := by rw [IntKind.wrap_u8, lowB_in h1 h2]; omega
          go_wp2_with fail
          go_roundw
          case rel => exact ⟨k + 1, by go_num, by omega, by rw [← Hset.out]; exact Hrow.out.set k _, hbel.setCell (p := ⟨_, k, none⟩) (Nat.le_refl _) _⟩
          case measure => simp [intOf]; omega
        · have hi2 : ¬ (x.toNat : Int) ≤ 90 := by omega
          have hi1 : (65 : Int) ≤ (x.toNat : Int) := by omega
          go_wp2_with fail
          go_roundw
          case rel => exact ⟨k + 1, by go_num, by omega, by
            rw [← Hset.out, lowB_out (by omega), set_same (by rw [List.getElem?_append_right (by omega), hll, Nat.sub_self, List.getElem?_drop]; exact hx)]; exact Hrow.out, hbel⟩
          case measure => simp [intOf]; omega
      · have hi1 : ¬ (65 : Int) ≤ (x.toNat : Int) := by omega
        go_wp2_with fail
        go_roundw
        case rel => exact ⟨k + 1, by go_num, by omega, by
          rw [← Hset.out, lowB_out (by omega), set_same (by rw [List.getElem?_append_right (by omega), hll, Nat.sub_self, List.getElem?_drop]; exact hx)]; exact Hrow.out, hbel⟩
        case measure => simp [intOf]; omega
    · obtain rfl : k = l.length := by omega
      have hr : ReadL encB wr (w.heap.size + 1) (some ⟨w.heap.size, 0, none⟩) (lowL l) := by
        have := hrow.read
        rwa [List.take_length, List.drop_length, List.append_nil] at this
      have hback := run_bytes_str (P := Try.prog) 78 9 Try.underlying78 Try.underlying5 Try.underlying9 hr (grownCap w l.length 0 5)
      rw [lowL_len] at hback
      clear hrow
      go_wp2_with fail
      go_ret
      exact ⟨rfl, hbel⟩
end Go.Proofs.Ytmhhjmncbclihaa
