/- Walks: strings.IndexByte; lower case, the reference's. -/
import Derived.Test.YtmhhjmncbclihaaWLow
import Derived.Lib.Bytealg
import Derived.Laws.Externs
namespace Go.Proofs.Ytmhhjmncbclihaa
open Go.RowKit Go.Larder
set_option linter.unusedVariables false
set_option linter.unusedSimpArgs false

def greatL : List UInt8 := [65, 66, 67, 68, 69, 70, 71, 72, 73, 74, 75, 76, 77, 78, 79, 80, 81, 82, 83, 84, 85, 86, 87, 88, 89, 90]
def smallL : List UInt8 := [97, 98, 99, 100, 101, 102, 103, 104, 105, 106, 107, 108, 109, 110, 111, 112, 113, 114, 115, 116, 117, 118, 119, 120, 121, 122]
theorem idx_great_nat : ∀ n : Fin 256, Lib.indexByte greatL (UInt8.ofNat n.val) = if 65 ≤ n.val ∧ n.val ≤ 90 then ((n.val : Int) - 65) else -1 := by decide +kernel
theorem small_nat : ∀ n : Fin 256, 65 ≤ n.val → n.val ≤ 90 → (smallL.drop (n.val - 65)).take 1 = [lowB (UInt8.ofNat n.val)] := by decide +kernel
theorem idx_great (x : UInt8) : Lib.indexByte greatL x = if 65 ≤ x.toNat ∧ x.toNat ≤ 90 then ((x.toNat : Int) - 65) else -1 := by
  have := idx_great_nat ⟨x.toNat, x.toNat_lt⟩
  simpa using this
theorem small_at (x : UInt8) (h1 : 65 ≤ x.toNat) (h2 : x.toNat ≤ 90) : (smallL.drop (x.toNat - 65)).take 1 = [lowB x] := by
  have := small_nat ⟨x.toNat, x.toNat_lt⟩ h1 h2
  simpa using this

set_option maxHeartbeats 1000000 in
set_option maxRecDepth 100000 in
theorem lo_liteIndexByte (l : List UInt8) (c : UInt8) (w : World) :
    Calls Try.prog 131 #[S l, .int .u8 c.toNat] w fun e w' => e = .returned (.int .i64 (Lib.indexByte l c)) ∧ w = w' := by
  go_enter Try.func131, Try.ntmps131
  go_wp2
  rw [run_callFunc_extern Try.func153 (by kernel_rfl) (by kernel_rfl) (by kernel_rfl) (e := Extern.BytealgIndexByte.indexByte) (by kernel_rfl), Lib.run_indexByteString]
  simp only [Result.andThen]
  rw [Oper.upon_value]
  go_wp2
  go_ret
  exact ⟨by simp, rfl⟩

theorem lo_IndexByte (l : List UInt8) (c : UInt8) (w : World) :
    Calls Try.prog 109 #[S l, .int .u8 c.toNat] w fun e w' => e = .returned (.int .i64 (Lib.indexByte l c)) ∧ w = w' := by
  go_enter Try.func109, Try.ntmps109
  go_wp2_with (go_at_call 131; refine (lo_liteIndexByte l c _).mono ?_; rintro e w' ⟨rfl, rfl⟩)
  go_ret
  exact ⟨rfl, rfl⟩

set_option maxHeartbeats 1000000 in
theorem w_LowerR (l : List UInt8) (hl : l.length ≤ 140737488351232) (w : World) :
    Calls Try.prog 84 #[S l] w (fun e w' => e = .returned (S (lowL l)) ∧ w = w') := by
  go_enter Try.func84, Try.ntmps84
  go_wp2_with fail
  go_loop [3, 8] (fun o i' => ∃ k : Nat, i' = .int .i64 k ∧ k ≤ l.length ∧ o = S (lowL (l.take k))) (fun _ i' => l.length - (intOf i').toNat)
  case atStart => exact ⟨0, rfl, by omega, rfl⟩
  case round =>
    obtain ⟨k, rfl, hk, rfl⟩ := hrel
    have hll : (lowL (l.take k)).length = k := by rw [lowL_len]; simp; omega
    by_cases hlt : k < l.length
    · obtain ⟨x, hx, hs⟩ := drop_step hlt
      have hg : ∀ h, l[k]'h = x := fun h => by rw [List.getElem?_eq_getElem h] at hx; exact Option.some.inj hx
      have hnext : lowL (l.take (k + 1)) = lowL (l.take k) ++ [lowB x] := by
        rw [List.take_add_one, hx]; simp [lowL]
      have Hnext := Lib.hid hnext; clear hnext hs hx
      by_cases h12 : 65 ≤ x.toNat ∧ x.toNat ≤ 90
      · have hi := idx_great x
        rw [if_pos h12] at hi
        go_wp2_with (go_at_call 109; refine (lo_IndexByte greatL x _).mono ?_; rintro e w' ⟨rfl, rfl⟩)
        go_round
        case rel => exact ⟨k + 1, by go_num, by omega, by rw [Hnext.out, ← small_at x h12.1 h12.2]; rfl⟩
        case measure => simp [intOf]; omega
      · have hi := idx_great x
        rw [if_neg h12] at hi
        have hd : List.take 1 (List.drop k l) = [lowB x] := by rw [lowB_out h12, List.drop_eq_getElem_cons hlt, hg]; rfl
        have hd2 : List.take (k + 1 - k) (List.drop k l) = [lowB x] := by rw [show k + 1 - k = 1 from by omega]; exact hd
        go_wp2_with (go_at_call 109; refine (lo_IndexByte greatL x _).mono ?_; rintro e w' ⟨rfl, rfl⟩)
        go_round
        case rel => exact ⟨k + 1, by go_num, by omega, by rw [Hnext.out]⟩
        case measure => simp [intOf]; omega
    · obtain rfl : k = l.length := by omega
      rw [List.take_length] at hll ⊢
      go_wp2_with fail
      go_ret
      exact ⟨rfl, rfl⟩
end Go.Proofs.Ytmhhjmncbclihaa
