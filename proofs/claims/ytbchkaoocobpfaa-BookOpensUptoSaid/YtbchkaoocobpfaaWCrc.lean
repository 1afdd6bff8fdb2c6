/- Walks through log.Crc and the reference's Crc. -/
import Derived.Test.YtbchkaoocobpfaaChecked
import Derived.Test.YtbchkaoocobpfaaSpecLog
namespace Go.Proofs.Ytbchkaoocobpfaa
open Go.RowKit Go.Larder
set_option linter.unusedVariables false
set_option linter.unusedSimpArgs false

theorem w_Crc (l : List UInt8) (hl : l.length ≤ 140737488351232) (w : World) :
    Calls Try.prog 68 #[S l] w fun e w' => e = .returned (.int .u32 ((crc l : Nat) : Int)) ∧ w = w' := by
  go_enter Try.func68, Try.ntmps68
  go_wp2_with fail
  go_loop [3, 7] (fun n' i' => ∃ (k n : Nat), i' = .int .i64 k ∧ n' = .int .u32 n ∧ k ≤ l.length ∧ n < 4294967296 ∧ cFold (l.drop k) n = cFold l 4294967295) (fun _ i' => l.length - (intOf i').toNat)
  case atStart => exact ⟨0, 4294967295, rfl, rfl, by omega, by omega, rfl⟩
  case round =>
    obtain ⟨k, n, rfl, rfl, hk, hn, hd⟩ := hrel
    have Hd := Lib.hid hd; clear hd
    by_cases hlt : k < l.length
    · obtain ⟨x, hx, hs⟩ := drop_step hlt
      have hg : ∀ h, l[k]'h = x := fun h => by rw [List.getElem?_eq_getElem h] at hx; exact Option.some.inj hx
      have Hs := Lib.hid hs; clear hs hx
      have Hx2 := Lib.hid (xor_walk hn x)
      have hn2 := xor_u8_lt hn x
      go_wp2_with fail
      go_loop [3, 16] (fun n' j' => ∃ (j m : Nat), j' = .int .i64 j ∧ n' = .int .u32 m ∧ j ≤ 8 ∧ m < 4294967296 ∧ cIter (8 - j) m = cByte n x) (fun _ j' => 8 - (intOf j').toNat)
      case atStart => exact ⟨0, n ^^^ x.toNat, rfl, by rw [Hx2.out], by omega, hn2, rfl⟩
      case round =>
        obtain ⟨j, m, rfl, rfl, hj, hm, hi⟩ := hrel
        have Hi := Lib.hid hi; clear hi hn2
        by_cases hlt8 : j < 8
        · have Hw := Lib.hid (cStep_walk hm)
          go_wp2_with fail
          go_round
          case rel => exact ⟨j + 1, cStep m, by go_num, by rw [Hw.out], by omega, cStep_lt hm, by rw [← Hi.out, show 8 - j = (8 - (j + 1)) + 1 by omega]; rfl⟩
          case measure => simp [intOf]; omega
        · have Hf := Lib.hid (show m = cByte n x from by rw [← Hi.out, show 8 - j = 0 by omega]; rfl)
          go_wp2_with fail
          go_round
          case rel => exact ⟨k + 1, m, by go_num, rfl, by omega, hm, by rw [← Hd.out, Hs.out, Hf.out]; rfl⟩
          case measure => simp [intOf]; omega
    · have hle : cFold l 4294967295 < 4294967296 := cFold_lt l _ (by omega)
      have Hf := Lib.hid (show n = cFold l 4294967295 from by rw [← Hd.out, drop_end hlt]; rfl)
      go_wp2_with fail
      go_ret
      exact ⟨ret_int (by unfold crc; rw [← Hf.out]; exact not_walk hn), rfl⟩

theorem w_CrcR (l : List UInt8) (hl : l.length ≤ 140737488351232) (w : World) :
    Calls Try.prog 66 #[S l] w fun e w' => e = .returned (.int .u32 ((crc l : Nat) : Int)) ∧ w = w' := by
  go_enter Try.func66, Try.ntmps66
  go_wp2_with fail
  go_loop [3, 9] (fun n' i' => ∃ (k n : Nat), i' = .int .i64 k ∧ n' = .int .u64 n ∧ k ≤ l.length ∧ n < 4294967296 ∧ cFold (l.drop k) n = cFold l 4294967295) (fun _ i' => l.length - (intOf i').toNat)
  case atStart => exact ⟨0, 4294967295, rfl, rfl, by omega, by omega, rfl⟩
  case round =>
    obtain ⟨k, n, rfl, rfl, hk, hn, hd⟩ := hrel
    have Hd := Lib.hid hd; clear hd
    by_cases hlt : k < l.length
    · obtain ⟨x, hx, hs⟩ := drop_step hlt
      have hg : ∀ h, l[k]'h = x := fun h => by rw [List.getElem?_eq_getElem h] at hx; exact Option.some.inj hx
      have Hs := Lib.hid hs; clear hs hx
      go_wp2_with fail
      go_loop [3, 12] (fun n' j' => ∃ (j m : Nat), j' = .int .i64 j ∧ n' = .int .u64 m ∧ j ≤ 8 ∧ m < 4294967296 ∧ rIter x.toNat (8 - j) j m = cByte n x) (fun _ j' => 8 - (intOf j').toNat)
      case atStart => exact ⟨0, n, rfl, rfl, by omega, hn, (cByte_rIter n x).symm⟩
      case round =>
        obtain ⟨j, m, rfl, rfl, hj, hm, hi⟩ := hrel
        have Hi := Lib.hid hi; clear hi
        by_cases hlt8 : j < 8
        · have Hw := Lib.hid (rbit_walk m j x)
          have Hl := Lib.hid (rStep_lt (b := x.toNat) (k := j) hm)
          cases hb : ((m : Int) % 2 == IntKind.u64.wrap (((x.toNat : Int) / 2 ^ j).tmod 2))
          · have He := Lib.hid (show rStep m x.toNat j = (m / 2) ^^^ 2197175160 from by unfold rStep; rw [bne, ← Hw.out, hb]; rfl)
            have Hx := Lib.hid (rxor_walk hm)
            go_wp2_with fail
            go_round
            case rel => exact ⟨j + 1, rStep m x.toNat j, by go_num, by rw [He.out, Hx.out], by omega, Hl.out, by rw [← Hi.out, show 8 - j = (8 - (j + 1)) + 1 by omega]; rfl⟩
            case measure => simp [intOf]; omega
          · have He := Lib.hid (show rStep m x.toNat j = m / 2 from by unfold rStep; rw [bne, ← Hw.out, hb]; rfl)
            go_wp2_with fail
            go_round
            case rel => exact ⟨j + 1, rStep m x.toNat j, by go_num, by rw [He.out]; go_num, by omega, Hl.out, by rw [← Hi.out, show 8 - j = (8 - (j + 1)) + 1 by omega]; rfl⟩
            case measure => simp [intOf]; omega
        · have Hf := Lib.hid (show m = cByte n x from by rw [← Hi.out, show 8 - j = 0 by omega]; rfl)
          go_wp2_with fail
          go_round
          case rel => exact ⟨k + 1, m, by go_num, rfl, by omega, hm, by rw [← Hd.out, Hs.out, Hf.out]; rfl⟩
          case measure => simp [intOf]; omega
    · have hle : cFold l 4294967295 < 4294967296 := cFold_lt l _ (by omega)
      have Hf := Lib.hid (show n = cFold l 4294967295 from by rw [← Hd.out, drop_end hlt]; rfl)
      go_wp2_with fail
      go_ret
      refine ⟨ret_int ?_, rfl⟩
      unfold crc; rw [← Hf.out]; omega
end Go.Proofs.Ytbchkaoocobpfaa
