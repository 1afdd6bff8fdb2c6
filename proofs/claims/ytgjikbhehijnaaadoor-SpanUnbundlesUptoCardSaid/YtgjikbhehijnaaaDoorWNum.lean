/- Walks: texts of digits read as numbers: the program's number (dates), the reference's count. -/
import Derived.Test.YtgjikbhehijnaaaDoorChecked
import Derived.Test.YtgjikbhehijnaaaDoorBase
import Derived.Test.YtgjikbhehijnaaaDoorSpecNum
namespace Go.Proofs.YtgjikbhehijnaaaDoor
open Go.RowKit Go.Larder
set_option linter.unusedVariables false
set_option linter.unusedSimpArgs false
theorem cnt_long {l : List UInt8} {m : Int} (h : 18 < l.length) : cnt l m = -1 := by simp [cnt, h]
theorem cnt_nil {m : Int} : cnt [] m = -1 := by simp [cnt]
theorem cnt_zero {l : List UInt8} {m : Int} (h : 0 < l.length) : cnt (48 :: l) m = -1 := by simp [cnt, h]
theorem cnt_in {c : UInt8} {l : List UInt8} {m : Int} (h : l.length + 1 ≤ 18) (h2 : l.length = 0 ∨ c ≠ 48) : cnt (c :: l) m = if m < nm (c :: l) then -1 else nm (c :: l) := by
  unfold cnt
  rw [if_neg]
  simp
  refine ⟨by omega, ?_⟩
  intro h3
  rcases h2 with h2 | h2
  · omega
  · exact h2
set_option maxHeartbeats 4000000 in
theorem w_count_in (c : UInt8) (l : List UInt8) (m : Int) (hl : l.length + 1 ≤ 18) (hm : 0 ≤ m ∧ m ≤ 1000000000000000000) (h2 : l.length = 0 ∨ c ≠ 48) (w : World) :
    Calls Tryd.prog 84 #[S (c :: l), .int .i64 m] w fun e w' => e = .returned (.int .i64 (if m < nm (c :: l) then -1 else nm (c :: l))) ∧ w = w' := by
  obtain ⟨hm0, hm1⟩ := hm
  have h2' : ¬ 0 < l.length ∨ ((c.toNat : Int) == 48) = false := by
    rcases h2 with h2 | h2
    · exact .inl (by omega)
    · refine .inr ?_
      have := u8_beq c 48 (by omega)
      rw [show ((48 : Nat) : Int) = 48 from rfl] at this
      rw [this]
      simpa using h2
  clear h2
  obtain ⟨L, hL⟩ : ∃ L, c :: l = L := ⟨_, rfl⟩
  have hne : L.isEmpty = false := by rw [← hL]; rfl
  have hlen : L.length = l.length + 1 := by rw [← hL]; rfl
  have hlL : L.length ≤ 18 := by omega
  have hlL1 : 1 ≤ L.length := by omega
  have hg0 : ∀ h, L[0]'h = c := fun h => by subst hL; rfl
  have h2'' : ¬ 1 < L.length ∨ ((c.toNat : Int) == 48) = false := by rcases h2' with h | h; exact .inl (by omega); exact .inr h
  rw [hL]
  clear hL hlen h2' hl
  obtain ⟨R, hR⟩ : ∃ R, (if m < nm L then -1 else nm L) = R := ⟨_, rfl⟩
  rw [hR]
  have HR := Lib.hid hR
  clear hR
  rcases Nat.lt_or_ge 1 L.length with h1 | h1
  all_goals
    (first
      | (have hc : ((c.toNat : Int) == 48) = false := by rcases h2'' with h | h; (exact absurd h1 h); exact h)
      | skip)
    clear h2''
    go_enter Tryd.func84, Tryd.ntmps84
    go_wp2_with fail
    go_loop [5, 26] (fun n' i' => ∃ (k : Nat) (n : Int), i' = .int .i64 k ∧ n' = .int .i64 n ∧ k ≤ L.length ∧ 0 ≤ n ∧ Hid (n + 1 ≤ (10 ^ k : Nat)) ∧ Hid (nmGo n (L.drop k) = nm L)) (fun _ i' => L.length - (intOf i').toNat)
    case atStart => exact ⟨0, 0, rfl, rfl, by omega, by omega, Lib.hid (by omega), Lib.hid rfl⟩
    case round =>
      obtain ⟨k, n, rfl, rfl, hk, hn0, hn1, heq⟩ := hrel
      have hn2 : n < 1000000000000000000 := by have := pow10_le (k := k) (by omega); have := hn1.out; omega
      by_cases hlt : k < L.length
      · obtain ⟨x, hx, hs⟩ := drop_step hlt
        have Hx := Lib.hid hx
        have hg : ∀ h, L[k]'h = x := fun h => by rw [List.getElem?_eq_getElem h] at hx; exact Option.some.inj hx
        have heq := heq.out
        rw [hs] at heq
        have hx8 := x.toNat_lt
        cases ht : inTab tensTab x
        · have hno := digN' x ht
          rw [nmGo_no ht] at heq
          have Hq := Lib.hid (show R = -1 from by rw [← HR.out, ← heq, if_neg (by omega)])
          clear heq hs hx ht
          by_cases h3 : (x.toNat : Int) < 48
          · go_wp2_with fail
            go_ret
            rw [Hq.out]
            exact ⟨rfl, rfl⟩
          · have h4 : (57 : Int) < (x.toNat : Int) := by omega
            go_wp2_with fail
            go_ret
            rw [Hq.out]
            exact ⟨rfl, rfl⟩
        · obtain ⟨h48, h57⟩ := digB' x ht
          rw [nmGo_yes ht] at heq
          have Hq := Lib.hid heq
          clear heq hs hx ht
          have h3 : ¬ (x.toNat : Int) < 48 := by omega
          have h4 : ¬ (57 : Int) < (x.toNat : Int) := by omega
          have hn3 : n ≤ 900000000000000000 := by have : (10 ^ k : Nat) ≤ 10 ^ 17 := Nat.pow_le_pow_right (by omega) (by omega); have := hn1.out; omega
          have e1 : IntKind.i64.wrap (10 * n) = 10 * n := IntWalk.i64_in _ ⟨by omega, by omega⟩
          have e2 : IntKind.u8.wrap ((x.toNat : Int) - 48) = (x.toNat : Int) - 48 := by rw [IntKind.wrap_u8]; omega
          have e3 : IntKind.i64.wrap ((x.toNat : Int) - 48) = (x.toNat : Int) - 48 := IntWalk.i64_in _ ⟨by omega, by omega⟩
          have e4 : IntKind.i64.wrap (10 * n + ((x.toNat : Int) - 48)) = 10 * n + ((x.toNat : Int) - 48) := IntWalk.i64_in _ ⟨by omega, by omega⟩
          have Hb : Hid (10 * n + ((x.toNat : Int) - 48) + 1 ≤ (10 ^ (k + 1) : Nat)) := Lib.hid (by have := hn1.out; rw [Nat.pow_succ]; omega)
          go_wp2_with fail
          go_round
          case rel => exact ⟨k + 1, 10 * n + ((x.toNat : Int) - 48), by go_num, by first | rfl | (simp; done), by omega, by omega, Hb, Hq⟩
          case measure => simp [intOf]; omega
      · obtain rfl : k = L.length := by omega
        have heq := heq.out
        rw [List.drop_length] at heq
        have hnm : nm L = n := heq.symm
        by_cases h5 : m < n
        · have Hq := Lib.hid (show R = -1 from by rw [← HR.out, hnm, if_pos h5])
          clear heq hnm
          go_wp2_with fail
          go_ret
          rw [Hq.out]
          exact ⟨rfl, rfl⟩
        · have Hq := Lib.hid (show R = n from by rw [← HR.out, hnm, if_neg h5])
          clear heq hnm
          go_wp2_with fail
          go_ret
          rw [Hq.out]
          exact ⟨rfl, rfl⟩
theorem w_count (l : List UInt8) (hl : l.length ≤ 140737488351232) (m : Int) (hm : 0 ≤ m ∧ m ≤ 1000000000000000000) (w : World) :
    Calls Tryd.prog 84 #[S l, .int .i64 m] w fun e w' => e = .returned (.int .i64 (cnt l m)) ∧ w = w' := by
  rcases l with _ | ⟨c, l⟩
  · rw [cnt_nil]
    go_enter Tryd.func84, Tryd.ntmps84
    go_wp2_with fail
    go_ret
    exact ⟨rfl, rfl⟩
  · by_cases hlen : 18 < l.length + 1
    · rw [cnt_long (by simpa using hlen)]
      simp only [List.length_cons] at hl
      go_enter Tryd.func84, Tryd.ntmps84
      go_wp2_with fail
      go_ret
      exact ⟨rfl, rfl⟩
    · by_cases hz : c = 48 ∧ 0 < l.length
      · obtain ⟨rfl, h0⟩ := hz
        rw [cnt_zero h0]
        go_enter Tryd.func84, Tryd.ntmps84
        go_wp2_with fail
        go_ret
        exact ⟨rfl, rfl⟩
      · have h2 : l.length = 0 ∨ c ≠ 48 := by
          rcases Nat.eq_zero_or_pos l.length with h | h
          · exact .inl h
          · exact .inr fun hc => hz ⟨hc, h⟩
        rw [cnt_in (by omega) h2]
        exact w_count_in c l m (by omega) hm h2 w
end Go.Proofs.YtgjikbhehijnaaaDoor
