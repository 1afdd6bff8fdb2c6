/- Walks: strconv.ParseInt at base 16, 32 bits, of at most four hex digits. -/
import Derived.Test.YtfgjbflddabdcaaGreatDoorSpecs
import Derived.Test.YtfgjbflddabdcaaGreatDoorWStr
import Derived.Lib.ConvBytes
import Derived.Deep.RegionWith
import Derived.Deep.DeepCutAuto
namespace Go.Proofs.YtfgjbflddabdcaaGreatDoor
open Go.RowKit Go.Larder
set_option linter.unusedVariables false
set_option linter.unusedSimpArgs false
theorem low_walk (c : UInt8) : bits .or .u8 (c.toNat : Int) 32 = ((c.toNat ||| 32 : Nat) : Int) := by
  have h : ∀ n : Nat, n < 256 → bits .or .u8 (n : Int) 32 = ((n ||| 32 : Nat) : Int) := by decide +kernel
  exact h c.toNat c.toNat_lt
theorem low_kinds : ∀ n : Nat, n < 256 → (97 ≤ n ∧ n ≤ 102 → n ||| 32 = n) ∧ (65 ≤ n ∧ n ≤ 70 → n ||| 32 = n + 32) := by decide +kernel
theorem hx_kinds {c : UInt8} (h : isHx c = true) : (48 ≤ c.toNat ∧ c.toNat ≤ 57 ∧ hxv c = c.toNat - 48) ∨ (65 ≤ c.toNat ∧ c.toNat ≤ 102 ∧ ¬ c.toNat = 95 ∧ ∃ n : Nat, c.toNat ||| 32 = n ∧ 97 ≤ n ∧ n ≤ 102 ∧ hxv c = n - 87) := by
  have hk := low_kinds c.toNat c.toNat_lt
  unfold isHx at h
  simp at h
  unfold hxv
  rcases h with (h | h) | h
  · exact .inl ⟨by omega, by omega, if_pos (by omega)⟩
  · refine .inr ⟨by omega, by omega, by omega, c.toNat, hk.1 (by omega), by omega, by omega, ?_⟩
    rw [if_neg (by omega), if_neg (by omega)]
  · refine .inr ⟨by omega, by omega, by omega, c.toNat + 32, hk.2 (by omega), by omega, by omega, ?_⟩
    rw [if_neg (by omega), if_pos (by omega)]; omega
theorem w_plow (c : UInt8) (w : World) : Calls Tryz.prog 161 #[.int .u8 c.toNat] w fun e w' => e = .returned (.int .u8 ((c.toNat ||| 32 : Nat) : Int)) ∧ w = w' := by
  go_enter Tryz.func161, Tryz.ntmps161
  go_wp2_with fail
  go_ret
  exact ⟨ret_int (low_walk c), rfl⟩
theorem hxN_snoc (l : List UInt8) (c : UInt8) : hxN (l ++ [c]) = 16 * hxN l + hxv c := by unfold hxN; rw [List.foldl_append]; rfl
theorem hxN_small (l : List UInt8) (hd : ∀ c ∈ l, isHx c = true) (h4 : l.length ≤ 4) : hxN l ≤ 65535 := by
  have h1 := hxN_lt l 0 1 hd (by omega)
  have h3 : 16 ^ l.length ≤ 16 ^ 4 := Nat.pow_le_pow_right (by omega) h4
  unfold hxN
  omega
set_option maxHeartbeats 4000000 in
set_option maxRecDepth 100000 in
theorem w_ParseU (l : List UInt8) (hne : l ≠ []) (h4 : l.length ≤ 4) (hd : ∀ c ∈ l, isHx c = true) (w : World) :
    Calls Tryz.prog 147 #[S l, .int .i64 16, .int .i64 32] w fun e w' => e = .returned (.tuple #[.int .u64 ((hxN l : Nat) : Int), Value.nilIface]) ∧ Below w.heap.size w w' := by
  have hem : l.isEmpty = false := by cases l with
    | nil => exact absurd rfl hne
    | cons _ _ => rfl
  have hcv := fun W => Lib.run_convert_string_bytes (P := Tryz.prog) W 9 81 _ ⟨l.toArray⟩ Tryz.underlying9 Tryz.underlying81 Tryz.underlying5
  have hpl := fun c W => w_plow c W
  go_enter Tryz.func147, Tryz.ntmps147
  go_wp2_with fail
  have hcell := Lib.bytesWorld_cell w 5 ⟨l.toArray⟩
  have hbel : Below w.heap.size w (Lib.bytesWorld w 5 ⟨l.toArray⟩) := ⟨rfl, rfl, rfl, by rw [Lib.bytesWorld_size]; omega, fun k hk => Lib.bytesWorld_at_old _ _ _ k hk⟩
  have hsz := Lib.bytesWorld_size w 5 ⟨l.toArray⟩
  generalize Lib.bytesWorld w 5 ⟨l.toArray⟩ = W at *
  generalize grownCap w _ 0 _ = cap at *
  clear hcv
  go_loopw [101, 12, 13] (fun i' u' n' wr => ∃ k : Nat, i' = .int .i64 k ∧ k ≤ l.length ∧ u' = .bool false ∧ n' = .int .u64 ((hxN (l.take k) : Nat) : Int) ∧ wr = W) (fun i' _ _ _ => l.length - (intOf i').toNat)
  case atStart => exact ⟨0, rfl, by omega, rfl, rfl, rfl⟩
  case round =>
    obtain ⟨k, rfl, hk, rfl, rfl, rfl⟩ := hrel
    by_cases hlt : k < l.length
    · obtain ⟨x, hx, hs⟩ := drop_step hlt
      have hc := hcell k (by rw [ba_size]; exact hlt)
      have hgx : (⟨l.toArray⟩ : ByteArray).data.toList.getD k 0 = x := by simp [hx]
      rw [hgx] at hc
      have hxm : x ∈ l := List.mem_of_getElem? hx
      have hxx := hd x hxm
      have hv16 := hxv_lt hxx
      have hn1 : hxN (l.take (k + 1)) = 16 * hxN (l.take k) + hxv x := by rw [List.take_add_one, hx]; exact hxN_snoc _ _
      have hn2 : hxN (l.take k) ≤ 4095 := by
        have h1 := hxN_lt (l.take k) 0 1 (fun c hc => hd c (List.mem_of_mem_take hc)) (by omega)
        have h3 : 16 ^ (l.take k).length ≤ 16 ^ 3 := Nat.pow_le_pow_right (by omega) (by rw [List.length_take]; omega)
        unfold hxN
        omega
      have Hn1 := Lib.hid hn1
      generalize hxN (l.take k) = N at *
      clear hcell hd hx hs hgx hxm hn1 hne
      have q4 : decide ((1152921504606846976 : Int) ≤ (N : Int)) = false := decide_eq_false (by omega)
      have w1 : IntKind.u64.wrap ((N : Int) * 16) = (N : Int) * 16 := IntWalk.u64_in _ ⟨by omega, by omega⟩
      rcases hx_kinds hxx with ⟨a1, a2, a3⟩ | ⟨a1, a2, a4, n, b1, b2, b3, b4⟩
      · have Hv := Lib.hid a3
        have q1 : ((x.toNat : Int) == 95) = false := by simp; omega
        have q2 : (48 : Int) ≤ x.toNat := by omega
        have q3 : (x.toNat : Int) ≤ 57 := by omega
        have w2 : IntKind.u64.wrap ((N : Int) * 16 + ((x.toNat : Int) - 48)) = (N : Int) * 16 + ((x.toNat : Int) - 48) := IntWalk.u64_in _ ⟨by omega, by omega⟩
        have t1 : decide ((N : Int) * 16 + ((x.toNat : Int) - 48) < (N : Int) * 16) = false := decide_eq_false (by omega)
        have t2 : decide ((4294967295 : Int) < (N : Int) * 16 + ((x.toNat : Int) - 48)) = false := decide_eq_false (by omega)
        have He := Lib.hid (show ((16 * N + hxv x : Nat) : Int) = (N : Int) * 16 + ((x.toNat : Int) - 48) from by omega)
        clear hxx a3 hv16 hn2
        go_wp2_with fail
        go_roundw
        case rel => exact ⟨k + 1, by go_num, by omega, rfl, by rw [Hn1.out, He.out], by trivial⟩
        case measure => simp [intOf]; omega
      · have q1 : ((x.toNat : Int) == 95) = false := by simp; omega
        have q2 : (48 : Int) ≤ x.toNat := by omega
        have q3 : ¬ (x.toNat : Int) ≤ 57 := by omega
        have hpx : ∀ W, Calls Tryz.prog 161 #[.int .u8 x.toNat] W fun e w' => e = .returned (.int .u8 ((n : Nat) : Int)) ∧ W = w' := fun W => by have := w_plow x W; rwa [b1] at this
        have w0 : IntKind.u8.wrap ((n : Int) - 97) = (n : Int) - 97 := IntWalk.u8_in _ ⟨by omega, by omega⟩
        have w3 : IntKind.u8.wrap ((n : Int) - 97 + 10) = (n : Int) - 97 + 10 := IntWalk.u8_in _ ⟨by omega, by omega⟩
        have w2 : IntKind.u64.wrap ((N : Int) * 16 + ((n : Int) - 97 + 10)) = (N : Int) * 16 + ((n : Int) - 97 + 10) := IntWalk.u64_in _ ⟨by omega, by omega⟩
        have t1 : decide ((N : Int) * 16 + ((n : Int) - 97 + 10) < (N : Int) * 16) = false := decide_eq_false (by omega)
        have t2 : decide ((4294967295 : Int) < (N : Int) * 16 + ((n : Int) - 97 + 10)) = false := decide_eq_false (by omega)
        have t3 : (97 : Int) ≤ n := by omega
        have t4 : (n : Int) ≤ 122 := by omega
        have He := Lib.hid (show ((16 * N + hxv x : Nat) : Int) = (N : Int) * 16 + ((n : Int) - 97 + 10) from by omega)
        clear hxx b4 hv16 hn2 b1 a1 a2 a4 hpl
        go_wp2_with (go_at_call 161; refine (hpx _).mono ?_; rintro e w' ⟨rfl, rfl⟩)
        go_roundw
        case rel => exact ⟨k + 1, by go_num, by omega, rfl, by rw [Hn1.out, He.out], by trivial⟩
        case measure => simp [intOf]; omega
    · have hk2 : l.take k = l := List.take_of_length_le (by omega)
      rw [hk2]
      go_wp2_with fail
      go_ret2
      exact ⟨rfl, hbel⟩
set_option maxHeartbeats 4000000 in
set_option maxRecDepth 100000 in
theorem w_ParseI (l : List UInt8) (hne : l ≠ []) (h4 : l.length ≤ 4) (hd : ∀ c ∈ l, isHx c = true) (w : World) :
    Calls Tryz.prog 117 #[S l, .int .i64 16, .int .i64 32] w fun e w' => e = .returned (.tuple #[.int .i64 ((hxN l : Nat) : Int), Value.nilIface]) ∧ Below w.heap.size w w' := by
  have hpu := w_ParseU l hne h4 hd w
  have hN := hxN_small l hd h4
  generalize hxN l = N at *
  obtain ⟨x, r, rfl⟩ : ∃ x r, l = x :: r := by cases l with
    | nil => exact absurd rfl hne
    | cons x r => exact ⟨x, r, rfl⟩
  have hx := hx_kinds (hd x (by simp))
  have q1 : ((x.toNat : Int) == 43) = false := by
    simp
    rcases hx with h | h <;> omega
  have q2 : ((x.toNat : Int) == 45) = false := by
    simp
    rcases hx with h | h <;> omega
  have q3 : decide ((2147483648 : Int) ≤ (N : Int)) = false := decide_eq_false (by omega)
  have w1 : IntKind.i64.wrap (N : Int) = N := IntWalk.i64_in _ ⟨by omega, by omega⟩
  clear hx hd hN hne
  go_enter Tryz.func117, Tryz.ntmps117
  go_wp2_with (go_at_call 147; refine hpu.mono ?_; rintro e w1 ⟨rfl, hb1⟩)
  go_ret2
  exact ⟨rfl, hb1⟩
theorem w_ParseInt (l : List UInt8) (hne : l ≠ []) (h4 : l.length ≤ 4) (hd : ∀ c ∈ l, isHx c = true) (w : World) :
    Calls Tryz.prog 141 #[S l, .int .i64 16, .int .i64 32] w fun e w' => e = .returned (.tuple #[.int .i64 ((hxN l : Nat) : Int), Value.nilIface]) ∧ Below w.heap.size w w' := by
  have hpu := w_ParseI l hne h4 hd w
  go_enter Tryz.func141, Tryz.ntmps141
  go_wp2_with (go_at_call 117; refine hpu.mono ?_; rintro e w1 ⟨rfl, hb1⟩)
  go_ret2
  exact ⟨rfl, hb1⟩
end Go.Proofs.YtfgjbflddabdcaaGreatDoor
