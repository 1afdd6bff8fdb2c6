/- Walk: strconv.FormatInt to the base of 16. -/
import Derived.Test.YtfgjbflddabdcaaGreatDoorWHex
namespace Go.Proofs.YtfgjbflddabdcaaGreatDoor
open Go.RowKit Go.Larder
set_option linter.unusedVariables false
set_option linter.unusedSimpArgs false
abbrev zb : Value := .int .u8 0
theorem hx_read {wr : World} {g i : Nat} {T : TypeId} {out : List UInt8} (bx : BoxAt wr g T (List.replicate i zb ++ out.map fun b => Value.int .u8 b.toNat)) : ReadL encB wr (g + 1) (some ⟨g, i, none⟩) out := fun hn =>
  ⟨g, i, rfl, by omega, fun k a ha j u hu => by
    have hj : j = 0 := by
      have := (List.getElem?_eq_some_iff.1 hu).1
      simp [encB] at this; omega
    subst hj
    have : u = .int .u8 a.toNat := by simpa [encB] using hu.symm
    subst this
    have h := bx.cell (j := i + k) (v := .int .u8 a.toNat) (by rw [rep_get, List.getElem?_map, ha]; rfl)
    simpa [encB] using h⟩
theorem tab36 : ∀ k, k < 16 → ∀ h, ([48, 49, 50, 51, 52, 53, 54, 55, 56, 57, 97, 98, 99, 100, 101, 102, 103, 104, 105, 106, 107, 108, 109, 110, 111, 112, 113, 114, 115, 116, 117, 118, 119, 120, 121, 122] : List UInt8)[k]'h = hexd k := by
  apply sixteen <;> (intro h; rfl)
theorem run_sl65 (g i : Nat) (hi : i < 65) (w : World) : (Instr.sliceAt 159 (.pointer (some ⟨g, 0, none⟩)) (some (.int .i64 (i : Int))) none none).run Tryz.prog w = .ok (.slice (some ⟨g, i, none⟩) (65 - i) (65 - i)) w := by
  have hl : (Tryz.prog).arrayLen 159 = 65 := by kernel_rfl
  have he : (Tryz.prog).elem 159 = 5 := by kernel_rfl
  have h := run_sliceAt_array_l (P := Tryz.prog) w 159 ⟨g, 0, none⟩ (by kernel_rfl) .i64 (i : Int) (by omega) (by rw [hl]; omega)
  rw [hl, he] at h
  rw [h, Tryz.sizeOf5]
  have ha : (⟨g, 0, none⟩ : Addr).add (i * 1) = ⟨g, i, none⟩ := by unfold Addr.add; simp; (intro h; exact h.symm)
  simp only [Result.andThen, slicedAt, Int.toNat_natCast]
  rw [if_neg (by omega), ha]
set_option maxHeartbeats 4000000 in
set_option maxRecDepth 100000 in
theorem w_formatBits (n : Nat) (hn : n ≤ 5000) (w : World) (hT : BT w) :
    Calls Tryz.prog 129 #[.slice none 0 0, .int .u64 (n : Int), .int .i64 16, .bool false, .bool false] w fun e w' => e = .returned (.tuple #[.slice none 0 0, S (hxL n)]) ∧ Below w.heap.size w w' := by
  have HL := Lib.hid (hxL_len hn)
  have e4 : IntKind.u64.wrap (4 : Int) = 4 := by decide +kernel
  have hT1 : ∀ o, BT (w.alloc o) := fun o => hT.keep ((Below.refl _ _).alloc (Nat.le_refl _) o)
  go_enter Tryz.func129, Tryz.ntmps129
  go_wp2_with (first
    | (go_at_call 155; refine (w_p2 _).mono ?_; rintro e w' ⟨rfl, rfl⟩)
    | (go_at_call 156; refine (w_tz _ (hT1 _)).mono ?_; rintro e w' ⟨rfl, rfl⟩))
  go_loopw [1, 13] (fun u' i' wr => ∃ (m i : Nat) (out : List UInt8), u' = .int .u64 (m : Int) ∧ i' = .int .i64 (i : Int) ∧ m ≤ n ∧ i + out.length = 65 ∧ BoxAt wr w.heap.size 159 (List.replicate i zb ++ out.map fun b => Value.int .u8 b.toNat) ∧ Below w.heap.size w wr ∧ Hid (hxL n = hxL m ++ out)) (fun u' _ _ => (intOf u').toNat)
  case atStart => exact ⟨n, 65, [], rfl, rfl, by omega, rfl, BoxAt.new w (List.replicate 65 zb ++ []) 159, (Below.refl _ _).alloc (Nat.le_refl _) _, Lib.hid (by simp)⟩
  case round =>
    obtain ⟨m, i, out, rfl, rfl, hm, hio, bx, hbel, heq⟩ := hrel
    have hlen : (hxL m).length + out.length ≤ 4 := by have h1 := congrArg List.length heq.out; rw [List.length_append] at h1; have := HL.out; omega
    have hpos := hxL_pos m
    have hi1 : 62 ≤ i := by omega
    have hi2 : i ≤ 65 := by omega
    obtain ⟨i, rfl⟩ : ∃ k, i = k + 1 := ⟨i - 1, by omega⟩
    have q0 := bx.cell (j := i) (v := zb) (rep_at _ _ _ _ (by omega))
    have f0 := bx.free i
    by_cases hlt : m < 16
    · have hd := run_dig m hlt
      have bx2 := bx.set i (.int .u8 (hexd m).toNat)
      rw [rep_set] at bx2
      have hq := Lib.hid (show hxL n = hexd m :: out from by rw [heq.out, hxL_one hlt]; rfl)
      have hrd := hx_read (out := hexd m :: out) (g := w.heap.size) (i := i) (T := 159) (by simpa using bx2)
      have hcv := run_bytes_str (P := Tryz.prog) 81 9 Tryz.underlying81 Tryz.underlying5 Tryz.underlying9 hrd (65 - i)
      rw [show (hexd m :: out).length = 65 - i from by simp; omega] at hcv
      have hsa := run_sl65 w.heap.size i (by omega)
      have hB := hbel.setCell (p := ⟨w.heap.size, i, none⟩) (Nat.le_refl _) (.int .u8 (hexd m).toNat)
      clear heq hpos hlen
      go_wp2_with fail
      go_ret2
      rw [hq.out]
      exact ⟨rfl, hB⟩
    · have ha := hx_and15 m (by omega)
      have hd := run_dig (m % 16) (by omega)
      have bx2 := bx.set i (.int .u8 (hexd (m % 16)).toNat)
      rw [rep_set] at bx2
      have hq := Lib.hid (show hxL n = hxL (m / 16) ++ (hexd (m % 16) :: out) from by rw [heq.out, hxL_step hlt, List.append_assoc]; rfl)
      have hx := tab36 (m % 16) (by omega)
      have hB := hbel.setCell (p := ⟨w.heap.size, i, none⟩) (Nat.le_refl _) (.int .u8 (hexd (m % 16)).toNat)
      clear heq hpos hlen
      go_wp2_with fail
      go_roundw
      case rel => exact ⟨m / 16, i, hexd (m % 16) :: out, by go_num, rfl, by omega, by simp; omega, by simpa using bx2, hB, hq⟩
      case measure => simp [intOf]; omega
theorem w_iFormatInt (n : Nat) (hn : n ≤ 5000) (w : World) (hT : BT w) :
    Calls Tryz.prog 94 #[.int .i64 (n : Int), .int .i64 16] w fun e w' => e = .returned (S (hxL n)) ∧ Below w.heap.size w w' := by
  have e1 : IntKind.u64.wrap (n : Int) = (n : Int) := by simp [IntKind.wrap, IntKind.bits, IntKind.signed]; omega
  go_enter Tryz.func94, Tryz.ntmps94
  go_wp2_with (go_at_call 129; refine (w_formatBits n hn _ hT).mono ?_; rintro e w1 ⟨rfl, hb1⟩)
  go_ret
  exact ⟨rfl, hb1⟩
theorem w_FormatInt (n : Nat) (hn : n ≤ 5000) (w : World) (hT : BT w) :
    Calls Tryz.prog 64 #[.int .i64 (n : Int), .int .i64 16] w fun e w' => e = .returned (S (hxL n)) ∧ Below w.heap.size w w' := by
  go_enter Tryz.func64, Tryz.ntmps64
  go_wp2_with (go_at_call 94; refine (w_iFormatInt n hn _ hT).mono ?_; rintro e w1 ⟨rfl, hb1⟩)
  go_ret
  exact ⟨rfl, hb1⟩
end Go.Proofs.YtfgjbflddabdcaaGreatDoor
