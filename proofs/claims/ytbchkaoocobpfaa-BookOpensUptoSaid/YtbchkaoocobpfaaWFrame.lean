/- Walks through log.Frame and the reference's Frame. -/
import Derived.Test.YtbchkaoocobpfaaWCrc
import Derived.Test.YtbchkaoocobpfaaWRef0
namespace Go.Proofs.Ytbchkaoocobpfaa
open Go.RowKit Go.Larder
set_option linter.unusedVariables false
set_option linter.unusedSimpArgs false

theorem info_u8 : ((Try.prog).info? 5).map (fun i => (i.zero, i.size, i.bytes)) = some (some (.int .u8 0), 1, 1) := by kernel_rfl
theorem sl_u8f : SlT Try.prog 84 5 1 1 := SlT.mk' (z := .int .u8 0) Try.underlying84 info_u8 rfl

theorem w_chr (n : Nat) (hn : n < 256) (w : World) :
    Calls Try.prog 45 #[.int .i64 (n : Int)] w fun e w' => e = .returned (S [UInt8.ofNat n]) ∧ Below w.heap.size w w' := by
  have k1 := fun (W : World) (a : Int) => run_lit_str (P := Try.prog) 84 9 Try.underlying84 Try.underlying5 Try.underlying9 W [a] #[.int .u8 a] rfl 1 1 rfl W.heap.size rfl
  go_enter Try.func45, Try.ntmps45
  go_wp2_with fail
  go_ret
  refine ⟨ret_S ?_, by go_grown⟩
  simp

theorem w_big (k : Nat) : ∀ (n : Nat) (w : World), n < 4294967296 → k ≤ 100 →
    Calls Try.prog 67 #[.int .u64 (n : Int), .int .i64 (k : Int)] w fun e w' => e = .returned (S (bigL n k)) ∧ Below w.heap.size w w' := by
  induction k with
  | zero =>
    intro n w hn hk
    go_enter Try.func67, Try.ntmps67
    go_wp2_with fail
    go_ret
    exact ⟨rfl, Below.refl _ _⟩
  | succ k ih =>
    intro n w hn hk
    have IH := Lib.hid ih
    clear ih
    have hz : (((k + 1 : Nat) : Int) == 0) = false := by simp; omega
    go_enter Try.func67, Try.ntmps67
    go_wp2_with fail
    rw [show ((n : Int) / 256) = ((n / 256 : Nat) : Int) from by omega]
    refine (IH.out (n / 256) _ (by omega) (by omega)).mono ?_
    rintro e w1 ⟨rfl, hb1⟩
    go_wp2_with fail
    rw [show ((n : Int) % 256) = ((n % 256 : Nat) : Int) from by omega]
    refine (w_chr (n % 256) (by omega) _).mono ?_
    rintro e w2 ⟨rfl, hb2⟩
    have hbl : (bigL (n / 256) k).length ≤ 100 := by rw [bigL_len]; omega
    go_wp2_with fail
    go_ret
    exact ⟨rfl, hb1.trans (hb2.mono hb1.size)⟩

set_option maxRecDepth 100000 in
theorem w_Frame (n : Nat) (s : List UInt8) (hn : n ≤ 2147483648) (hs : s.length ≤ 1000) (w : World) :
    Calls Try.prog 60 #[.int .i64 (n : Int), S s] w fun e w' => e = .returned (.tuple #[S (frameL n s), .int .i64 0]) ∧ Below w.heap.size w w' := by
  have k4 := fun (W : World) (o : Obj) (a b c d : Int) => run_lit_str (P := Try.prog) 84 9 Try.underlying84 Try.underlying5 Try.underlying9 (W.alloc o) [a, b, c, d] #[.int .u8 a, .int .u8 b, .int .u8 c, .int .u8 d] rfl 4 4 rfl (W.heap.size + 1) (by simp)
  have hc := crc_lt (be4 n ++ s)
  go_enter Try.func60, Try.ntmps60
  go_wp2_with fail
  refine (w_Crc (be4 n ++ s) (by simp [be4]; omega) _).mono ?_
  rintro e w' ⟨rfl, rfl⟩
  have hown0 : OwnL encB (w.alloc (.cells #[.int .u8 ((s.length : Int) / 256), .int .u8 ((s.length : Int) % 256), .int .u8 (bits .xor .u8 IntKind.u8.max ((s.length : Int) / 256)), .int .u8 (bits .xor .u8 IntKind.u8.max ((s.length : Int) % 256))] 5)) w.heap.size 5 (some ⟨w.heap.size, 0, none⟩) 4 (hd4 s.length) := by
    refine own_lit _ _ _ _ (hd4 s.length) ?_ (Nat.le_refl _) (by simp [hd4, maxLen])
    rw [show ((s.length : Int) / 256) = ((s.length / 256 : Nat) : Int) from by omega, show ((s.length : Int) % 256) = ((s.length % 256 : Nat) : Int) from by omega, not_walk8 (by omega), not_walk8 (by omega)]
    rw [flat_B]
    simp only [hd4, List.map_cons, List.map_nil]
    rw [ofNat_toNat (by omega), ofNat_toNat (by omega), ofNat_toNat (by omega), ofNat_toNat (by omega)]
  have hbel : Below w.heap.size w ((w.alloc (.cells #[.int .u8 ((s.length : Int) / 256), .int .u8 ((s.length : Int) % 256), .int .u8 (bits .xor .u8 IntKind.u8.max ((s.length : Int) / 256)), .int .u8 (bits .xor .u8 IntKind.u8.max ((s.length : Int) % 256))] 5)).alloc (.cells #[.int .u8 ((n : Int) / 16777216), .int .u8 ((n : Int) / 65536 % 256), .int .u8 ((n : Int) / 256 % 256), .int .u8 ((n : Int) % 256)] 5)) := ((Below.refl _ _).alloc (Nat.le_refl _) _).alloc (by simp) _
  have hown1 := hown0.alloc (.cells #[.int .u8 ((n : Int) / 16777216), .int .u8 ((n : Int) / 65536 % 256), .int .u8 ((n : Int) / 256 % 256), .int .u8 ((n : Int) % 256)] 5)
  clear hown0
  generalize ((w.alloc (.cells #[.int .u8 ((s.length : Int) / 256), .int .u8 ((s.length : Int) % 256), .int .u8 (bits .xor .u8 IntKind.u8.max ((s.length : Int) / 256)), .int .u8 (bits .xor .u8 IntKind.u8.max ((s.length : Int) % 256))] 5)).alloc (.cells #[.int .u8 ((n : Int) / 16777216), .int .u8 ((n : Int) / 65536 % 256), .int .u8 ((n : Int) / 256 % 256), .int .u8 ((n : Int) % 256)] 5)) = w1 at hbel hown1 ⊢
  have HF := Lib.hid (show frameL n s = hd4 s.length ++ s ++ le4 (crc (be4 n ++ s)) from rfl)
  generalize crc (be4 n ++ s) = C at hc HF ⊢
  have hx : ∀ k : Nat, k < 256 → ((UInt8.ofNat k).toNat : Int) = k := fun k h => ofNat_toNat h
  have Hx := Lib.hid hx
  clear hx
  go_wp2_with (first
    | (at_builtin
       refine wpList_app_str Try.underlying84 Try.underlying9 info_u8 rfl _ _ rfl rfl hown1 s rfl (by simp [hd4]; omega) hbel.size ?_
       intro A2 c2 w2 hown2 hg2 hb2
       have hbel2 := hbel.trans hb2)
    | (at_builtin
       refine wpList_app encB sl_u8f (le4 C) rfl _ _ rfl (by show Value.slice A2 _ c2 = _; simp [hd4]; omega) hown2 #[.int .u8 ((C : Int) % 256), .int .u8 ((C : Int) / 256 % 256), .int .u8 ((C : Int) / 65536 % 256), .int .u8 ((C : Int) / 16777216)] ?_ 3 rfl rfl (by simp [hd4]; omega) (by simp only [maxLen]; simp [hd4]; omega) hbel2.size ?_
       · rw [flat_B]; simp only [le4, List.map_cons, List.map_nil]; rw [Hx.out _ (by omega), Hx.out _ (by omega), Hx.out _ (by omega), Hx.out _ (by omega)]; simp
       intro g3 c3 w3 hown3 hg3 hb3 hbg3
       have hcv : (convert 84 9 (.slice (some ⟨g3, 0, none⟩) ((hd4 s.length).length + s.length + 4) c3)).run Try.prog w3 = .ok (S (hd4 s.length ++ s ++ le4 C)) w3 := by
         have h := run_bytes_str (P := Try.prog) 84 9 Try.underlying84 Try.underlying5 Try.underlying9 hown3.read c3
         rw [show (hd4 s.length ++ s ++ le4 C).length = (hd4 s.length).length + s.length + 4 by simp [le4]; omega] at h
         exact h))
  go_ret2
  exact ⟨by rw [HF.out]; simp, hbel2.trans hb3⟩

theorem w_Frame_out (n : Int) (s : List UInt8) (hn : n < 0 ∨ 2147483648 < n) (w : World) :
    Calls Try.prog 60 #[.int .i64 n, S s] w fun e w' => e = .returned (.tuple #[S [], .int .i64 1]) ∧ w = w' := by
  rcases hn with h | h
  all_goals
    go_enter Try.func60, Try.ntmps60
    go_wp2_with fail
    go_ret2
    exact ⟨rfl, rfl⟩
theorem w_Frame_big (n : Nat) (s : List UInt8) (hn : n ≤ 2147483648) (hs : 1000 < s.length) (hl : s.length ≤ 140737488351232) (w : World) :
    Calls Try.prog 60 #[.int .i64 (n : Int), S s] w fun e w' => e = .returned (.tuple #[S [], .int .i64 2]) ∧ w = w' := by
  go_enter Try.func60, Try.ntmps60
  go_wp2_with fail
  go_ret2
  exact ⟨rfl, rfl⟩
theorem w_FrameR_out (n : Int) (s : List UInt8) (hn : n < 0 ∨ 2147483648 < n) (w : World) :
    Calls Try.prog 59 #[.int .i64 n, S s] w fun e w' => e = .returned (.tuple #[S [], .int .i64 1]) ∧ w = w' := by
  rcases hn with h | h
  all_goals
    go_enter Try.func59, Try.ntmps59
    go_wp2_with (go_at_call 30; refine (w_outside _ _ _ _).mono ?_; rintro e w' ⟨rfl, rfl⟩)
    go_ret2
    exact ⟨rfl, rfl⟩
theorem w_FrameR_big (n : Nat) (s : List UInt8) (hn : n ≤ 2147483648) (hs : 1000 < s.length) (hl : s.length ≤ 140737488351232) (w : World) :
    Calls Try.prog 59 #[.int .i64 (n : Int), S s] w fun e w' => e = .returned (.tuple #[S [], .int .i64 2]) ∧ w = w' := by
  go_enter Try.func59, Try.ntmps59
  go_wp2_with (go_at_call 30; refine (w_outside _ _ _ _).mono ?_; rintro e w' ⟨rfl, rfl⟩)
  go_ret2
  exact ⟨rfl, rfl⟩
theorem w_FrameR (n : Nat) (s : List UInt8) (hn : n ≤ 2147483648) (hs : s.length ≤ 1000) (w : World) :
    Calls Try.prog 59 #[.int .i64 (n : Int), S s] w fun e w' => e = .returned (.tuple #[S (frameL n s), .int .i64 0]) ∧ Below w.heap.size w w' := by
  have hc := crc_lt (be4 n ++ s)
  have HF := Lib.hid (show frameL n s = hd4 s.length ++ s ++ le4 (crc (be4 n ++ s)) from rfl)
  go_enter Try.func59, Try.ntmps59
  go_wp2_with (go_at_call 30; refine (w_outside _ _ _ _).mono ?_; rintro e w' ⟨rfl, rfl⟩)
  have l4 : (bigL n 4).length ≤ 4 := by rw [bigL_len]; omega
  refine (w_big 4 n _ (by omega) (by omega)).mono ?_
  rintro e w1 ⟨rfl, hb⟩
  have hbel := hb
  go_wp2_with fail
  rw [bigL_4 n (by omega)]
  refine (w_CrcR (be4 n ++ s) (by simp [be4]; omega) _).mono ?_
  rintro e w' ⟨rfl, rfl⟩
  have l2 : (bigL s.length 2).length ≤ 2 := by rw [bigL_len]; omega
  have l3 : (bigL (65535 - s.length) 2).length ≤ 2 := by rw [bigL_len]; omega
  have H2 := Lib.hid (bigL_2 s.length hs)
  generalize crc (be4 n ++ s) = C at hc HF ⊢
  clear l4
  go_wp2_with fail
  refine (w_big 2 s.length _ (by omega) (by omega)).mono ?_
  rintro e w2 ⟨rfl, hb⟩
  have hbel := hbel.trans (hb.mono hbel.size)
  clear hb
  go_wp2_with fail
  rw [show ((65535 : Int) - (s.length : Int)) = ((65535 - s.length : Nat) : Int) from by omega]
  refine (w_big 2 (65535 - s.length) _ (by omega) (by omega)).mono ?_
  rintro e w3 ⟨rfl, hb⟩
  have hbel := hbel.trans (hb.mono hbel.size)
  clear hb
  go_wp2_with fail
  rw [show ((C : Int) % 256) = ((C % 256 : Nat) : Int) from by omega]
  refine (w_chr (C % 256) (by omega) _).mono ?_
  rintro e w4 ⟨rfl, hb⟩
  have hbel := hbel.trans (hb.mono hbel.size)
  clear hb
  go_wp2_with fail
  rw [show ((C : Int) / 256 % 256) = ((C / 256 % 256 : Nat) : Int) from by omega]
  refine (w_chr (C / 256 % 256) (by omega) _).mono ?_
  rintro e w5 ⟨rfl, hb⟩
  have hbel := hbel.trans (hb.mono hbel.size)
  clear hb
  go_wp2_with fail
  rw [show ((C : Int) / 65536 % 256) = ((C / 65536 % 256 : Nat) : Int) from by omega]
  refine (w_chr (C / 65536 % 256) (by omega) _).mono ?_
  rintro e w6 ⟨rfl, hb⟩
  have hbel := hbel.trans (hb.mono hbel.size)
  clear hb
  go_wp2_with fail
  rw [show ((C : Int) / 16777216) = ((C / 16777216 : Nat) : Int) from by omega]
  refine (w_chr (C / 16777216) (by omega) _).mono ?_
  rintro e w7 ⟨rfl, hb⟩
  have hbel := hbel.trans (hb.mono hbel.size)
  clear hb
  go_wp2_with fail
  go_ret2
  exact ⟨by rw [HF.out, ← H2.out]; simp [le4], hbel⟩
end Go.Proofs.Ytbchkaoocobpfaa
