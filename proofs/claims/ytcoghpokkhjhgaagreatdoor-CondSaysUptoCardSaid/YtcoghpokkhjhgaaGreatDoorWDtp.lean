/- Walks: date.two, date.Print. -/
import Derived.Test.YtcoghpokkhjhgaaGreatDoorWDate
import Derived.Test.YtcoghpokkhjhgaaGreatDoorSpecs
import Derived.Test.YtcoghpokkhjhgaaGreatDoorWItoa
namespace Go.Proofs.YtcoghpokkhjhgaaGreatDoor
open Go.RowKit Go.Larder
set_option linter.unusedVariables false
set_option linter.unusedSimpArgs false

theorem w_two (n : Int) (h : 0 ≤ n ∧ n < 100) (w : World) (hP : PW w) :
    Calls Tryz.prog 93 #[.int .i64 n] w fun e w' => e = .returned (S (twoL n)) ∧ Below w.heap.size w w' := by
  obtain ⟨h0, h1⟩ := h
  have hl := Lib.itoa_length_le n (by omega) (by omega)
  have He := Lib.hid (itoa_nn h0)
  by_cases hlt : n < 10
  · have H := Lib.hid (show twoL n = 48 :: Lib.itoa n from by unfold twoL; rw [if_pos hlt, itoa_nn h0])
    go_enter Tryz.func93, Tryz.ntmps93
    go_wp2_with (go_at_call 94; refine Calls.mono (w_Itoa _ ?_ _ hP) ?_; omega; rintro e w2 ⟨rfl, hb2⟩)
    go_ret
    exact ⟨by rw [H.out]; rfl, hb2⟩
  · have hge : 10 ≤ n := by omega
    have H := Lib.hid (show twoL n = Lib.itoa n from by unfold twoL; rw [if_neg hlt, itoa_nn h0])
    go_enter Tryz.func93, Tryz.ntmps93
    go_wp2_with (go_at_call 94; refine Calls.mono (w_Itoa _ ?_ _ hP) ?_; omega; rintro e w2 ⟨rfl, hb2⟩)
    go_ret
    exact ⟨by rw [H.out]; rfl, hb2⟩

theorem two_len (n : Int) (h : 0 ≤ n ∧ n < 100) : (twoL n).length = 2 := dec_two n h.1 h.2

theorem run_slice_str {P : Program} (t : TypeId) (ht : P.underlying t = some .string) (s : List UInt8) (lo hi : Int) (h0 : 0 ≤ lo) (h1 : lo ≤ hi) (h2 : hi ≤ s.length) (w : World) :
    (Instr.slice t (.string ⟨s.toArray⟩) (some (.int .i64 lo)) (some (.int .i64 hi)) none).run P w = .ok (S ((s.drop lo.toNat).take (hi.toNat - lo.toNat))) w := by
  have hsz : (⟨s.toArray⟩ : ByteArray).size = s.length := ba_size s
  have e1 : hi.toNat ≤ s.length := by omega
  have e2 : lo ≤ (hi.toNat : Int) := by omega
  have e3 : lo ≤ max hi 0 := by omega
  simp [Instr.slice, Sem.run_bind, run_underlying ht, Instr.sliceBounds, Instr.sliceBound, asIntOf, hsz, h0, h2, show 0 ≤ hi from by omega, e2, e3, Result.andThen]
  rw [ba_extract]

set_option maxHeartbeats 1000000 in
theorem w_Print (n y r : Int) (m : Nat) (h : IsCivil (n / 86400) y m r) (hn0 : 0 ≤ n) (hn : n ≤ 253402300799) (w : World) (hP : PW w) :
    Calls Tryz.prog 62 #[.int .i64 n] w fun e w' => e = .returned (.tuple #[S (dateL n y m r), .int .i64 0]) ∧ Below w.heap.size w w' := by
  have hq : n / 86400 ≤ 2932896 := by omega
  have hq0 : 0 ≤ n / 86400 := by omega
  have hy0 := h.y0
  have hy1 := h.y1 hq
  have hm1 := h.m1
  have hr0 := h.r0
  have hr1 : r < 31 := by have := h.r1; have := (md_bd y m); omega
  have hC := fun w => w_Civil _ _ _ _ h hq w
  clear h
  have hs0 : 0 ≤ n % 86400 := by omega
  have hs1 : n % 86400 < 86400 := by omega
  obtain ⟨T1, hT1⟩ : ∃ x, twoL (r + 1) = x := ⟨_, rfl⟩
  obtain ⟨T2, hT2⟩ : ∃ x, twoL (n % 86400 / 3600) = x := ⟨_, rfl⟩
  obtain ⟨T3, hT3⟩ : ∃ x, twoL (n % 86400 / 60 % 60) = x := ⟨_, rfl⟩
  obtain ⟨T4, hT4⟩ : ∃ x, twoL (n % 60) = x := ⟨_, rfl⟩
  have c1 := fun w hP => w_two (r + 1) (by omega) w hP
  have c2 := fun w hP => w_two (n % 86400 / 3600) (by omega) w hP
  have c3 := fun w hP => w_two (n % 86400 / 60 % 60) (by omega) w hP
  have c4 := fun w hP => w_two (n % 60) (by omega) w hP
  have cy := fun w hP => w_Itoa y (by omega) w hP
  have hl1 : T1.length ≤ 2 := by rw [← hT1]; exact Nat.le_of_eq (two_len (r + 1) (by omega))
  have hl2 : T2.length ≤ 2 := by rw [← hT2]; exact Nat.le_of_eq (two_len _ (by omega))
  have hl3 : T3.length ≤ 2 := by rw [← hT3]; exact Nat.le_of_eq (two_len _ (by omega))
  have hl4 : T4.length ≤ 2 := by rw [← hT4]; exact Nat.le_of_eq (two_len _ (by omega))
  have hly : (Lib.itoa y).length ≤ 21 := by have := Lib.itoa_length_le y (by omega) (by omega); omega
  rw [hT1] at c1
  rw [hT2] at c2
  rw [hT3] at c3
  rw [hT4] at c4
  have hyd := itoa_nn (show 0 ≤ y by omega)
  obtain ⟨Y, hY⟩ : ∃ x, Lib.itoa y = x := ⟨_, rfl⟩
  rw [hY] at cy hly hyd
  obtain ⟨k, hk⟩ : ∃ k : Nat, n / 86400 % 7 = k := ⟨(n / 86400 % 7).toNat, by omega⟩
  have hk7 : k < 7 := by omega
  have hw1 : IntKind.i64.wrap ((k : Int) * 3 + 3) = (k : Int) * 3 + 3 := by simp [IntKind.wrap, IntKind.bits, IntKind.signed]; omega
  have hw2 : IntKind.i64.wrap (3 * ((m : Int) + 1)) = 3 * ((m : Int) + 1) := by simp [IntKind.wrap, IntKind.bits, IntKind.signed]; omega
  have hw3 : IntKind.i64.wrap (3 * ((m : Int) + 1) - 3) = 3 * (m : Int) := by simp [IntKind.wrap, IntKind.bits, IntKind.signed]; omega
  obtain ⟨Wk, hWk⟩ : ∃ x, wkD k = x := ⟨_, rfl⟩
  obtain ⟨Mo, hMo⟩ : ∃ x, moD m = x := ⟨_, rfl⟩
  have hlw : Wk.length ≤ 3 := by rw [← hWk]; exact Nat.le_of_eq (wk_len k hk7)
  have hlm : Mo.length ≤ 3 := by rw [← hMo]; exact Nat.le_of_eq (mo_len m hm1)
  have sw : ∀ w, (Instr.slice 9 (.string ⟨#[84, 104, 117, 70, 114, 105, 83, 97, 116, 83, 117, 110, 77, 111, 110, 84, 117, 101, 87, 101, 100]⟩) (some (.int .i64 ((k : Int) * 3))) (some (.int .i64 ((k : Int) * 3 + 3))) none).run Tryz.prog w = .ok (.string ⟨Wk.toArray⟩) w := by
    intro w
    refine (run_slice_str 9 Tryz.underlying9 weekL ((k : Int) * 3) ((k : Int) * 3 + 3) (by omega) (by omega) (by show _ ≤ ((21 : Nat) : Int); omega) w).trans ?_
    rw [← hWk]
    unfold wkD
    rw [show ((k : Int) * 3 + 3).toNat - ((k : Int) * 3).toNat = 3 from by omega, show ((k : Int) * 3).toNat = 3 * k from by omega]
  have sm : ∀ w, (Instr.slice 9 (.string ⟨#[74, 97, 110, 70, 101, 98, 77, 97, 114, 65, 112, 114, 77, 97, 121, 74, 117, 110, 74, 117, 108, 65, 117, 103, 83, 101, 112, 79, 99, 116, 78, 111, 118, 68, 101, 99]⟩) (some (.int .i64 (3 * (m : Int)))) (some (.int .i64 (3 * ((m : Int) + 1)))) none).run Tryz.prog w = .ok (.string ⟨Mo.toArray⟩) w := by
    intro w
    refine (run_slice_str 9 Tryz.underlying9 monL (3 * (m : Int)) (3 * ((m : Int) + 1)) (by omega) (by omega) (by show _ ≤ ((36 : Nat) : Int); omega) w).trans ?_
    rw [← hMo]
    unfold moD
    rw [show (3 * ((m : Int) + 1)).toNat - (3 * (m : Int)).toNat = 3 from by omega, show (3 * (m : Int)).toNat = 3 * m from by omega]
  obtain ⟨A1, hA1⟩ : ∃ x, Wk ++ [44, 32] = x := ⟨_, rfl⟩
  have l1 : A1.length ≤ 5 := by rw [← hA1, List.length_append]; (try simp only [List.length_cons, List.length_nil]); omega
  have a1 : ∀ w, (Op.stringOp .add ⟨Wk.toArray⟩ ⟨#[44, 32]⟩).run Tryz.prog w = .ok (.string ⟨A1.toArray⟩) w := fun w => by rw [← hA1]; exact run_string_add_lists w Wk [44, 32] (by omega) (by first | omega | simp)
  obtain ⟨A2, hA2⟩ : ∃ x, A1 ++ T1 = x := ⟨_, rfl⟩
  have l2 : A2.length ≤ 7 := by rw [← hA2, List.length_append]; (try simp only [List.length_cons, List.length_nil]); omega
  have a2 : ∀ w, (Op.stringOp .add ⟨A1.toArray⟩ ⟨T1.toArray⟩).run Tryz.prog w = .ok (.string ⟨A2.toArray⟩) w := fun w => by rw [← hA2]; exact run_string_add_lists w A1 T1 (by omega) (by first | omega | simp)
  obtain ⟨A3, hA3⟩ : ∃ x, A2 ++ [32] = x := ⟨_, rfl⟩
  have l3 : A3.length ≤ 8 := by rw [← hA3, List.length_append]; (try simp only [List.length_cons, List.length_nil]); omega
  have a3 : ∀ w, (Op.stringOp .add ⟨A2.toArray⟩ ⟨#[32]⟩).run Tryz.prog w = .ok (.string ⟨A3.toArray⟩) w := fun w => by rw [← hA3]; exact run_string_add_lists w A2 [32] (by omega) (by first | omega | simp)
  obtain ⟨A4, hA4⟩ : ∃ x, A3 ++ Mo = x := ⟨_, rfl⟩
  have l4 : A4.length ≤ 11 := by rw [← hA4, List.length_append]; (try simp only [List.length_cons, List.length_nil]); omega
  have a4 : ∀ w, (Op.stringOp .add ⟨A3.toArray⟩ ⟨Mo.toArray⟩).run Tryz.prog w = .ok (.string ⟨A4.toArray⟩) w := fun w => by rw [← hA4]; exact run_string_add_lists w A3 Mo (by omega) (by first | omega | simp)
  obtain ⟨A5, hA5⟩ : ∃ x, A4 ++ [32] = x := ⟨_, rfl⟩
  have l5 : A5.length ≤ 12 := by rw [← hA5, List.length_append]; (try simp only [List.length_cons, List.length_nil]); omega
  have a5 : ∀ w, (Op.stringOp .add ⟨A4.toArray⟩ ⟨#[32]⟩).run Tryz.prog w = .ok (.string ⟨A5.toArray⟩) w := fun w => by rw [← hA5]; exact run_string_add_lists w A4 [32] (by omega) (by first | omega | simp)
  obtain ⟨A6, hA6⟩ : ∃ x, A5 ++ Y = x := ⟨_, rfl⟩
  have l6 : A6.length ≤ 33 := by rw [← hA6, List.length_append]; (try simp only [List.length_cons, List.length_nil]); omega
  have a6 : ∀ w, (Op.stringOp .add ⟨A5.toArray⟩ ⟨Y.toArray⟩).run Tryz.prog w = .ok (.string ⟨A6.toArray⟩) w := fun w => by rw [← hA6]; exact run_string_add_lists w A5 Y (by omega) (by first | omega | simp)
  obtain ⟨A7, hA7⟩ : ∃ x, A6 ++ [32] = x := ⟨_, rfl⟩
  have l7 : A7.length ≤ 34 := by rw [← hA7, List.length_append]; (try simp only [List.length_cons, List.length_nil]); omega
  have a7 : ∀ w, (Op.stringOp .add ⟨A6.toArray⟩ ⟨#[32]⟩).run Tryz.prog w = .ok (.string ⟨A7.toArray⟩) w := fun w => by rw [← hA7]; exact run_string_add_lists w A6 [32] (by omega) (by first | omega | simp)
  obtain ⟨A8, hA8⟩ : ∃ x, A7 ++ T2 = x := ⟨_, rfl⟩
  have l8 : A8.length ≤ 36 := by rw [← hA8, List.length_append]; (try simp only [List.length_cons, List.length_nil]); omega
  have a8 : ∀ w, (Op.stringOp .add ⟨A7.toArray⟩ ⟨T2.toArray⟩).run Tryz.prog w = .ok (.string ⟨A8.toArray⟩) w := fun w => by rw [← hA8]; exact run_string_add_lists w A7 T2 (by omega) (by first | omega | simp)
  obtain ⟨A9, hA9⟩ : ∃ x, A8 ++ [58] = x := ⟨_, rfl⟩
  have l9 : A9.length ≤ 37 := by rw [← hA9, List.length_append]; (try simp only [List.length_cons, List.length_nil]); omega
  have a9 : ∀ w, (Op.stringOp .add ⟨A8.toArray⟩ ⟨#[58]⟩).run Tryz.prog w = .ok (.string ⟨A9.toArray⟩) w := fun w => by rw [← hA9]; exact run_string_add_lists w A8 [58] (by omega) (by first | omega | simp)
  obtain ⟨A10, hA10⟩ : ∃ x, A9 ++ T3 = x := ⟨_, rfl⟩
  have l10 : A10.length ≤ 39 := by rw [← hA10, List.length_append]; (try simp only [List.length_cons, List.length_nil]); omega
  have a10 : ∀ w, (Op.stringOp .add ⟨A9.toArray⟩ ⟨T3.toArray⟩).run Tryz.prog w = .ok (.string ⟨A10.toArray⟩) w := fun w => by rw [← hA10]; exact run_string_add_lists w A9 T3 (by omega) (by first | omega | simp)
  obtain ⟨A11, hA11⟩ : ∃ x, A10 ++ [58] = x := ⟨_, rfl⟩
  have l11 : A11.length ≤ 40 := by rw [← hA11, List.length_append]; (try simp only [List.length_cons, List.length_nil]); omega
  have a11 : ∀ w, (Op.stringOp .add ⟨A10.toArray⟩ ⟨#[58]⟩).run Tryz.prog w = .ok (.string ⟨A11.toArray⟩) w := fun w => by rw [← hA11]; exact run_string_add_lists w A10 [58] (by omega) (by first | omega | simp)
  obtain ⟨A12, hA12⟩ : ∃ x, A11 ++ T4 = x := ⟨_, rfl⟩
  have l12 : A12.length ≤ 42 := by rw [← hA12, List.length_append]; (try simp only [List.length_cons, List.length_nil]); omega
  have a12 : ∀ w, (Op.stringOp .add ⟨A11.toArray⟩ ⟨T4.toArray⟩).run Tryz.prog w = .ok (.string ⟨A12.toArray⟩) w := fun w => by rw [← hA12]; exact run_string_add_lists w A11 T4 (by omega) (by first | omega | simp)
  obtain ⟨A13, hA13⟩ : ∃ x, A12 ++ [32, 71, 77, 84] = x := ⟨_, rfl⟩
  have l13 : A13.length ≤ 46 := by rw [← hA13, List.length_append]; (try simp only [List.length_cons, List.length_nil]); omega
  have a13 : ∀ w, (Op.stringOp .add ⟨A12.toArray⟩ ⟨#[32, 71, 77, 84]⟩).run Tryz.prog w = .ok (.string ⟨A13.toArray⟩) w := fun w => by rw [← hA13]; exact run_string_add_lists w A12 [32, 71, 77, 84] (by omega) (by first | omega | simp)
  have H := Lib.hid (show dateL n y m r = A13 from by
    unfold dateL
    rw [show n % 86400 % 60 = n % 60 from by omega, hT1, hT2, hT3, hT4, hk, ← hyd, hMo, ← hA13, ← hA12, ← hA11, ← hA10, ← hA9, ← hA8, ← hA7, ← hA6, ← hA5, ← hA4, ← hA3, ← hA2, ← hA1, ← hWk]; rfl)
  clear hA1 hA2 hA3 hA4 hA5 hA6 hA7 hA8 hA9 hA10 hA11 hA12 hA13
  clear hWk hMo hyd hY hT1 hT2 hT3 hT4
  go_enter Tryz.func62, Tryz.ntmps62
  go_wp2_with (go_at_call 92; refine Calls.mono (hC _) ?_; rintro e w2 ⟨rfl, rfl⟩)
  go_region_with (first
    | (go_at_call 93; refine Calls.mono (c1 _ hP.drew) ?_; rintro e w3 ⟨rfl, hb3⟩; have hP3 := hP.drew.keep hb3)
    | (go_at_call 94; refine Calls.mono (cy _ hP3) ?_; rintro e w4 ⟨rfl, hb4⟩))
  have hP4 := hP3.keep hb4
  go_wp2_with fail
  refine Calls.mono (c2 _ hP4) ?_
  rintro e w5 ⟨rfl, hb5⟩
  have hP5 := hP4.keep hb5
  go_wp2_with fail
  refine Calls.mono (c3 _ hP5) ?_
  rintro e w6 ⟨rfl, hb6⟩
  have hP6 := hP5.keep hb6
  go_wp2_with fail
  refine Calls.mono (c4 _ hP6) ?_
  rintro e w7 ⟨rfl, hb7⟩
  go_wp2_with fail
  go_ret2
  rw [H.out]
  exact ⟨rfl, (((((Below.refl _ _).drew.trans hb3).trans (hb4.mono hb3.size)).trans (hb5.mono (Nat.le_trans hb3.size hb4.size))).trans (hb6.mono (Nat.le_trans (Nat.le_trans hb3.size hb4.size) hb5.size))).trans (hb7.mono (Nat.le_trans (Nat.le_trans (Nat.le_trans hb3.size hb4.size) hb5.size) hb6.size))⟩
end Go.Proofs.YtcoghpokkhjhgaaGreatDoor
