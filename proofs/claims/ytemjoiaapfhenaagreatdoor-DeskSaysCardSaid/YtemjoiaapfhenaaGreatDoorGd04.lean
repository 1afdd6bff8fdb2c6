/- WDate, WDtp, WDtpR, WDays -/
import Derived.Test.YtemjoiaapfhenaaGreatDoorChecked
import Derived.Test.YtemjoiaapfhenaaGreatDoorGd00
import Derived.Test.YtemjoiaapfhenaaGreatDoorGd02
import Derived.Test.YtemjoiaapfhenaaGreatDoorGd01

/- WDate -/
section
namespace Go.Proofs.YtemjoiaapfhenaaGreatDoor
open Go.RowKit Go.Larder
set_option linter.unusedVariables false
set_option linter.unusedSimpArgs false

theorem w_leapR (y : Int) (h0 : 0 ≤ y) (w : World) :
    Calls Tryz.prog 140 #[.int .i64 y] w fun e w' => e = .returned (.bool (lp y)) ∧ w = w' := by
  cases h4 : (y % 400 == 0) <;> cases h1 : (y % 100 == 0) <;> cases h2 : (y % 4 == 0) <;>
    (have H := Lib.hid (show lp y = _ from by unfold lp; rw [h4, h1, h2])
     go_enter Tryz.func140, Tryz.ntmps140
     go_wp2_with fail
     go_ret
     exact ⟨ret_bool (by rw [H.out]; rfl), rfl⟩)

theorem w_isLeap (y : Int) (h0 : 0 ≤ y) (w : World) :
    Calls Tryz.prog 203 #[.int .i64 y] w fun e w' => e = .returned (.bool (lp y)) ∧ w = w' := by
  cases h4 : (y % 400 == 0) <;> cases h1 : (y % 100 == 0) <;> cases h2 : (y % 4 == 0) <;>
    (have H := Lib.hid (show lp y = _ from by rw [← lp_eq, h4, h1, h2])
     go_enter Tryz.func203, Tryz.ntmps203
     go_wp2_with fail
     go_ret
     exact ⟨ret_bool (by rw [H.out]; rfl), rfl⟩)

theorem w_monthDays (y m : Int) (h0 : 0 ≤ y) (h1 : 1 ≤ m) (h2 : m ≤ 12) (w : World) :
    Calls Tryz.prog 165 #[.int .i64 y, .int .i64 m] w fun e w' => e = .returned (.int .i64 (md y (m - 1).toNat)) ∧ w = w' := by
  have : m = 1 ∨ m = 2 ∨ m = 3 ∨ m = 4 ∨ m = 5 ∨ m = 6 ∨ m = 7 ∨ m = 8 ∨ m = 9 ∨ m = 10 ∨ m = 11 ∨ m = 12 := by omega
  rcases this with rfl | rfl | rfl | rfl | rfl | rfl | rfl | rfl | rfl | rfl | rfl | rfl
  case inr.inl =>
    have H := Lib.hid (show md y ((2 : Int) - 1).toNat = 28 + (if lp y then 1 else 0) from rfl)
    cases hl : lp y
    all_goals
      go_enter Tryz.func165, Tryz.ntmps165
      go_wp2_with (go_at_call 203; refine (w_isLeap _ (by omega) _).mono ?_; rintro e w' ⟨rfl, rfl⟩)
      go_ret
      exact ⟨ret_int (by rw [H.out, hl]; rfl), rfl⟩
  all_goals
    go_enter Tryz.func165, Tryz.ntmps165
    go_wp2_with fail
    go_ret
    exact ⟨rfl, rfl⟩

/-- A month's list lies in new memory. -/
def MonthsAt (y : Int) (w : World) (e : Ending) (w' : World) : Prop :=
  ∃ g : Nat, e = .returned (.slice (some ⟨g, 0, none⟩) 12 12) ∧ (∀ m : Nat, m < 12 → w'.cell? ⟨g, m, none⟩ = some (.int .i64 (md y m))) ∧ Below w.heap.size w w'

theorem w_monthDaysR (y : Int) (h0 : 0 ≤ y) (w : World) :
    Calls Tryz.prog 141 #[.int .i64 y] w (MonthsAt y w) := by
  have H := Lib.hid (show lpI y = (if lp y then 1 else 0) from rfl)
  cases hl : lp y
  all_goals
    go_enter Tryz.func141, Tryz.ntmps141
    go_wp2_with (go_at_call 140; refine (w_leapR _ (by omega) _).mono ?_; rintro e w' ⟨rfl, rfl⟩)
    go_ret
    refine ⟨w.heap.size, rfl, ?_, by go_grown⟩
    refine months ?_ ?_ ?_ ?_ ?_ ?_ ?_ ?_ ?_ ?_ ?_ ?_ <;> simp [md, H.out, hl]

theorem w_Civil (n y r : Int) (m : Nat) (h : IsCivil n y m r) (hn : n ≤ 2932896) (w : World) :
    Calls Tryz.prog 108 #[.int .i64 n] w fun e w' => e = .returned (.tuple #[.int .i64 y, .int .i64 ((m : Int) + 1), .int .i64 (r + 1), .int .i64 0]) ∧ w = w' := by
  have hf := h.formula
  have hy := h.y1 hn
  have h0 : 0 ≤ n := by have := h.eq; have := (cum_bd y m).1; have := h.r0; have := yd_mono h.y0; have : yd 1970 = 0 := by decide
                        omega
  have hy0 := h.y0
  have hm1 := h.m1
  clear h
  obtain ⟨h1, h2, h3, h4, h5, h6, h7, h8⟩ := hf
  have eE : (n + 719468) / 146097 = cE n := rfl
  have eD : (n + 719468) % 146097 = cD n := rfl
  have eY : (cD n - cD n / 1460 + cD n / 36524 - cD n / 146096) / 365 = cY n := rfl
  have eR : cD n - (cY n * 365 + cY n / 4 - cY n / 100) = cR n := rfl
  have eM : (5 * cR n + 2) / 153 = cM n := rfl
  have eF : cR n - (153 * cM n + 2) / 5 + 1 = cF n := rfl
  have hE0 : 0 ≤ cE n ∧ cE n ≤ 30 := by unfold cE cN; omega
  have hM0 : 0 ≤ cM n ∧ cM n ≤ 20 := by unfold cM; omega
  generalize cE n = E at *
  generalize cD n = D at *
  generalize cY n = Y at *
  generalize cR n = R at *
  generalize cM n = M at *
  generalize cF n = F at *
  obtain ⟨hE0, hE1⟩ := hE0
  obtain ⟨hM0, hM1⟩ := hM0
  have fin : ∀ a b c : Int, a = y → b = (m : Int) + 1 → c = r + 1 → Ending.returned (.tuple #[.int .i64 a, .int .i64 b, .int .i64 c, .int .i64 0]) = .returned (.tuple #[.int .i64 y, .int .i64 ((m : Int) + 1), .int .i64 (r + 1), .int .i64 0]) := by rintro a b c rfl rfl rfl; rfl
  have Fin := Lib.hid fin
  have H1 := Lib.hid h1
  clear fin h1
  rcases h8 with ⟨g1, g2, g3⟩ | ⟨g1, g2, g3⟩
  · have H2 := Lib.hid g2
    have H3 := Lib.hid g3
    have hM : M + 3 ≤ 12 := by omega
    clear g2 g3
    go_enter Tryz.func108, Tryz.ntmps108
    go_wp2_with fail
    go_returns
    exact ⟨Fin.out _ _ _ (by have := H3.out; omega) (by have := H2.out; omega) H1.out, rfl⟩
  · have H2 := Lib.hid g2
    have H3 := Lib.hid g3
    have hM : 12 < M + 3 := by omega
    clear g2 g3
    go_enter Tryz.func108, Tryz.ntmps108
    go_wp2_with fail
    go_returns
    exact ⟨Fin.out _ _ _ (by have := H3.out; omega) (by have := H2.out; omega) H1.out, rfl⟩
theorem ret_civil {a b c y m r : Int} (h1 : a = y) (h2 : b = m) (h3 : c = r) : Ending.returned (.tuple #[.int .i64 a, .int .i64 b, .int .i64 c, .int .i64 0]) = .returned (.tuple #[.int .i64 y, .int .i64 m, .int .i64 r, .int .i64 0]) := by subst h1 h2 h3; rfl

theorem w_CivilR (n y r : Int) (m : Nat) (h : IsCivil n y m r) (hn : n ≤ 2932896) (w : World) :
    Calls Tryz.prog 77 #[.int .i64 n] w fun e w' => e = .returned (.tuple #[.int .i64 y, .int .i64 ((m : Int) + 1), .int .i64 (r + 1), .int .i64 0]) ∧ Below w.heap.size w w' := by
  have hy := h.y1 hn
  have hy0 := h.y0
  have hm1 := h.m1
  have h70 : yd 1970 = 0 := by decide
  have h0 : 0 ≤ n := by have := h.eq; have := (cum_bd y m).1; have := h.r0; have := yd_mono h.y0; omega
  have H70 := Lib.hid h70
  have HC := Lib.hid h
  clear h h70
  go_enter Tryz.func77, Tryz.ntmps77
  go_wp2_with (go_at_call 76; refine (w_outside _ _ _ _).mono ?_; rintro e w' ⟨rfl, rfl⟩)
  go_loop [0, 6] (fun n' y' => ∃ yy : Int, y' = .int .i64 yy ∧ n' = .int .i64 (n - yd yy) ∧ 1970 ≤ yy ∧ yy ≤ y) (fun _ y' => (9999 - intOf y').toNat)
  case atStart => exact ⟨1970, rfl, by rw [H70.out]; simp, by omega, hy0⟩
  case round =>
    obtain ⟨yy, rfl, rfl, hyy0, hyy1⟩ := hrel
    have hd0 : 0 ≤ yd yy := by have := yd_mono hyy0; have := H70.out; omega
    have hd1 : yd yy ≤ n := by have := yd_mono hyy1; have := HC.out.eq; have := (cum_bd y m).1; have := HC.out.r0; omega
    have Hs := Lib.hid (yd_succ yy)
    by_cases hlt : yy < y
    · have hge : 365 + lpI yy ≤ n - yd yy := by have := yd_step hlt; have := HC.out.eq; have := (cum_bd y m).1; have := HC.out.r0; omega
      cases hl : lp yy
      · have Hl := Lib.hid (show lpI yy = 0 from by simp [lpI, hl])
        have hge' : 365 ≤ n - yd yy := by rw [Hl.out] at hge; omega
        clear hge
        go_wp2_with (go_at_call 140; refine (w_leapR _ (by omega) _).mono ?_; rintro e w' ⟨rfl, rfl⟩)
        go_round
        case rel => exact ⟨yy + 1, rfl, by rw [Hs.out, Hl.out]; go_num, by omega, by omega⟩
        case measure => simp [intOf]; omega
      · have Hl := Lib.hid (show lpI yy = 1 from by simp [lpI, hl])
        have hge' : 366 ≤ n - yd yy := by rw [Hl.out] at hge; omega
        clear hge
        go_wp2_with (go_at_call 140; refine (w_leapR _ (by omega) _).mono ?_; rintro e w' ⟨rfl, rfl⟩)
        go_round
        case rel => exact ⟨yy + 1, rfl, by rw [Hs.out, Hl.out]; go_num, by omega, by omega⟩
        case measure => simp [intOf]; omega
    · obtain rfl : yy = y := by omega
      have hbd : n - yd yy < 365 + lpI yy := by have := cum_top yy m hm1; have := HC.out.eq; have := HC.out.r1; omega
      cases hl : lp yy
      · have hlt2 : n - yd yy < 365 := by simp only [lpI, hl] at hbd; simp at hbd; omega
        have hltd : decide (n - yd yy < 365) = true := by simpa using hlt2
        clear hbd Hs
        go_wp2_with (go_at_call 140; refine (w_leapR _ (by omega) _).mono ?_; rintro e w' ⟨rfl, rfl⟩)
        go_loopw [0, 8] (fun n' m' wr => ∃ k : Nat, m' = .int .i64 k ∧ n' = .int .i64 (n - yd yy - cum yy k) ∧ k ≤ m ∧ Below w.heap.size w wr) (fun _ m' _ => 12 - (intOf m').toNat)
        case atStart => exact ⟨0, rfl, by simp [cum], by omega, Below.refl _ _⟩
        case round =>
          obtain ⟨k, rfl, rfl, hk, hbel⟩ := hrel
          have hc0 := (cum_bd yy k).1
          have hc1 := (cum_bd yy k).2
          have hm0 := (md_bd yy k).1
          have hm2 := (md_bd yy k).2
          by_cases hlt : k < m
          · have hge : md yy k ≤ n - yd yy - cum yy k := by have := cum_step yy k m hlt hm1; have := HC.out.eq; have := HC.out.r0; omega
            have Hcs := Lib.hid (cum_succ yy k (by omega))
            go_wp2_with (go_at_call 141; refine (w_monthDaysR _ (by omega) _).mono ?_; rintro e w1 ⟨g, rfl, hc, hb⟩; have hcc := hc k (by omega); have hbel := hbel.trans (hb.mono hbel.size); clear hc hb)
            go_roundw
            case rel => exact ⟨k + 1, by go_num, by rw [Hcs.out]; go_num, by omega, hbel⟩
            case measure => simp [intOf]; omega
          · obtain rfl : k = m := by omega
            have hge : n - yd yy - cum yy k < md yy k := by have := HC.out.eq; have := HC.out.r1; omega
            go_wp2_with (go_at_call 141; refine (w_monthDaysR _ (by omega) _).mono ?_; rintro e w1 ⟨g, rfl, hc, hb⟩; have hcc := hc k (by omega); have hbel := hbel.trans (hb.mono hbel.size); clear hc hb)
            go_returns
            exact ⟨ret_civil rfl rfl (by have := HC.out.eq; omega), hbel⟩
      · have hlt2 : n - yd yy < 366 := by simp only [lpI, hl] at hbd; simp at hbd; omega
        have hltd : decide (n - yd yy < 366) = true := by simpa using hlt2
        clear hbd Hs
        go_wp2_with (go_at_call 140; refine (w_leapR _ (by omega) _).mono ?_; rintro e w' ⟨rfl, rfl⟩)
        go_loopw [0, 8] (fun n' m' wr => ∃ k : Nat, m' = .int .i64 k ∧ n' = .int .i64 (n - yd yy - cum yy k) ∧ k ≤ m ∧ Below w.heap.size w wr) (fun _ m' _ => 12 - (intOf m').toNat)
        case atStart => exact ⟨0, rfl, by simp [cum], by omega, Below.refl _ _⟩
        case round =>
          obtain ⟨k, rfl, rfl, hk, hbel⟩ := hrel
          have hc0 := (cum_bd yy k).1
          have hc1 := (cum_bd yy k).2
          have hm0 := (md_bd yy k).1
          have hm2 := (md_bd yy k).2
          by_cases hlt : k < m
          · have hge : md yy k ≤ n - yd yy - cum yy k := by have := cum_step yy k m hlt hm1; have := HC.out.eq; have := HC.out.r0; omega
            have Hcs := Lib.hid (cum_succ yy k (by omega))
            go_wp2_with (go_at_call 141; refine (w_monthDaysR _ (by omega) _).mono ?_; rintro e w1 ⟨g, rfl, hc, hb⟩; have hcc := hc k (by omega); have hbel := hbel.trans (hb.mono hbel.size); clear hc hb)
            go_roundw
            case rel => exact ⟨k + 1, by go_num, by rw [Hcs.out]; go_num, by omega, hbel⟩
            case measure => simp [intOf]; omega
          · obtain rfl : k = m := by omega
            have hge : n - yd yy - cum yy k < md yy k := by have := HC.out.eq; have := HC.out.r1; omega
            go_wp2_with (go_at_call 141; refine (w_monthDaysR _ (by omega) _).mono ?_; rintro e w1 ⟨g, rfl, hc, hb⟩; have hcc := hc k (by omega); have hbel := hbel.trans (hb.mono hbel.size); clear hc hb)
            go_returns
            exact ⟨ret_civil rfl rfl (by have := HC.out.eq; omega), hbel⟩
end Go.Proofs.YtemjoiaapfhenaaGreatDoor
end

/- WDtp -/
section
namespace Go.Proofs.YtemjoiaapfhenaaGreatDoor
open Go.RowKit Go.Larder
set_option linter.unusedVariables false
set_option linter.unusedSimpArgs false

theorem w_two (n : Int) (h : 0 ≤ n ∧ n < 100) (w : World) (hP : PW w) :
    Calls Tryz.prog 109 #[.int .i64 n] w fun e w' => e = .returned (S (twoL n)) ∧ Below w.heap.size w w' := by
  obtain ⟨h0, h1⟩ := h
  have hl := Lib.itoa_length_le n (by omega) (by omega)
  have He := Lib.hid (itoa_nn h0)
  by_cases hlt : n < 10
  · have H := Lib.hid (show twoL n = 48 :: Lib.itoa n from by unfold twoL; rw [if_pos hlt, itoa_nn h0])
    go_enter Tryz.func109, Tryz.ntmps109
    go_wp2_with (go_at_call 12; refine Calls.mono (w_Itoa _ ?_ _ hP) ?_; omega; rintro e w2 ⟨rfl, hb2⟩)
    go_ret
    exact ⟨by rw [H.out]; rfl, hb2⟩
  · have hge : 10 ≤ n := by omega
    have H := Lib.hid (show twoL n = Lib.itoa n from by unfold twoL; rw [if_neg hlt, itoa_nn h0])
    go_enter Tryz.func109, Tryz.ntmps109
    go_wp2_with (go_at_call 12; refine Calls.mono (w_Itoa _ ?_ _ hP) ?_; omega; rintro e w2 ⟨rfl, hb2⟩)
    go_ret
    exact ⟨by rw [H.out]; rfl, hb2⟩

theorem two_len (n : Int) (h : 0 ≤ n ∧ n < 100) : (twoL n).length = 2 := dec_two n h.1 h.2

theorem run_slice_str {P : Program} (t : TypeId) (ht : P.underlying t = some .string) (s : List UInt8) (lo hi : Int) (h0 : 0 ≤ lo) (h1 : lo ≤ hi) (h2 : hi ≤ s.length) (w : World) :
    (Instr.slice t (.string ⟨s.toArray⟩) (some (.int .i64 lo)) (some (.int .i64 hi)) none).run P w = .ok (S ((s.drop lo.toNat).take (hi.toNat - lo.toNat))) w := by
  have hsz : (⟨s.toArray⟩ : ByteArray).size = s.length := ba_size s
  have e1 : hi.toNat ≤ s.length := by omega
  have e2 : lo ≤ (hi.toNat : Int) := by omega
  have e3 : lo ≤ max hi 0 := by omega
  simp [Instr.slice, Sem.run_bind, run_underlying ht, Instr.sliceBounds, Instr.sliceBound, asIntOf, hsz, h0, h2, show 0 ≤ hi from by omega, e2, e3, Result.andThen]
  rw [ba_extract]

set_option maxHeartbeats 1000000 in
theorem w_Print (n y r : Int) (m : Nat) (h : IsCivil (n / 86400) y m r) (hn0 : 0 ≤ n) (hn : n ≤ 253402300799) (w : World) (hP : PW w) :
    Calls Tryz.prog 48 #[.int .i64 n] w fun e w' => e = .returned (.tuple #[S (dateL n y m r), .int .i64 0]) ∧ Below w.heap.size w w' := by
  have hq : n / 86400 ≤ 2932896 := by omega
  have hq0 : 0 ≤ n / 86400 := by omega
  have hy0 := h.y0
  have hy1 := h.y1 hq
  have hm1 := h.m1
  have hr0 := h.r0
  have hr1 : r < 31 := by have := h.r1; have := (md_bd y m); omega
  have hC := fun w => w_Civil _ _ _ _ h hq w
  clear h
  have hs0 : 0 ≤ n % 86400 := by omega
  have hs1 : n % 86400 < 86400 := by omega
  obtain ⟨T1, hT1⟩ : ∃ x, twoL (r + 1) = x := ⟨_, rfl⟩
  obtain ⟨T2, hT2⟩ : ∃ x, twoL (n % 86400 / 3600) = x := ⟨_, rfl⟩
  obtain ⟨T3, hT3⟩ : ∃ x, twoL (n % 86400 / 60 % 60) = x := ⟨_, rfl⟩
  obtain ⟨T4, hT4⟩ : ∃ x, twoL (n % 60) = x := ⟨_, rfl⟩
  have c1 := fun w hP => w_two (r + 1) (by omega) w hP
  have c2 := fun w hP => w_two (n % 86400 / 3600) (by omega) w hP
  have c3 := fun w hP => w_two (n % 86400 / 60 % 60) (by omega) w hP
  have c4 := fun w hP => w_two (n % 60) (by omega) w hP
  have cy := fun w hP => w_Itoa y (by omega) w hP
  have hl1 : T1.length ≤ 2 := by rw [← hT1]; exact Nat.le_of_eq (two_len (r + 1) (by omega))
  have hl2 : T2.length ≤ 2 := by rw [← hT2]; exact Nat.le_of_eq (two_len _ (by omega))
  have hl3 : T3.length ≤ 2 := by rw [← hT3]; exact Nat.le_of_eq (two_len _ (by omega))
  have hl4 : T4.length ≤ 2 := by rw [← hT4]; exact Nat.le_of_eq (two_len _ (by omega))
  have hly : (Lib.itoa y).length ≤ 21 := by have := Lib.itoa_length_le y (by omega) (by omega); omega
  rw [hT1] at c1
  rw [hT2] at c2
  rw [hT3] at c3
  rw [hT4] at c4
  have hyd := itoa_nn (show 0 ≤ y by omega)
  obtain ⟨Y, hY⟩ : ∃ x, Lib.itoa y = x := ⟨_, rfl⟩
  rw [hY] at cy hly hyd
  obtain ⟨k, hk⟩ : ∃ k : Nat, n / 86400 % 7 = k := ⟨(n / 86400 % 7).toNat, by omega⟩
  have hk7 : k < 7 := by omega
  have hw1 : IntKind.i64.wrap ((k : Int) * 3 + 3) = (k : Int) * 3 + 3 := by simp [IntKind.wrap, IntKind.bits, IntKind.signed]; omega
  have hw2 : IntKind.i64.wrap (3 * ((m : Int) + 1)) = 3 * ((m : Int) + 1) := by simp [IntKind.wrap, IntKind.bits, IntKind.signed]; omega
  have hw3 : IntKind.i64.wrap (3 * ((m : Int) + 1) - 3) = 3 * (m : Int) := by simp [IntKind.wrap, IntKind.bits, IntKind.signed]; omega
  obtain ⟨Wk, hWk⟩ : ∃ x, wkD k = x := ⟨_, rfl⟩
  obtain ⟨Mo, hMo⟩ : ∃ x, moD m = x := ⟨_, rfl⟩
  have hlw : Wk.length ≤ 3 := by rw [← hWk]; exact Nat.le_of_eq (wk_len k hk7)
  have hlm : Mo.length ≤ 3 := by rw [← hMo]; exact Nat.le_of_eq (mo_len m hm1)
  have sw : ∀ w, (Instr.slice 9 (.string ⟨#[84, 104, 117, 70, 114, 105, 83, 97, 116, 83, 117, 110, 77, 111, 110, 84, 117, 101, 87, 101, 100]⟩) (some (.int .i64 ((k : Int) * 3))) (some (.int .i64 ((k : Int) * 3 + 3))) none).run Tryz.prog w = .ok (.string ⟨Wk.toArray⟩) w := by
    intro w
    refine (run_slice_str 9 Tryz.underlying9 weekL ((k : Int) * 3) ((k : Int) * 3 + 3) (by omega) (by omega) (by show _ ≤ ((21 : Nat) : Int); omega) w).trans ?_
    rw [← hWk]
    unfold wkD
    rw [show ((k : Int) * 3 + 3).toNat - ((k : Int) * 3).toNat = 3 from by omega, show ((k : Int) * 3).toNat = 3 * k from by omega]
  have sm : ∀ w, (Instr.slice 9 (.string ⟨#[74, 97, 110, 70, 101, 98, 77, 97, 114, 65, 112, 114, 77, 97, 121, 74, 117, 110, 74, 117, 108, 65, 117, 103, 83, 101, 112, 79, 99, 116, 78, 111, 118, 68, 101, 99]⟩) (some (.int .i64 (3 * (m : Int)))) (some (.int .i64 (3 * ((m : Int) + 1)))) none).run Tryz.prog w = .ok (.string ⟨Mo.toArray⟩) w := by
    intro w
    refine (run_slice_str 9 Tryz.underlying9 monL (3 * (m : Int)) (3 * ((m : Int) + 1)) (by omega) (by omega) (by show _ ≤ ((36 : Nat) : Int); omega) w).trans ?_
    rw [← hMo]
    unfold moD
    rw [show (3 * ((m : Int) + 1)).toNat - (3 * (m : Int)).toNat = 3 from by omega, show (3 * (m : Int)).toNat = 3 * m from by omega]
  obtain ⟨A1, hA1⟩ : ∃ x, Wk ++ [44, 32] = x := ⟨_, rfl⟩
  have l1 : A1.length ≤ 5 := by rw [← hA1, List.length_append]; (try simp only [List.length_cons, List.length_nil]); omega
  have a1 : ∀ w, (Op.stringOp .add ⟨Wk.toArray⟩ ⟨#[44, 32]⟩).run Tryz.prog w = .ok (.string ⟨A1.toArray⟩) w := fun w => by rw [← hA1]; exact run_string_add_lists w Wk [44, 32] (by omega) (by first | omega | simp)
  obtain ⟨A2, hA2⟩ : ∃ x, A1 ++ T1 = x := ⟨_, rfl⟩
  have l2 : A2.length ≤ 7 := by rw [← hA2, List.length_append]; (try simp only [List.length_cons, List.length_nil]); omega
  have a2 : ∀ w, (Op.stringOp .add ⟨A1.toArray⟩ ⟨T1.toArray⟩).run Tryz.prog w = .ok (.string ⟨A2.toArray⟩) w := fun w => by rw [← hA2]; exact run_string_add_lists w A1 T1 (by omega) (by first | omega | simp)
  obtain ⟨A3, hA3⟩ : ∃ x, A2 ++ [32] = x := ⟨_, rfl⟩
  have l3 : A3.length ≤ 8 := by rw [← hA3, List.length_append]; (try simp only [List.length_cons, List.length_nil]); omega
  have a3 : ∀ w, (Op.stringOp .add ⟨A2.toArray⟩ ⟨#[32]⟩).run Tryz.prog w = .ok (.string ⟨A3.toArray⟩) w := fun w => by rw [← hA3]; exact run_string_add_lists w A2 [32] (by omega) (by first | omega | simp)
  obtain ⟨A4, hA4⟩ : ∃ x, A3 ++ Mo = x := ⟨_, rfl⟩
  have l4 : A4.length ≤ 11 := by rw [← hA4, List.length_append]; (try simp only [List.length_cons, List.length_nil]); omega
  have a4 : ∀ w, (Op.stringOp .add ⟨A3.toArray⟩ ⟨Mo.toArray⟩).run Tryz.prog w = .ok (.string ⟨A4.toArray⟩) w := fun w => by rw [← hA4]; exact run_string_add_lists w A3 Mo (by omega) (by first | omega | simp)
  obtain ⟨A5, hA5⟩ : ∃ x, A4 ++ [32] = x := ⟨_, rfl⟩
  have l5 : A5.length ≤ 12 := by rw [← hA5, List.length_append]; (try simp only [List.length_cons, List.length_nil]); omega
  have a5 : ∀ w, (Op.stringOp .add ⟨A4.toArray⟩ ⟨#[32]⟩).run Tryz.prog w = .ok (.string ⟨A5.toArray⟩) w := fun w => by rw [← hA5]; exact run_string_add_lists w A4 [32] (by omega) (by first | omega | simp)
  obtain ⟨A6, hA6⟩ : ∃ x, A5 ++ Y = x := ⟨_, rfl⟩
  have l6 : A6.length ≤ 33 := by rw [← hA6, List.length_append]; (try simp only [List.length_cons, List.length_nil]); omega
  have a6 : ∀ w, (Op.stringOp .add ⟨A5.toArray⟩ ⟨Y.toArray⟩).run Tryz.prog w = .ok (.string ⟨A6.toArray⟩) w := fun w => by rw [← hA6]; exact run_string_add_lists w A5 Y (by omega) (by first | omega | simp)
  obtain ⟨A7, hA7⟩ : ∃ x, A6 ++ [32] = x := ⟨_, rfl⟩
  have l7 : A7.length ≤ 34 := by rw [← hA7, List.length_append]; (try simp only [List.length_cons, List.length_nil]); omega
  have a7 : ∀ w, (Op.stringOp .add ⟨A6.toArray⟩ ⟨#[32]⟩).run Tryz.prog w = .ok (.string ⟨A7.toArray⟩) w := fun w => by rw [← hA7]; exact run_string_add_lists w A6 [32] (by omega) (by first | omega | simp)
  obtain ⟨A8, hA8⟩ : ∃ x, A7 ++ T2 = x := ⟨_, rfl⟩
  have l8 : A8.length ≤ 36 := by rw [← hA8, List.length_append]; (try simp only [List.length_cons, List.length_nil]); omega
  have a8 : ∀ w, (Op.stringOp .add ⟨A7.toArray⟩ ⟨T2.toArray⟩).run Tryz.prog w = .ok (.string ⟨A8.toArray⟩) w := fun w => by rw [← hA8]; exact run_string_add_lists w A7 T2 (by omega) (by first | omega | simp)
  obtain ⟨A9, hA9⟩ : ∃ x, A8 ++ [58] = x := ⟨_, rfl⟩
  have l9 : A9.length ≤ 37 := by rw [← hA9, List.length_append]; (try simp only [List.length_cons, List.length_nil]); omega
  have a9 : ∀ w, (Op.stringOp .add ⟨A8.toArray⟩ ⟨#[58]⟩).run Tryz.prog w = .ok (.string ⟨A9.toArray⟩) w := fun w => by rw [← hA9]; exact run_string_add_lists w A8 [58] (by omega) (by first | omega | simp)
  obtain ⟨A10, hA10⟩ : ∃ x, A9 ++ T3 = x := ⟨_, rfl⟩
  have l10 : A10.length ≤ 39 := by rw [← hA10, List.length_append]; (try simp only [List.length_cons, List.length_nil]); omega
  have a10 : ∀ w, (Op.stringOp .add ⟨A9.toArray⟩ ⟨T3.toArray⟩).run Tryz.prog w = .ok (.string ⟨A10.toArray⟩) w := fun w => by rw [← hA10]; exact run_string_add_lists w A9 T3 (by omega) (by first | omega | simp)
  obtain ⟨A11, hA11⟩ : ∃ x, A10 ++ [58] = x := ⟨_, rfl⟩
  have l11 : A11.length ≤ 40 := by rw [← hA11, List.length_append]; (try simp only [List.length_cons, List.length_nil]); omega
  have a11 : ∀ w, (Op.stringOp .add ⟨A10.toArray⟩ ⟨#[58]⟩).run Tryz.prog w = .ok (.string ⟨A11.toArray⟩) w := fun w => by rw [← hA11]; exact run_string_add_lists w A10 [58] (by omega) (by first | omega | simp)
  obtain ⟨A12, hA12⟩ : ∃ x, A11 ++ T4 = x := ⟨_, rfl⟩
  have l12 : A12.length ≤ 42 := by rw [← hA12, List.length_append]; (try simp only [List.length_cons, List.length_nil]); omega
  have a12 : ∀ w, (Op.stringOp .add ⟨A11.toArray⟩ ⟨T4.toArray⟩).run Tryz.prog w = .ok (.string ⟨A12.toArray⟩) w := fun w => by rw [← hA12]; exact run_string_add_lists w A11 T4 (by omega) (by first | omega | simp)
  obtain ⟨A13, hA13⟩ : ∃ x, A12 ++ [32, 71, 77, 84] = x := ⟨_, rfl⟩
  have l13 : A13.length ≤ 46 := by rw [← hA13, List.length_append]; (try simp only [List.length_cons, List.length_nil]); omega
  have a13 : ∀ w, (Op.stringOp .add ⟨A12.toArray⟩ ⟨#[32, 71, 77, 84]⟩).run Tryz.prog w = .ok (.string ⟨A13.toArray⟩) w := fun w => by rw [← hA13]; exact run_string_add_lists w A12 [32, 71, 77, 84] (by omega) (by first | omega | simp)
  have H := Lib.hid (show dateL n y m r = A13 from by
    unfold dateL
    rw [show n % 86400 % 60 = n % 60 from by omega, hT1, hT2, hT3, hT4, hk, ← hyd, hMo, ← hA13, ← hA12, ← hA11, ← hA10, ← hA9, ← hA8, ← hA7, ← hA6, ← hA5, ← hA4, ← hA3, ← hA2, ← hA1, ← hWk]; rfl)
  clear hA1 hA2 hA3 hA4 hA5 hA6 hA7 hA8 hA9 hA10 hA11 hA12 hA13
  clear hWk hMo hyd hY hT1 hT2 hT3 hT4
  go_enter Tryz.func48, Tryz.ntmps48
  go_wp2_with (go_at_call 108; refine Calls.mono (hC _) ?_; rintro e w2 ⟨rfl, rfl⟩)
  go_region_with (first
    | (go_at_call 109; refine Calls.mono (c1 _ hP.drew) ?_; rintro e w3 ⟨rfl, hb3⟩; have hP3 := hP.drew.keep hb3)
    | (go_at_call 12; refine Calls.mono (cy _ hP3) ?_; rintro e w4 ⟨rfl, hb4⟩))
  have hP4 := hP3.keep hb4
  go_wp2_with fail
  refine Calls.mono (c2 _ hP4) ?_
  rintro e w5 ⟨rfl, hb5⟩
  have hP5 := hP4.keep hb5
  go_wp2_with fail
  refine Calls.mono (c3 _ hP5) ?_
  rintro e w6 ⟨rfl, hb6⟩
  have hP6 := hP5.keep hb6
  go_wp2_with fail
  refine Calls.mono (c4 _ hP6) ?_
  rintro e w7 ⟨rfl, hb7⟩
  go_wp2_with fail
  go_ret2
  rw [H.out]
  exact ⟨rfl, (((((Below.refl _ _).drew.trans hb3).trans (hb4.mono hb3.size)).trans (hb5.mono (Nat.le_trans hb3.size hb4.size))).trans (hb6.mono (Nat.le_trans (Nat.le_trans hb3.size hb4.size) hb5.size))).trans (hb7.mono (Nat.le_trans (Nat.le_trans (Nat.le_trans hb3.size hb4.size) hb5.size) hb6.size))⟩
end Go.Proofs.YtemjoiaapfhenaaGreatDoor
end

/- WDtpR -/
section
namespace Go.Proofs.YtemjoiaapfhenaaGreatDoor
open Go.RowKit Go.Larder
set_option linter.unusedVariables false
set_option linter.unusedSimpArgs false
/-- a number's digits, padded to k with zeros -/
def padL (n : Int) (k : Nat) : List UInt8 := List.replicate (k - (Lib.decDigits n.toNat).length) 48 ++ Lib.decDigits n.toNat

theorem pad_two (n : Int) (h0 : 0 ≤ n) (h1 : n < 100) : padL n 2 = twoL n := by
  unfold padL twoL
  split
  · rw [dec_lt n h0 (by omega)]; rfl
  · rw [dec_ge n (by omega) h1]; rfl
theorem pad_four (n : Int) (h0 : 1000 ≤ n) (h1 : n ≤ 9999) : padL n 4 = Lib.decDigits n.toNat := by
  unfold padL; rw [dec_four n h0 h1]; rfl

def strLn : Value → Nat
  | .string b => b.size
  | _ => 0
theorem strLn_S (l : List UInt8) : strLn (S l) = l.length := by simp [strLn, S, ByteArray.size]
theorem w_pad (n : Int) (h0 : 0 ≤ n) (h1 : n ≤ 9999) (k : Nat) (hk : k ≤ 4) (w : World) :
    Calls Tryz.prog 78 #[.int .i64 n, .int .i64 k] w fun e w' => e = .returned (S (padL n k)) ∧ Below w.heap.size w w' := by
  have hl : (Lib.decDigits n.toNat).length ≤ 21 := dig_len h0 (by omega)
  have HP := Lib.hid (show padL n k = List.replicate (k - (Lib.decDigits n.toNat).length) 48 ++ Lib.decDigits n.toNat from rfl)
  generalize hg : Lib.decDigits n.toNat = D at hl HP
  have hD := fun w => w_Dig n h0 (by omega) w
  rw [hg] at hD
  clear hg
  go_enter Tryz.func78, Tryz.ntmps78
  go_wp2_with (go_at_call 10; refine Calls.mono (hD _) ?_; rintro e w2 ⟨rfl, hb2⟩)
  go_loop [5] (fun s => ∃ j : Nat, s = S (List.replicate j 48 ++ D) ∧ j ≤ k - D.length) (fun s => k - strLn s)
  case atStart => exact ⟨0, rfl, by omega⟩
  case round =>
    obtain ⟨j, rfl, hj⟩ := hrel
    have hlen : (List.replicate j (48 : UInt8) ++ D).length = j + D.length := by simp
    by_cases hlt : j + D.length < k
    · have hI : ((j + D.length : Nat) : Int) < k := by omega
      go_wp2_with fail
      go_round
      case rel => exact ⟨j + 1, by simp [List.replicate_succ], by omega⟩
      case measure => simp only [strLn_S, List.length_append, List.length_replicate, List.length_cons]; omega
    · have hI : ¬ ((j + D.length : Nat) : Int) < k := by omega
      go_wp2_with fail
      go_ret
      exact ⟨by rw [HP.out, show j = k - D.length by omega]; rfl, hb2⟩

theorem w_pad2 (n : Int) (h0 : 0 ≤ n) (h1 : n < 100) (w : World) :
    Calls Tryz.prog 78 #[.int .i64 n, .int .i64 2] w fun e w' => e = .returned (S (twoL n)) ∧ Below w.heap.size w w' := by
  rw [← pad_two n h0 h1]; exact w_pad n h0 (by omega) 2 (by omega) w
theorem w_pad4 (n : Int) (h0 : 1000 ≤ n) (h1 : n ≤ 9999) (w : World) :
    Calls Tryz.prog 78 #[.int .i64 n, .int .i64 4] w fun e w' => e = .returned (S (Lib.decDigits n.toNat)) ∧ Below w.heap.size w w' := by
  rw [← pad_four n h0 h1]; exact w_pad n (by omega) (by omega) 4 (by omega) w
def padS (n k : Int) : List UInt8 := if k = 4 then Lib.decDigits n.toNat else twoL n
theorem padS2 (n : Int) : padS n 2 = twoL n := rfl
theorem padS4 (n : Int) : padS n 4 = Lib.decDigits n.toNat := rfl
theorem w_padB (n k : Int) (h : k = 2 ∧ 0 ≤ n ∧ n < 100 ∨ k = 4 ∧ 1000 ≤ n ∧ n ≤ 9999) (w : World) :
    Calls Tryz.prog 78 #[.int .i64 n, .int .i64 k] w fun e w' => e = .returned (S (padS n k)) ∧ Below w.heap.size w w' := by
  rcases h with ⟨rfl, h0, h1⟩ | ⟨rfl, h0, h1⟩
  · exact w_pad2 n h0 h1 w
  · exact w_pad4 n h0 h1 w
theorem size_alloc1 (w : World) (o : Obj) : (w.alloc o).heap.size = w.heap.size + 1 := by simp
theorem wk_get (k : Nat) (h : k < 7) : ([S [84, 104, 117], S [70, 114, 105], S [83, 97, 116], S [83, 117, 110], S [77, 111, 110], S [84, 117, 101], S [87, 101, 100]] : List Value)[k]? = some (S (wkD k)) := by
  have : k = 0 ∨ k = 1 ∨ k = 2 ∨ k = 3 ∨ k = 4 ∨ k = 5 ∨ k = 6 := by omega
  rcases this with rfl | rfl | rfl | rfl | rfl | rfl | rfl <;> rfl
theorem mo_get (k : Nat) (h : k < 12) : ([S [74, 97, 110], S [70, 101, 98], S [77, 97, 114], S [65, 112, 114], S [77, 97, 121], S [74, 117, 110], S [74, 117, 108], S [65, 117, 103], S [83, 101, 112], S [79, 99, 116], S [78, 111, 118], S [68, 101, 99]] : List Value)[k]? = some (S (moD k)) := by
  have : k = 0 ∨ k = 1 ∨ k = 2 ∨ k = 3 ∨ k = 4 ∨ k = 5 ∨ k = 6 ∨ k = 7 ∨ k = 8 ∨ k = 9 ∨ k = 10 ∨ k = 11 := by omega
  rcases this with rfl | rfl | rfl | rfl | rfl | rfl | rfl | rfl | rfl | rfl | rfl | rfl <;> rfl
set_option maxHeartbeats 4000000 in
theorem w_DatePrint (n y r : Int) (m : Nat) (h : IsCivil (n / 86400) y m r) (hn0 : 0 ≤ n) (hn : n ≤ 253402300799) (w : World) :
    Calls Tryz.prog 24 #[.int .i64 n] w fun e w' => e = .returned (.tuple #[S (dateL n y m r), .int .i64 0]) ∧ Below w.heap.size w w' := by
  have hq : n / 86400 ≤ 2932896 := by omega
  have hq0 : 0 ≤ n / 86400 := by omega
  have hy0 := h.y0
  have hy1 := h.y1 hq
  have hm1 := h.m1
  have hr0 := h.r0
  have hr1 : r < 31 := by have := h.r1; have := (md_bd y m); omega
  have hCv := Lib.hid h
  clear h
  obtain ⟨k, hk⟩ : ∃ k : Nat, n / 86400 % 7 = k := ⟨(n / 86400 % 7).toNat, by omega⟩
  have hk7 : k < 7 := by omega
  have HE := Lib.hid (show dateL n y m r = wkD k ++ 44 :: 32 :: (twoL (r + 1) ++ 32 :: (moD m ++ 32 :: (Lib.decDigits y.toNat ++ 32 :: (twoL (n / 3600 % 24) ++ 58 :: (twoL (n / 60 % 60) ++ 58 :: (twoL (n % 60) ++ [32, 71, 77, 84])))))) from by
    unfold dateL; rw [hk, show n % 86400 / 3600 = n / 3600 % 24 by omega, show n % 86400 / 60 % 60 = n / 60 % 60 by omega, show n % 86400 % 60 = n % 60 by omega, Int.toNat_natCast]; simp only [List.append_assoc, List.cons_append, List.nil_append])
  have hl1 := dec_two (r + 1) (by omega) (by omega)
  have hl2 := dec_four y (by omega) (by omega)
  have hl3 := dec_two (n / 3600 % 24) (by omega) (by omega)
  have hl4 := dec_two (n / 60 % 60) (by omega) (by omega)
  have hl5 := dec_two (n % 60) (by omega) (by omega)
  have hl6 := wk_len k hk7
  have hl7 := mo_len m hm1
  have hb1 : 0 ≤ n / 3600 % 24 ∧ n / 3600 % 24 < 24 := by omega
  have hb2 : 0 ≤ n / 60 % 60 ∧ n / 60 % 60 < 60 := by omega
  have hb3 : 0 ≤ n % 60 ∧ n % 60 < 60 := by omega
  have gk := wk_get k hk7
  have gm := mo_get m hm1
  have hout : decide (n < 0) = false := by simp; omega
  have hout2 : decide (253402300799 < n) = false := by simp; omega
  go_enter Tryz.func24, Tryz.ntmps24
  go_wp2_with (first
    | (go_at_call 76; refine (w_outside _ _ _ _).mono ?_; rintro e w2 ⟨rfl, rfl⟩)
    | (go_at_call 77; refine Calls.mono (w_CivilR _ _ _ _ hCv.out ?_ _) ?_; omega; rintro e w2 ⟨rfl, hb0⟩
       have bx1 := BoxAt.new w2 [S [84, 104, 117], S [70, 114, 105], S [83, 97, 116], S [83, 117, 110], S [77, 111, 110], S [84, 117, 101], S [87, 101, 100]] 9
       have q1 := bx1.cell gk
       have hA1 := hb0.alloc hb0.size (.cells #[S [84, 104, 117], S [70, 114, 105], S [83, 97, 116], S [83, 117, 110], S [77, 111, 110], S [84, 117, 101], S [87, 101, 100]] 9)
       have bx2 := BoxAt.new (w2.alloc (.cells #[S [84, 104, 117], S [70, 114, 105], S [83, 97, 116], S [83, 117, 110], S [77, 111, 110], S [84, 117, 101], S [87, 101, 100]] 9)) [S [74, 97, 110], S [70, 101, 98], S [77, 97, 114], S [65, 112, 114], S [77, 97, 121], S [74, 117, 110], S [74, 117, 108], S [65, 117, 103], S [83, 101, 112], S [79, 99, 116], S [78, 111, 118], S [68, 101, 99]] 9
       have q2 := bx2.cell gm
       rw [size_alloc1] at q2
       have hB := hA1.alloc hA1.size (.cells #[S [74, 97, 110], S [70, 101, 98], S [77, 97, 114], S [65, 112, 114], S [77, 97, 121], S [74, 117, 110], S [74, 117, 108], S [65, 117, 103], S [83, 101, 112], S [79, 99, 116], S [78, 111, 118], S [68, 101, 99]] 9))
    | (go_at_call 78; refine Calls.mono (w_padB _ _ ?_ _) ?_; omega; rintro e w3 ⟨he, hb3⟩; simp only [padS2, padS4] at he; subst he; have hB := hB.trans (hb3.mono hB.size)))
  go_returns
  refine ⟨by rw [HE.out]; rfl, ?_⟩
  clear bx1 bx2 q1 q2 hA1
  first | exact hB | (simp only [go_sem]; done)

theorem w_DatePrint_out (n : Int) (h : n < 0 ∨ 253402300799 < n) (w : World) :
    Calls Tryz.prog 24 #[.int .i64 n] w fun e w' => e = .returned (.tuple #[S [], .int .i64 1]) ∧ w = w' := by
  have hv := Lib.hid (show (decide (n < 0) || decide (253402300799 < n)) = true from by simpa using h)
  clear h
  go_enter Tryz.func24, Tryz.ntmps24
  go_wp2_with (go_at_call 76; refine (w_outside _ _ _ _).mono ?_; rw [hv.out]; rintro e w2 ⟨rfl, rfl⟩)
  go_returns
  exact ⟨rfl, rfl⟩
theorem w_Print_out (n : Int) (h : n < 0 ∨ 253402300799 < n) (w : World) :
    Calls Tryz.prog 48 #[.int .i64 n] w fun e w' => e = .returned (.tuple #[S [], .int .i64 1]) ∧ w = w' := by
  rcases h with h | h
  · go_enter Tryz.func48, Tryz.ntmps48
    go_wp2_with fail
    go_returns
    exact ⟨rfl, rfl⟩
  · have h0 : 0 ≤ n := by omega
    go_enter Tryz.func48, Tryz.ntmps48
    go_wp2_with fail
    go_returns
    exact ⟨rfl, rfl⟩
end Go.Proofs.YtemjoiaapfhenaaGreatDoor
end

/- WDays -/
section
namespace Go.Proofs.YtemjoiaapfhenaaGreatDoor
open Go.RowKit Go.Larder
set_option linter.unusedVariables false
set_option linter.unusedSimpArgs false

theorem w_yearDays (y : Int) (h0 : 1970 ≤ y) (h1 : y ≤ 9999) (w : World) :
    Calls Tryz.prog 146 #[.int .i64 y] w fun e w' => e = .returned (.int .i64 (yd y)) ∧ w = w' := by
  have H70 := Lib.hid (show yd 1970 = 0 from by decide)
  go_enter Tryz.func146, Tryz.ntmps146
  go_wp2_with fail
  go_loop [3, 4] (fun n' k' => ∃ k : Int, k' = .int .i64 k ∧ n' = .int .i64 (yd k) ∧ 1970 ≤ k ∧ k ≤ y) (fun _ k' => (9999 - intOf k').toNat)
  case atStart => exact ⟨1970, rfl, by rw [H70.out], by omega, h0⟩
  case round =>
    obtain ⟨k, rfl, rfl, hk0, hk1⟩ := hrel
    have hb := yd_bd hk0 (by omega)
    obtain ⟨hb0, hb1⟩ := hb
    have Hs := Lib.hid (yd_succ k)
    by_cases hlt : k < y
    · cases hl : lp k
      · have Hl := Lib.hid (show lpI k = 0 from by simp [lpI, hl])
        go_wp2_with (go_at_call 140; refine (w_leapR _ (by omega) _).mono ?_; rintro e w' ⟨rfl, rfl⟩)
        go_round
        case rel => exact ⟨k + 1, rfl, by (rw [Hs.out, Hl.out]) <;> go_num, by omega, by omega⟩
        case measure => simp [intOf]; omega
      · have Hl := Lib.hid (show lpI k = 1 from by simp [lpI, hl])
        go_wp2_with (go_at_call 140; refine (w_leapR _ (by omega) _).mono ?_; rintro e w' ⟨rfl, rfl⟩)
        go_round
        case rel => exact ⟨k + 1, rfl, by (rw [Hs.out, Hl.out]) <;> go_num, by omega, by omega⟩
        case measure => simp [intOf]; omega
    · obtain rfl : k = y := by omega
      go_wp2_with fail
      go_ret
      exact ⟨rfl, rfl⟩

/-- What Days answers. -/
def days (y m d : Int) : Int × Int := if daysIn y m d then (yd y + cum y (m - 1).toNat + d - 1, 0) else (0, 1)

theorem w_Days_out (y m d : Int) (h : daysIn y m d = false) (w : World) :
    Calls Tryz.prog 111 #[.int .i64 y, .int .i64 m, .int .i64 d] w fun e w' => e = .returned (.tuple #[.int .i64 0, .int .i64 1]) ∧ w = w' := by
  have Hx := Lib.hid h
  clear h
  by_cases h0 : y < 1970
  · clear Hx
    go_enter Tryz.func111, Tryz.ntmps111
    go_wp2_with (go_at_call 165; refine (w_monthDays _ _ (by omega) (by omega) (by omega) _).mono ?_; rintro e w' ⟨rfl, rfl⟩)
    go_ret2
    exact ⟨rfl, rfl⟩
  · by_cases h1 : 9999 < y
    · clear Hx
      go_enter Tryz.func111, Tryz.ntmps111
      go_wp2_with (go_at_call 165; refine (w_monthDays _ _ (by omega) (by omega) (by omega) _).mono ?_; rintro e w' ⟨rfl, rfl⟩)
      go_ret2
      exact ⟨rfl, rfl⟩
    · by_cases h2 : m < 1
      · clear Hx
        go_enter Tryz.func111, Tryz.ntmps111
        go_wp2_with (go_at_call 165; refine (w_monthDays _ _ (by omega) (by omega) (by omega) _).mono ?_; rintro e w' ⟨rfl, rfl⟩)
        go_ret2
        exact ⟨rfl, rfl⟩
      · by_cases h3 : 12 < m
        · clear Hx
          go_enter Tryz.func111, Tryz.ntmps111
          go_wp2_with (go_at_call 165; refine (w_monthDays _ _ (by omega) (by omega) (by omega) _).mono ?_; rintro e w' ⟨rfl, rfl⟩)
          go_ret2
          exact ⟨rfl, rfl⟩
        · obtain ⟨k, rfl⟩ : ∃ k : Nat, m = (k : Int) + 1 := ⟨(m - 1).toNat, by omega⟩
          have hk : k < 12 := by omega
          have ek : ((k : Int) + 1 - 1).toNat = k := by omega
          have Ek := Lib.hid ek
          clear ek
          have hm0 := (md_bd y k).1
          have hm1 := (md_bd y k).2
          by_cases h4 : d < 1
          · clear Hx
            go_enter Tryz.func111, Tryz.ntmps111
            go_wp2_with (go_at_call 165; refine (w_monthDays _ _ (by omega) (by omega) (by omega) _).mono ?_; rw [Ek.out]; rintro e w' ⟨rfl, rfl⟩)
            go_ret2
            exact ⟨rfl, rfl⟩
          · have hd : md y k < d := by
              have := Hx.out; have ek := Ek.out; simp only [daysIn, ek] at this; simp at this; omega
            clear Hx
            go_enter Tryz.func111, Tryz.ntmps111
            go_wp2_with (go_at_call 165; refine (w_monthDays _ _ (by omega) (by omega) (by omega) _).mono ?_; rw [Ek.out]; rintro e w' ⟨rfl, rfl⟩)
            go_ret2
            exact ⟨rfl, rfl⟩
theorem w_DaysR_out (y m d : Int) (h : daysIn y m d = false) (w : World) :
    Calls Tryz.prog 81 #[.int .i64 y, .int .i64 m, .int .i64 d] w fun e w' => e = .returned (.tuple #[.int .i64 0, .int .i64 1]) ∧ Below w.heap.size w w' := by
  have Hx := Lib.hid h
  clear h
  have hbel := Below.refl w.heap.size w
  by_cases h0 : y < 1970
  · clear Hx
    go_enter Tryz.func81, Tryz.ntmps81
    go_wp2_with (first
      | (go_at_call 76; refine (w_outside _ _ _ _).mono ?_; rintro e w' ⟨rfl, rfl⟩)
      | (go_at_call 141; refine (w_monthDaysR _ (by omega) _).mono ?_; rintro e w1 ⟨g, rfl, hc, hb⟩; have hcc := hc (m - 1).toNat (by omega); have hbel := hbel.trans (hb.mono hbel.size); clear hc hb))
    go_ret2
    exact ⟨rfl, hbel⟩
  · by_cases h1 : 9999 < y
    · clear Hx
      go_enter Tryz.func81, Tryz.ntmps81
      go_wp2_with (first
        | (go_at_call 76; refine (w_outside _ _ _ _).mono ?_; rintro e w' ⟨rfl, rfl⟩)
        | (go_at_call 141; refine (w_monthDaysR _ (by omega) _).mono ?_; rintro e w1 ⟨g, rfl, hc, hb⟩; have hcc := hc (m - 1).toNat (by omega); have hbel := hbel.trans (hb.mono hbel.size); clear hc hb))
      go_ret2
      exact ⟨rfl, hbel⟩
    · by_cases h2 : m < 1
      · clear Hx
        go_enter Tryz.func81, Tryz.ntmps81
        go_wp2_with (first
          | (go_at_call 76; refine (w_outside _ _ _ _).mono ?_; rintro e w' ⟨rfl, rfl⟩)
          | (go_at_call 141; refine (w_monthDaysR _ (by omega) _).mono ?_; rintro e w1 ⟨g, rfl, hc, hb⟩; have hcc := hc (m - 1).toNat (by omega); have hbel := hbel.trans (hb.mono hbel.size); clear hc hb))
        go_ret2
        exact ⟨rfl, hbel⟩
      · by_cases h3 : 12 < m
        · clear Hx
          go_enter Tryz.func81, Tryz.ntmps81
          go_wp2_with (first
            | (go_at_call 76; refine (w_outside _ _ _ _).mono ?_; rintro e w' ⟨rfl, rfl⟩)
            | (go_at_call 141; refine (w_monthDaysR _ (by omega) _).mono ?_; rintro e w1 ⟨g, rfl, hc, hb⟩; have hcc := hc (m - 1).toNat (by omega); have hbel := hbel.trans (hb.mono hbel.size); clear hc hb))
          go_ret2
          exact ⟨rfl, hbel⟩
        · obtain ⟨k, rfl⟩ : ∃ k : Nat, m = (k : Int) + 1 := ⟨(m - 1).toNat, by omega⟩
          have hk : k < 12 := by omega
          have ek : ((k : Int) + 1 - 1).toNat = k := by omega
          have Ek := Lib.hid ek
          clear ek
          have hm0 := (md_bd y k).1
          have hm1 := (md_bd y k).2
          by_cases h4 : d < 1
          · clear Hx
            go_enter Tryz.func81, Tryz.ntmps81
            go_wp2_with (first
              | (go_at_call 76; refine (w_outside _ _ _ _).mono ?_; rintro e w' ⟨rfl, rfl⟩)
              | (go_at_call 141; refine (w_monthDaysR _ (by omega) _).mono ?_; rintro e w1 ⟨g, rfl, hc, hb⟩; have hcc := hc k (by omega); have hbel := hbel.trans (hb.mono hbel.size); clear hc hb))
            go_ret2
            exact ⟨rfl, hbel⟩
          · have hd : md y k < d := by
              have := Hx.out; have ek := Ek.out; simp only [daysIn, ek] at this; simp at this; omega
            clear Hx
            go_enter Tryz.func81, Tryz.ntmps81
            go_wp2_with (first
              | (go_at_call 76; refine (w_outside _ _ _ _).mono ?_; rintro e w' ⟨rfl, rfl⟩)
              | (go_at_call 141; refine (w_monthDaysR _ (by omega) _).mono ?_; rintro e w1 ⟨g, rfl, hc, hb⟩; have hcc := hc k (by omega); have hbel := hbel.trans (hb.mono hbel.size); clear hc hb))
            go_ret2
            exact ⟨rfl, hbel⟩

theorem w_Days_in (y d : Int) (k : Nat) (hk : k < 12) (y0 : 1970 ≤ y) (y1 : y ≤ 9999) (d0 : 1 ≤ d) (d1 : d ≤ md y k) (w : World) :
    Calls Tryz.prog 111 #[.int .i64 y, .int .i64 ((k : Int) + 1), .int .i64 d] w fun e w' => e = .returned (.tuple #[.int .i64 (yd y + cum y k + d - 1), .int .i64 0]) ∧ w = w' := by
  have hf := Lib.hid (dFormula y k d hk)
  have hm := md_bd y k
  obtain ⟨hm0, hm1⟩ := hm
  have ek : ((k : Int) + 1 - 1).toNat = k := by omega
  have Ek := Lib.hid ek
  clear ek
  have fin : ∀ a : Int, a = yd y + cum y k + d - 1 → Ending.returned (.tuple #[.int .i64 a, .int .i64 0]) = .returned (.tuple #[.int .i64 (yd y + cum y k + d - 1), .int .i64 0]) := by rintro a rfl; rfl
  have Fin := Lib.hid fin
  clear fin
  by_cases h2 : 2 ≤ k
  · go_enter Tryz.func111, Tryz.ntmps111
    go_wp2_with (go_at_call 165; refine (w_monthDays _ _ (by omega) (by omega) (by omega) _).mono ?_; rw [Ek.out]; rintro e w' ⟨rfl, rfl⟩)
    go_ret2
    exact ⟨Fin.out _ (by have := hf.out.1 h2; omega), rfl⟩
  · go_enter Tryz.func111, Tryz.ntmps111
    go_wp2_with (go_at_call 165; refine (w_monthDays _ _ (by omega) (by omega) (by omega) _).mono ?_; rw [Ek.out]; rintro e w' ⟨rfl, rfl⟩)
    go_ret2
    exact ⟨Fin.out _ (by have := hf.out.2 (by omega); omega), rfl⟩

theorem w_DaysR_in (y d : Int) (k : Nat) (hk : k < 12) (y0 : 1970 ≤ y) (y1 : y ≤ 9999) (d0 : 1 ≤ d) (d1 : d ≤ md y k) (w : World) :
    Calls Tryz.prog 81 #[.int .i64 y, .int .i64 ((k : Int) + 1), .int .i64 d] w fun e w' => e = .returned (.tuple #[.int .i64 (yd y + cum y k + d - 1), .int .i64 0]) ∧ Below w.heap.size w w' := by
  have hm := md_bd y k
  obtain ⟨hm0, hm1⟩ := hm
  have hyb := yd_bd y0 y1
  obtain ⟨hyb0, hyb1⟩ := hyb
  have hbel := Below.refl w.heap.size w
  go_enter Tryz.func81, Tryz.ntmps81
  go_wp2_with (first
    | (go_at_call 76; refine (w_outside _ _ _ _).mono ?_; rintro e w' ⟨rfl, rfl⟩)
    | (go_at_call 146; refine (w_yearDays _ y0 y1 _).mono ?_; rintro e w' ⟨rfl, rfl⟩)
    | (go_at_call 141; refine (w_monthDaysR _ (by omega) _).mono ?_; rintro e w1 ⟨g, rfl, hc, hb⟩; have hcc := hc k (by omega); have hbel := hbel.trans (hb.mono hbel.size); have Hc := Lib.hid hc; clear hc hb))
  go_loop [8, 38] (fun n' i' => ∃ i : Nat, i' = .int .i64 i ∧ i ≤ k ∧ n' = .int .i64 (yd y + d - 1 + cum y i)) (fun _ i' => k - (intOf i').toNat)
  case atStart => exact ⟨0, rfl, by omega, by simp [cum]⟩
  case round =>
    obtain ⟨i, rfl, hi, rfl⟩ := hrel
    have hb := cum_bd y i
    obtain ⟨hb0, hb1⟩ := hb
    have hmi := md_bd y i
    obtain ⟨hmi0, hmi1⟩ := hmi
    by_cases hlt : i < k
    · have hci := Hc.out i (by omega)
      have Hcs := Lib.hid (cum_succ y i (by omega))
      go_wp2_with fail
      go_round
      case rel => exact ⟨i + 1, by go_num, by omega, by rw [Hcs.out]; go_num⟩
      case measure => simp [intOf]; omega
    · obtain rfl : i = k := by omega
      go_wp2_with fail
      go_ret2
      exact ⟨by congr 3; simp; omega, hbel⟩
end Go.Proofs.YtemjoiaapfhenaaGreatDoor
end
