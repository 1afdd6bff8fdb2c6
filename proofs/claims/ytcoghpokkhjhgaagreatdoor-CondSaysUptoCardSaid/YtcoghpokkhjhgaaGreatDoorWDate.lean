/- Walks through package date's Civil and Days and the references' Civil and Days. -/
import Derived.Test.YtcoghpokkhjhgaaGreatDoorChecked
import Derived.Test.YtcoghpokkhjhgaaGreatDoorSpecs
import Derived.Test.YtcoghpokkhjhgaaGreatDoorWRef0
namespace Go.Proofs.YtcoghpokkhjhgaaGreatDoor
open Go.RowKit Go.Larder
set_option linter.unusedVariables false
set_option linter.unusedSimpArgs false

theorem w_leapR (y : Int) (h0 : 0 ≤ y) (w : World) :
    Calls Tryz.prog 123 #[.int .i64 y] w fun e w' => e = .returned (.bool (lp y)) ∧ w = w' := by
  cases h4 : (y % 400 == 0) <;> cases h1 : (y % 100 == 0) <;> cases h2 : (y % 4 == 0) <;>
    (have H := Lib.hid (show lp y = _ from by unfold lp; rw [h4, h1, h2])
     go_enter Tryz.func123, Tryz.ntmps123
     go_wp2_with fail
     go_ret
     exact ⟨ret_bool (by rw [H.out]; rfl), rfl⟩)

theorem w_isLeap (y : Int) (h0 : 0 ≤ y) (w : World) :
    Calls Tryz.prog 119 #[.int .i64 y] w fun e w' => e = .returned (.bool (lp y)) ∧ w = w' := by
  cases h4 : (y % 400 == 0) <;> cases h1 : (y % 100 == 0) <;> cases h2 : (y % 4 == 0) <;>
    (have H := Lib.hid (show lp y = _ from by rw [← lp_eq, h4, h1, h2])
     go_enter Tryz.func119, Tryz.ntmps119
     go_wp2_with fail
     go_ret
     exact ⟨ret_bool (by rw [H.out]; rfl), rfl⟩)

theorem w_monthDays (y m : Int) (h0 : 0 ≤ y) (h1 : 1 ≤ m) (h2 : m ≤ 12) (w : World) :
    Calls Tryz.prog 91 #[.int .i64 y, .int .i64 m] w fun e w' => e = .returned (.int .i64 (md y (m - 1).toNat)) ∧ w = w' := by
  have : m = 1 ∨ m = 2 ∨ m = 3 ∨ m = 4 ∨ m = 5 ∨ m = 6 ∨ m = 7 ∨ m = 8 ∨ m = 9 ∨ m = 10 ∨ m = 11 ∨ m = 12 := by omega
  rcases this with rfl | rfl | rfl | rfl | rfl | rfl | rfl | rfl | rfl | rfl | rfl | rfl
  case inr.inl =>
    have H := Lib.hid (show md y ((2 : Int) - 1).toNat = 28 + (if lp y then 1 else 0) from rfl)
    cases hl : lp y
    all_goals
      go_enter Tryz.func91, Tryz.ntmps91
      go_wp2_with (go_at_call 119; refine (w_isLeap _ (by omega) _).mono ?_; rintro e w' ⟨rfl, rfl⟩)
      go_ret
      exact ⟨ret_int (by rw [H.out, hl]; rfl), rfl⟩
  all_goals
    go_enter Tryz.func91, Tryz.ntmps91
    go_wp2_with fail
    go_ret
    exact ⟨rfl, rfl⟩

/-- A month's list lies in new memory. -/
def MonthsAt (y : Int) (w : World) (e : Ending) (w' : World) : Prop :=
  ∃ g : Nat, e = .returned (.slice (some ⟨g, 0, none⟩) 12 12) ∧ (∀ m : Nat, m < 12 → w'.cell? ⟨g, m, none⟩ = some (.int .i64 (md y m))) ∧ Below w.heap.size w w'

theorem w_monthDaysR (y : Int) (h0 : 0 ≤ y) (w : World) :
    Calls Tryz.prog 102 #[.int .i64 y] w (MonthsAt y w) := by
  have H := Lib.hid (show lpI y = (if lp y then 1 else 0) from rfl)
  cases hl : lp y
  all_goals
    go_enter Tryz.func102, Tryz.ntmps102
    go_wp2_with (go_at_call 123; refine (w_leapR _ (by omega) _).mono ?_; rintro e w' ⟨rfl, rfl⟩)
    go_ret
    refine ⟨w.heap.size, rfl, ?_, by go_grown⟩
    refine months ?_ ?_ ?_ ?_ ?_ ?_ ?_ ?_ ?_ ?_ ?_ ?_ <;> simp [md, H.out, hl]

theorem w_Civil (n y r : Int) (m : Nat) (h : IsCivil n y m r) (hn : n ≤ 2932896) (w : World) :
    Calls Tryz.prog 92 #[.int .i64 n] w fun e w' => e = .returned (.tuple #[.int .i64 y, .int .i64 ((m : Int) + 1), .int .i64 (r + 1), .int .i64 0]) ∧ w = w' := by
  have hf := h.formula
  have hy := h.y1 hn
  have h0 : 0 ≤ n := by have := h.eq; have := (cum_bd y m).1; have := h.r0; have := yd_mono h.y0; have : yd 1970 = 0 := by decide
                        omega
  have hy0 := h.y0
  have hm1 := h.m1
  clear h
  obtain ⟨h1, h2, h3, h4, h5, h6, h7, h8⟩ := hf
  have eE : (n + 719468) / 146097 = cE n := rfl
  have eD : (n + 719468) % 146097 = cD n := rfl
  have eY : (cD n - cD n / 1460 + cD n / 36524 - cD n / 146096) / 365 = cY n := rfl
  have eR : cD n - (cY n * 365 + cY n / 4 - cY n / 100) = cR n := rfl
  have eM : (5 * cR n + 2) / 153 = cM n := rfl
  have eF : cR n - (153 * cM n + 2) / 5 + 1 = cF n := rfl
  have hE0 : 0 ≤ cE n ∧ cE n ≤ 30 := by unfold cE cN; omega
  have hM0 : 0 ≤ cM n ∧ cM n ≤ 20 := by unfold cM; omega
  generalize cE n = E at *
  generalize cD n = D at *
  generalize cY n = Y at *
  generalize cR n = R at *
  generalize cM n = M at *
  generalize cF n = F at *
  obtain ⟨hE0, hE1⟩ := hE0
  obtain ⟨hM0, hM1⟩ := hM0
  have fin : ∀ a b c : Int, a = y → b = (m : Int) + 1 → c = r + 1 → Ending.returned (.tuple #[.int .i64 a, .int .i64 b, .int .i64 c, .int .i64 0]) = .returned (.tuple #[.int .i64 y, .int .i64 ((m : Int) + 1), .int .i64 (r + 1), .int .i64 0]) := by rintro a b c rfl rfl rfl; rfl
  have Fin := Lib.hid fin
  have H1 := Lib.hid h1
  clear fin h1
  rcases h8 with ⟨g1, g2, g3⟩ | ⟨g1, g2, g3⟩
  · have H2 := Lib.hid g2
    have H3 := Lib.hid g3
    have hM : M + 3 ≤ 12 := by omega
    clear g2 g3
    go_enter Tryz.func92, Tryz.ntmps92
    go_wp2_with fail
    go_returns
    exact ⟨Fin.out _ _ _ (by have := H3.out; omega) (by have := H2.out; omega) H1.out, rfl⟩
  · have H2 := Lib.hid g2
    have H3 := Lib.hid g3
    have hM : 12 < M + 3 := by omega
    clear g2 g3
    go_enter Tryz.func92, Tryz.ntmps92
    go_wp2_with fail
    go_returns
    exact ⟨Fin.out _ _ _ (by have := H3.out; omega) (by have := H2.out; omega) H1.out, rfl⟩
theorem ret_civil {a b c y m r : Int} (h1 : a = y) (h2 : b = m) (h3 : c = r) : Ending.returned (.tuple #[.int .i64 a, .int .i64 b, .int .i64 c, .int .i64 0]) = .returned (.tuple #[.int .i64 y, .int .i64 m, .int .i64 r, .int .i64 0]) := by subst h1 h2 h3; rfl

theorem w_CivilR (n y r : Int) (m : Nat) (h : IsCivil n y m r) (hn : n ≤ 2932896) (w : World) :
    Calls Tryz.prog 104 #[.int .i64 n] w fun e w' => e = .returned (.tuple #[.int .i64 y, .int .i64 ((m : Int) + 1), .int .i64 (r + 1), .int .i64 0]) ∧ Below w.heap.size w w' := by
  have hy := h.y1 hn
  have hy0 := h.y0
  have hm1 := h.m1
  have h70 : yd 1970 = 0 := by decide
  have h0 : 0 ≤ n := by have := h.eq; have := (cum_bd y m).1; have := h.r0; have := yd_mono h.y0; omega
  have H70 := Lib.hid h70
  have HC := Lib.hid h
  clear h h70
  go_enter Tryz.func104, Tryz.ntmps104
  go_wp2_with (go_at_call 101; refine (w_outside _ _ _ _).mono ?_; rintro e w' ⟨rfl, rfl⟩)
  go_loop [0, 6] (fun n' y' => ∃ yy : Int, y' = .int .i64 yy ∧ n' = .int .i64 (n - yd yy) ∧ 1970 ≤ yy ∧ yy ≤ y) (fun _ y' => (9999 - intOf y').toNat)
  case atStart => exact ⟨1970, rfl, by rw [H70.out]; simp, by omega, hy0⟩
  case round =>
    obtain ⟨yy, rfl, rfl, hyy0, hyy1⟩ := hrel
    have hd0 : 0 ≤ yd yy := by have := yd_mono hyy0; have := H70.out; omega
    have hd1 : yd yy ≤ n := by have := yd_mono hyy1; have := HC.out.eq; have := (cum_bd y m).1; have := HC.out.r0; omega
    have Hs := Lib.hid (yd_succ yy)
    by_cases hlt : yy < y
    · have hge : 365 + lpI yy ≤ n - yd yy := by have := yd_step hlt; have := HC.out.eq; have := (cum_bd y m).1; have := HC.out.r0; omega
      cases hl : lp yy
      · have Hl := Lib.hid (show lpI yy = 0 from by simp [lpI, hl])
        have hge' : 365 ≤ n - yd yy := by rw [Hl.out] at hge; omega
        clear hge
        go_wp2_with (go_at_call 123; refine (w_leapR _ (by omega) _).mono ?_; rintro e w' ⟨rfl, rfl⟩)
        go_round
        case rel => exact ⟨yy + 1, rfl, by rw [Hs.out, Hl.out]; go_num, by omega, by omega⟩
        case measure => simp [intOf]; omega
      · have Hl := Lib.hid (show lpI yy = 1 from by simp [lpI, hl])
        have hge' : 366 ≤ n - yd yy := by rw [Hl.out] at hge; omega
        clear hge
        go_wp2_with (go_at_call 123; refine (w_leapR _ (by omega) _).mono ?_; rintro e w' ⟨rfl, rfl⟩)
        go_round
        case rel => exact ⟨yy + 1, rfl, by rw [Hs.out, Hl.out]; go_num, by omega, by omega⟩
        case measure => simp [intOf]; omega
    · obtain rfl : yy = y := by omega
      have hbd : n - yd yy < 365 + lpI yy := by have := cum_top yy m hm1; have := HC.out.eq; have := HC.out.r1; omega
      cases hl : lp yy
      · have hlt2 : n - yd yy < 365 := by simp only [lpI, hl] at hbd; simp at hbd; omega
        have hltd : decide (n - yd yy < 365) = true := by simpa using hlt2
        clear hbd Hs
        go_wp2_with (go_at_call 123; refine (w_leapR _ (by omega) _).mono ?_; rintro e w' ⟨rfl, rfl⟩)
        go_loopw [0, 8] (fun n' m' wr => ∃ k : Nat, m' = .int .i64 k ∧ n' = .int .i64 (n - yd yy - cum yy k) ∧ k ≤ m ∧ Below w.heap.size w wr) (fun _ m' _ => 12 - (intOf m').toNat)
        case atStart => exact ⟨0, rfl, by simp [cum], by omega, Below.refl _ _⟩
        case round =>
          obtain ⟨k, rfl, rfl, hk, hbel⟩ := hrel
          have hc0 := (cum_bd yy k).1
          have hc1 := (cum_bd yy k).2
          have hm0 := (md_bd yy k).1
          have hm2 := (md_bd yy k).2
          by_cases hlt : k < m
          · have hge : md yy k ≤ n - yd yy - cum yy k := by have := cum_step yy k m hlt hm1; have := HC.out.eq; have := HC.out.r0; omega
            have Hcs := Lib.hid (cum_succ yy k (by omega))
            go_wp2_with (go_at_call 102; refine (w_monthDaysR _ (by omega) _).mono ?_; rintro e w1 ⟨g, rfl, hc, hb⟩; have hcc := hc k (by omega); have hbel := hbel.trans (hb.mono hbel.size); clear hc hb)
            go_roundw
            case rel => exact ⟨k + 1, by go_num, by rw [Hcs.out]; go_num, by omega, hbel⟩
            case measure => simp [intOf]; omega
          · obtain rfl : k = m := by omega
            have hge : n - yd yy - cum yy k < md yy k := by have := HC.out.eq; have := HC.out.r1; omega
            go_wp2_with (go_at_call 102; refine (w_monthDaysR _ (by omega) _).mono ?_; rintro e w1 ⟨g, rfl, hc, hb⟩; have hcc := hc k (by omega); have hbel := hbel.trans (hb.mono hbel.size); clear hc hb)
            go_returns
            exact ⟨ret_civil rfl rfl (by have := HC.out.eq; omega), hbel⟩
      · have hlt2 : n - yd yy < 366 := by simp only [lpI, hl] at hbd; simp at hbd; omega
        have hltd : decide (n - yd yy < 366) = true := by simpa using hlt2
        clear hbd Hs
        go_wp2_with (go_at_call 123; refine (w_leapR _ (by omega) _).mono ?_; rintro e w' ⟨rfl, rfl⟩)
        go_loopw [0, 8] (fun n' m' wr => ∃ k : Nat, m' = .int .i64 k ∧ n' = .int .i64 (n - yd yy - cum yy k) ∧ k ≤ m ∧ Below w.heap.size w wr) (fun _ m' _ => 12 - (intOf m').toNat)
        case atStart => exact ⟨0, rfl, by simp [cum], by omega, Below.refl _ _⟩
        case round =>
          obtain ⟨k, rfl, rfl, hk, hbel⟩ := hrel
          have hc0 := (cum_bd yy k).1
          have hc1 := (cum_bd yy k).2
          have hm0 := (md_bd yy k).1
          have hm2 := (md_bd yy k).2
          by_cases hlt : k < m
          · have hge : md yy k ≤ n - yd yy - cum yy k := by have := cum_step yy k m hlt hm1; have := HC.out.eq; have := HC.out.r0; omega
            have Hcs := Lib.hid (cum_succ yy k (by omega))
            go_wp2_with (go_at_call 102; refine (w_monthDaysR _ (by omega) _).mono ?_; rintro e w1 ⟨g, rfl, hc, hb⟩; have hcc := hc k (by omega); have hbel := hbel.trans (hb.mono hbel.size); clear hc hb)
            go_roundw
            case rel => exact ⟨k + 1, by go_num, by rw [Hcs.out]; go_num, by omega, hbel⟩
            case measure => simp [intOf]; omega
          · obtain rfl : k = m := by omega
            have hge : n - yd yy - cum yy k < md yy k := by have := HC.out.eq; have := HC.out.r1; omega
            go_wp2_with (go_at_call 102; refine (w_monthDaysR _ (by omega) _).mono ?_; rintro e w1 ⟨g, rfl, hc, hb⟩; have hcc := hc k (by omega); have hbel := hbel.trans (hb.mono hbel.size); clear hc hb)
            go_returns
            exact ⟨ret_civil rfl rfl (by have := HC.out.eq; omega), hbel⟩
end Go.Proofs.YtcoghpokkhjhgaaGreatDoor
