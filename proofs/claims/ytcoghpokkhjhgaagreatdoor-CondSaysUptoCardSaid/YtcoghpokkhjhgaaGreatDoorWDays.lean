/- Walks through date.Days and the reference's Days. -/
import Derived.Test.YtcoghpokkhjhgaaGreatDoorWDate
import Derived.Test.YtcoghpokkhjhgaaGreatDoorSpecs
namespace Go.Proofs.YtcoghpokkhjhgaaGreatDoor
open Go.RowKit Go.Larder
set_option linter.unusedVariables false
set_option linter.unusedSimpArgs false

theorem w_yearDays (y : Int) (h0 : 1970 ≤ y) (h1 : y ≤ 9999) (w : World) :
    Calls Tryz.prog 103 #[.int .i64 y] w fun e w' => e = .returned (.int .i64 (yd y)) ∧ w = w' := by
  have H70 := Lib.hid (show yd 1970 = 0 from by decide)
  go_enter Tryz.func103, Tryz.ntmps103
  go_wp2_with fail
  go_loop [3, 4] (fun n' k' => ∃ k : Int, k' = .int .i64 k ∧ n' = .int .i64 (yd k) ∧ 1970 ≤ k ∧ k ≤ y) (fun _ k' => (9999 - intOf k').toNat)
  case atStart => exact ⟨1970, rfl, by rw [H70.out], by omega, h0⟩
  case round =>
    obtain ⟨k, rfl, rfl, hk0, hk1⟩ := hrel
    have hb := yd_bd hk0 (by omega)
    obtain ⟨hb0, hb1⟩ := hb
    have Hs := Lib.hid (yd_succ k)
    by_cases hlt : k < y
    · cases hl : lp k
      · have Hl := Lib.hid (show lpI k = 0 from by simp [lpI, hl])
        go_wp2_with (go_at_call 123; refine (w_leapR _ (by omega) _).mono ?_; rintro e w' ⟨rfl, rfl⟩)
        go_round
        case rel => exact ⟨k + 1, rfl, by (rw [Hs.out, Hl.out]) <;> go_num, by omega, by omega⟩
        case measure => simp [intOf]; omega
      · have Hl := Lib.hid (show lpI k = 1 from by simp [lpI, hl])
        go_wp2_with (go_at_call 123; refine (w_leapR _ (by omega) _).mono ?_; rintro e w' ⟨rfl, rfl⟩)
        go_round
        case rel => exact ⟨k + 1, rfl, by (rw [Hs.out, Hl.out]) <;> go_num, by omega, by omega⟩
        case measure => simp [intOf]; omega
    · obtain rfl : k = y := by omega
      go_wp2_with fail
      go_ret
      exact ⟨rfl, rfl⟩

/-- What Days answers. -/
def days (y m d : Int) : Int × Int := if daysIn y m d then (yd y + cum y (m - 1).toNat + d - 1, 0) else (0, 1)

theorem w_Days_out (y m d : Int) (h : daysIn y m d = false) (w : World) :
    Calls Tryz.prog 60 #[.int .i64 y, .int .i64 m, .int .i64 d] w fun e w' => e = .returned (.tuple #[.int .i64 0, .int .i64 1]) ∧ w = w' := by
  have Hx := Lib.hid h
  clear h
  by_cases h0 : y < 1970
  · clear Hx
    go_enter Tryz.func60, Tryz.ntmps60
    go_wp2_with (go_at_call 91; refine (w_monthDays _ _ (by omega) (by omega) (by omega) _).mono ?_; rintro e w' ⟨rfl, rfl⟩)
    go_ret2
    exact ⟨rfl, rfl⟩
  · by_cases h1 : 9999 < y
    · clear Hx
      go_enter Tryz.func60, Tryz.ntmps60
      go_wp2_with (go_at_call 91; refine (w_monthDays _ _ (by omega) (by omega) (by omega) _).mono ?_; rintro e w' ⟨rfl, rfl⟩)
      go_ret2
      exact ⟨rfl, rfl⟩
    · by_cases h2 : m < 1
      · clear Hx
        go_enter Tryz.func60, Tryz.ntmps60
        go_wp2_with (go_at_call 91; refine (w_monthDays _ _ (by omega) (by omega) (by omega) _).mono ?_; rintro e w' ⟨rfl, rfl⟩)
        go_ret2
        exact ⟨rfl, rfl⟩
      · by_cases h3 : 12 < m
        · clear Hx
          go_enter Tryz.func60, Tryz.ntmps60
          go_wp2_with (go_at_call 91; refine (w_monthDays _ _ (by omega) (by omega) (by omega) _).mono ?_; rintro e w' ⟨rfl, rfl⟩)
          go_ret2
          exact ⟨rfl, rfl⟩
        · obtain ⟨k, rfl⟩ : ∃ k : Nat, m = (k : Int) + 1 := ⟨(m - 1).toNat, by omega⟩
          have hk : k < 12 := by omega
          have ek : ((k : Int) + 1 - 1).toNat = k := by omega
          have Ek := Lib.hid ek
          clear ek
          have hm0 := (md_bd y k).1
          have hm1 := (md_bd y k).2
          by_cases h4 : d < 1
          · clear Hx
            go_enter Tryz.func60, Tryz.ntmps60
            go_wp2_with (go_at_call 91; refine (w_monthDays _ _ (by omega) (by omega) (by omega) _).mono ?_; rw [Ek.out]; rintro e w' ⟨rfl, rfl⟩)
            go_ret2
            exact ⟨rfl, rfl⟩
          · have hd : md y k < d := by
              have := Hx.out; have ek := Ek.out; simp only [daysIn, ek] at this; simp at this; omega
            clear Hx
            go_enter Tryz.func60, Tryz.ntmps60
            go_wp2_with (go_at_call 91; refine (w_monthDays _ _ (by omega) (by omega) (by omega) _).mono ?_; rw [Ek.out]; rintro e w' ⟨rfl, rfl⟩)
            go_ret2
            exact ⟨rfl, rfl⟩
theorem w_DaysR_out (y m d : Int) (h : daysIn y m d = false) (w : World) :
    Calls Tryz.prog 69 #[.int .i64 y, .int .i64 m, .int .i64 d] w fun e w' => e = .returned (.tuple #[.int .i64 0, .int .i64 1]) ∧ Below w.heap.size w w' := by
  have Hx := Lib.hid h
  clear h
  have hbel := Below.refl w.heap.size w
  by_cases h0 : y < 1970
  · clear Hx
    go_enter Tryz.func69, Tryz.ntmps69
    go_wp2_with (first
      | (go_at_call 101; refine (w_outside _ _ _ _).mono ?_; rintro e w' ⟨rfl, rfl⟩)
      | (go_at_call 102; refine (w_monthDaysR _ (by omega) _).mono ?_; rintro e w1 ⟨g, rfl, hc, hb⟩; have hcc := hc (m - 1).toNat (by omega); have hbel := hbel.trans (hb.mono hbel.size); clear hc hb))
    go_ret2
    exact ⟨rfl, hbel⟩
  · by_cases h1 : 9999 < y
    · clear Hx
      go_enter Tryz.func69, Tryz.ntmps69
      go_wp2_with (first
        | (go_at_call 101; refine (w_outside _ _ _ _).mono ?_; rintro e w' ⟨rfl, rfl⟩)
        | (go_at_call 102; refine (w_monthDaysR _ (by omega) _).mono ?_; rintro e w1 ⟨g, rfl, hc, hb⟩; have hcc := hc (m - 1).toNat (by omega); have hbel := hbel.trans (hb.mono hbel.size); clear hc hb))
      go_ret2
      exact ⟨rfl, hbel⟩
    · by_cases h2 : m < 1
      · clear Hx
        go_enter Tryz.func69, Tryz.ntmps69
        go_wp2_with (first
          | (go_at_call 101; refine (w_outside _ _ _ _).mono ?_; rintro e w' ⟨rfl, rfl⟩)
          | (go_at_call 102; refine (w_monthDaysR _ (by omega) _).mono ?_; rintro e w1 ⟨g, rfl, hc, hb⟩; have hcc := hc (m - 1).toNat (by omega); have hbel := hbel.trans (hb.mono hbel.size); clear hc hb))
        go_ret2
        exact ⟨rfl, hbel⟩
      · by_cases h3 : 12 < m
        · clear Hx
          go_enter Tryz.func69, Tryz.ntmps69
          go_wp2_with (first
            | (go_at_call 101; refine (w_outside _ _ _ _).mono ?_; rintro e w' ⟨rfl, rfl⟩)
            | (go_at_call 102; refine (w_monthDaysR _ (by omega) _).mono ?_; rintro e w1 ⟨g, rfl, hc, hb⟩; have hcc := hc (m - 1).toNat (by omega); have hbel := hbel.trans (hb.mono hbel.size); clear hc hb))
          go_ret2
          exact ⟨rfl, hbel⟩
        · obtain ⟨k, rfl⟩ : ∃ k : Nat, m = (k : Int) + 1 := ⟨(m - 1).toNat, by omega⟩
          have hk : k < 12 := by omega
          have ek : ((k : Int) + 1 - 1).toNat = k := by omega
          have Ek := Lib.hid ek
          clear ek
          have hm0 := (md_bd y k).1
          have hm1 := (md_bd y k).2
          by_cases h4 : d < 1
          · clear Hx
            go_enter Tryz.func69, Tryz.ntmps69
            go_wp2_with (first
              | (go_at_call 101; refine (w_outside _ _ _ _).mono ?_; rintro e w' ⟨rfl, rfl⟩)
              | (go_at_call 102; refine (w_monthDaysR _ (by omega) _).mono ?_; rintro e w1 ⟨g, rfl, hc, hb⟩; have hcc := hc k (by omega); have hbel := hbel.trans (hb.mono hbel.size); clear hc hb))
            go_ret2
            exact ⟨rfl, hbel⟩
          · have hd : md y k < d := by
              have := Hx.out; have ek := Ek.out; simp only [daysIn, ek] at this; simp at this; omega
            clear Hx
            go_enter Tryz.func69, Tryz.ntmps69
            go_wp2_with (first
              | (go_at_call 101; refine (w_outside _ _ _ _).mono ?_; rintro e w' ⟨rfl, rfl⟩)
              | (go_at_call 102; refine (w_monthDaysR _ (by omega) _).mono ?_; rintro e w1 ⟨g, rfl, hc, hb⟩; have hcc := hc k (by omega); have hbel := hbel.trans (hb.mono hbel.size); clear hc hb))
            go_ret2
            exact ⟨rfl, hbel⟩

theorem w_Days_in (y d : Int) (k : Nat) (hk : k < 12) (y0 : 1970 ≤ y) (y1 : y ≤ 9999) (d0 : 1 ≤ d) (d1 : d ≤ md y k) (w : World) :
    Calls Tryz.prog 60 #[.int .i64 y, .int .i64 ((k : Int) + 1), .int .i64 d] w fun e w' => e = .returned (.tuple #[.int .i64 (yd y + cum y k + d - 1), .int .i64 0]) ∧ w = w' := by
  have hf := Lib.hid (dFormula y k d hk)
  have hm := md_bd y k
  obtain ⟨hm0, hm1⟩ := hm
  have ek : ((k : Int) + 1 - 1).toNat = k := by omega
  have Ek := Lib.hid ek
  clear ek
  have fin : ∀ a : Int, a = yd y + cum y k + d - 1 → Ending.returned (.tuple #[.int .i64 a, .int .i64 0]) = .returned (.tuple #[.int .i64 (yd y + cum y k + d - 1), .int .i64 0]) := by rintro a rfl; rfl
  have Fin := Lib.hid fin
  clear fin
  by_cases h2 : 2 ≤ k
  · go_enter Tryz.func60, Tryz.ntmps60
    go_wp2_with (go_at_call 91; refine (w_monthDays _ _ (by omega) (by omega) (by omega) _).mono ?_; rw [Ek.out]; rintro e w' ⟨rfl, rfl⟩)
    go_ret2
    exact ⟨Fin.out _ (by have := hf.out.1 h2; omega), rfl⟩
  · go_enter Tryz.func60, Tryz.ntmps60
    go_wp2_with (go_at_call 91; refine (w_monthDays _ _ (by omega) (by omega) (by omega) _).mono ?_; rw [Ek.out]; rintro e w' ⟨rfl, rfl⟩)
    go_ret2
    exact ⟨Fin.out _ (by have := hf.out.2 (by omega); omega), rfl⟩

theorem w_DaysR_in (y d : Int) (k : Nat) (hk : k < 12) (y0 : 1970 ≤ y) (y1 : y ≤ 9999) (d0 : 1 ≤ d) (d1 : d ≤ md y k) (w : World) :
    Calls Tryz.prog 69 #[.int .i64 y, .int .i64 ((k : Int) + 1), .int .i64 d] w fun e w' => e = .returned (.tuple #[.int .i64 (yd y + cum y k + d - 1), .int .i64 0]) ∧ Below w.heap.size w w' := by
  have hm := md_bd y k
  obtain ⟨hm0, hm1⟩ := hm
  have hyb := yd_bd y0 y1
  obtain ⟨hyb0, hyb1⟩ := hyb
  have hbel := Below.refl w.heap.size w
  go_enter Tryz.func69, Tryz.ntmps69
  go_wp2_with (first
    | (go_at_call 101; refine (w_outside _ _ _ _).mono ?_; rintro e w' ⟨rfl, rfl⟩)
    | (go_at_call 103; refine (w_yearDays _ y0 y1 _).mono ?_; rintro e w' ⟨rfl, rfl⟩)
    | (go_at_call 102; refine (w_monthDaysR _ (by omega) _).mono ?_; rintro e w1 ⟨g, rfl, hc, hb⟩; have hcc := hc k (by omega); have hbel := hbel.trans (hb.mono hbel.size); have Hc := Lib.hid hc; clear hc hb))
  go_loop [8, 38] (fun n' i' => ∃ i : Nat, i' = .int .i64 i ∧ i ≤ k ∧ n' = .int .i64 (yd y + d - 1 + cum y i)) (fun _ i' => k - (intOf i').toNat)
  case atStart => exact ⟨0, rfl, by omega, by simp [cum]⟩
  case round =>
    obtain ⟨i, rfl, hi, rfl⟩ := hrel
    have hb := cum_bd y i
    obtain ⟨hb0, hb1⟩ := hb
    have hmi := md_bd y i
    obtain ⟨hmi0, hmi1⟩ := hmi
    by_cases hlt : i < k
    · have hci := Hc.out i (by omega)
      have Hcs := Lib.hid (cum_succ y i (by omega))
      go_wp2_with fail
      go_round
      case rel => exact ⟨i + 1, by go_num, by omega, by rw [Hcs.out]; go_num⟩
      case measure => simp [intOf]; omega
    · obtain rfl : i = k := by omega
      go_wp2_with fail
      go_ret2
      exact ⟨by congr 3; simp; omega, hbel⟩
end Go.Proofs.YtcoghpokkhjhgaaGreatDoor
