/- Walk: date.Parse. -/
import Derived.Test.YtemjoiaapfhenaaGreatDoorGd04
import Derived.Test.YtemjoiaapfhenaaGreatDoorGd03
import Derived.Test.YtemjoiaapfhenaaGreatDoorGd02
namespace Go.Proofs.YtemjoiaapfhenaaGreatDoor
open Go.RowKit Go.Larder
set_option linter.unusedVariables false
set_option linter.unusedSimpArgs false

theorem mon3 {j k : Nat} (h : ((3 * k : Nat) : Int) = (j : Int)) : j = 3 * k := by omega
theorem dnum_seg (l : List UInt8) (a b : Nat) (h : b ≤ l.length) (h2 : b - a ≤ 4) (w : World) :
    Calls Tryz.prog 112 #[S (seg l a b)] w fun e w' => e = .returned (.int .i64 (nm (seg l a b))) ∧ w = w' := w_dnumber _ (by rw [seg_len h]; omega) w
set_option maxHeartbeats 4000000 in
theorem w_DParse (l : List UInt8) (hl : l.length ≤ 140737488351232) (w : World) (hP : PW w) (hM : ML w) :
    Calls Tryz.prog 51 #[S l] w (DateOut w l) := by
  have hgood := fun n h => isDate_good (n := n) (l := l) h
  by_cases hlen : l.length = 29
  · have hno : (∀ k, ¬ PGood l k) → ∀ n, ¬ isDate n l := fun h n hn => by obtain ⟨k, hk, _⟩ := hgood n hn; exact h k hk
    have hlen2 : l.length ≤ 29 := by omega
    have hlen3 : 29 ≤ l.length := by omega
    have hle : l.isEmpty = false := by cases l with
      | nil => simp at hlen
      | cons _ _ => rfl
    have hN : ∀ k, pN l k = dayN (nm (seg l 12 16)) (nm (seg l 5 7)) k * 86400 + nm (seg l 17 19) * 3600 + nm (seg l 20 22) * 60 + nm (seg l 23 25) := fun k => rfl
    have hmk := fun k (h1 : k < 12) h2 h3 h4 h5 h6 => (⟨hlen, h1, h2, h3, h4, h5, h6⟩ : PGood l k)
    have hg1 := fun k (h : PGood l k) => h.mon
    have hg2 := fun k (h : PGood l k) => h.din
    have hg3 := fun k (h : PGood l k) => h.hh
    have hg4 := fun k (h : PGood l k) => h.mm
    have hg5 := fun k (h : PGood l k) => h.ss
    have s1 : ∀ w, (Instr.slice 9 (.string ⟨l.toArray⟩) (some (.int .i64 8)) (some (.int .i64 11)) none).run Tryz.prog w = .ok (.string ⟨(seg l 8 11).toArray⟩) w := slice_seg l 8 11 (by omega) (by omega)
    have s2 : ∀ w, (Instr.slice 9 (.string ⟨l.toArray⟩) (some (.int .i64 12)) (some (.int .i64 16)) none).run Tryz.prog w = .ok (.string ⟨(seg l 12 16).toArray⟩) w := slice_seg l 12 16 (by omega) (by omega)
    have s3 : ∀ w, (Instr.slice 9 (.string ⟨l.toArray⟩) (some (.int .i64 5)) (some (.int .i64 7)) none).run Tryz.prog w = .ok (.string ⟨(seg l 5 7).toArray⟩) w := slice_seg l 5 7 (by omega) (by omega)
    have s4 : ∀ w, (Instr.slice 9 (.string ⟨l.toArray⟩) (some (.int .i64 17)) (some (.int .i64 19)) none).run Tryz.prog w = .ok (.string ⟨(seg l 17 19).toArray⟩) w := slice_seg l 17 19 (by omega) (by omega)
    have s5 : ∀ w, (Instr.slice 9 (.string ⟨l.toArray⟩) (some (.int .i64 20)) (some (.int .i64 22)) none).run Tryz.prog w = .ok (.string ⟨(seg l 20 22).toArray⟩) w := slice_seg l 20 22 (by omega) (by omega)
    have s6 : ∀ w, (Instr.slice 9 (.string ⟨l.toArray⟩) (some (.int .i64 23)) (some (.int .i64 25)) none).run Tryz.prog w = .ok (.string ⟨(seg l 23 25).toArray⟩) w := slice_seg l 23 25 (by omega) (by omega)
    have n2 := dnum_seg l 12 16 (by omega) (by omega)
    have n3 := dnum_seg l 5 7 (by omega) (by omega)
    have n4 := dnum_seg l 17 19 (by omega) (by omega)
    have n5 := dnum_seg l 20 22 (by omega) (by omega)
    have n6 := dnum_seg l 23 25 (by omega) (by omega)
    have b2 := nm_bd (seg l 12 16) 4 (by rw [seg_len (by omega)]; omega)
    have b3 := nm_bd (seg l 5 7) 2 (by rw [seg_len (by omega)]; omega)
    have b4 := nm_bd (seg l 17 19) 2 (by rw [seg_len (by omega)]; omega)
    have b5 := nm_bd (seg l 20 22) 2 (by rw [seg_len (by omega)]; omega)
    have b6 := nm_bd (seg l 23 25) 2 (by rw [seg_len (by omega)]; omega)
    have hix : ∀ w, ML w → Calls Tryz.prog 71 #[.string ⟨#[74, 97, 110, 70, 101, 98, 77, 97, 114, 65, 112, 114, 77, 97, 121, 74, 117, 110, 74, 117, 108, 65, 117, 103, 83, 101, 112, 79, 99, 116, 78, 111, 118, 68, 101, 99]⟩, .string ⟨(seg l 8 11).toArray⟩] w fun e w' => e = .returned (.int .i64 (Lib.index monL (seg l 8 11))) ∧ w = w' := fun w hM => w_Index monL (seg l 8 11) (by decide) w hM
    have hixc := index_cases monL (seg l 8 11)
    rw [seg_len (by omega)] at hixc
    generalize seg l 8 11 = M0 at *
    generalize seg l 12 16 = M2 at *
    generalize seg l 5 7 = M3 at *
    generalize seg l 17 19 = M4 at *
    generalize seg l 20 22 = M5 at *
    generalize seg l 23 25 = M6 at *
    generalize nm M2 = a at *
    generalize nm M3 = d at *
    generalize nm M4 = hh at *
    generalize nm M5 = mi at *
    generalize nm M6 = se at *
    generalize Lib.index monL M0 = m0 at *
    rw [show ((10 ^ 4 : Nat) : Int) = 10000 from rfl] at b2
    rw [show ((10 ^ 2 : Nat) : Int) = 100 from rfl] at b3 b4 b5 b6
    obtain ⟨b20, b21⟩ := b2
    obtain ⟨b30, b31⟩ := b3
    obtain ⟨b40, b41⟩ := b4
    obtain ⟨b50, b51⟩ := b5
    obtain ⟨b60, b61⟩ := b6
    have hmon : monL.length = 36 := rfl
    rw [hmon] at hixc
    rcases hixc with hm | ⟨j, hm, hj⟩
    · subst hm
      have Hno := Lib.hid (hno fun k h => by have := hg1 k h; omega)
      clear hno hN hmk hg1 hg2 hg3 hg4 hg5 hgood
      rcases hd : daysIn a (((0 : Nat) : Int) + 1) d with _ | _
      · have hDy : ∀ w, Calls Tryz.prog 111 #[.int .i64 a, .int .i64 (1), .int .i64 d] w fun e w' => e = .returned (.tuple #[.int .i64 0, .int .i64 1]) ∧ w = w' := fun w => by
          have := w_Days_out a (((0 : Nat) : Int) + 1) d hd w
          rw [show (((0 : Nat) : Int) + 1) = 1 from rfl] at this
          exact this
        clear hd
        go_enter Tryz.func51, Tryz.ntmps51
        go_wp2_with fail
        refine (hix _ hM).mono ?_
        rintro e w1 ⟨rfl, rfl⟩
        go_wp2_with fail
        go_region_with (first
          | (go_at_call 112; (with_reducible refine Calls.mono (n2 _) ?_); rintro e w' ⟨rfl, rfl⟩)
          | (go_at_call 112; (with_reducible refine Calls.mono (n3 _) ?_); rintro e w' ⟨rfl, rfl⟩)
          | (go_at_call 111; refine (hDy _).mono ?_; rintro e w' ⟨rfl, rfl⟩))
        go_wp2_with fail
        go_region_with (first
          | (go_at_call 112; (with_reducible refine Calls.mono (n4 _) ?_); rintro e w' ⟨rfl, rfl⟩)
          | (go_at_call 112; (with_reducible refine Calls.mono (n5 _) ?_); rintro e w' ⟨rfl, rfl⟩)
          | (go_at_call 112; (with_reducible refine Calls.mono (n6 _) ?_); rintro e w' ⟨rfl, rfl⟩))
        go_wp2_with fail
        all_goals
          go_ret2
          exact DateOut.no Hno.out (Below.refl _ _).drew.drew
      · rw [daysIn_iff (by omega)] at hd
        obtain ⟨y0, y1, d0, d1⟩ := hd
        obtain ⟨D, hD⟩ : ∃ D, yd a + cum a 0 + d - 1 = D := ⟨_, rfl⟩
        have hDb := dayN_bd y0 y1 (show 0 < 12 by omega) d0 d1
        unfold dayN at hDb
        rw [hD] at hDb
        obtain ⟨hD0, hD1⟩ := hDb
        have hDy : ∀ w, Calls Tryz.prog 111 #[.int .i64 a, .int .i64 (1), .int .i64 d] w fun e w' => e = .returned (.tuple #[.int .i64 D, .int .i64 0]) ∧ w = w' := fun w => by
          have := w_Days_in a d 0 (by omega) y0 y1 d0 d1 w
          rw [show (((0 : Nat) : Int) + 1) = 1 from rfl] at this
          rw [show yd a + cum a _ + d - 1 = D from hD] at this
          exact this
        clear hD y0 y1 d0 d1
        go_enter Tryz.func51, Tryz.ntmps51
        go_wp2_with fail
        refine (hix _ hM).mono ?_
        rintro e w1 ⟨rfl, rfl⟩
        go_wp2_with fail
        go_region_with (first
          | (go_at_call 112; (with_reducible refine Calls.mono (n2 _) ?_); rintro e w' ⟨rfl, rfl⟩)
          | (go_at_call 112; (with_reducible refine Calls.mono (n3 _) ?_); rintro e w' ⟨rfl, rfl⟩)
          | (go_at_call 111; refine (hDy _).mono ?_; rintro e w' ⟨rfl, rfl⟩))
        go_wp2_with fail
        go_region_with (first
          | (go_at_call 112; (with_reducible refine Calls.mono (n4 _) ?_); rintro e w' ⟨rfl, rfl⟩)
          | (go_at_call 112; (with_reducible refine Calls.mono (n5 _) ?_); rintro e w' ⟨rfl, rfl⟩)
          | (go_at_call 112; (with_reducible refine Calls.mono (n6 _) ?_); rintro e w' ⟨rfl, rfl⟩))
        go_wp2_with fail
        all_goals
          go_ret2
          exact DateOut.no Hno.out (Below.refl _ _).drew.drew
    · subst hm
      have hj33 : j ≤ 33 := by omega
      have e1 : (j : Int).tdiv 3 = (j : Int) / 3 := Int.tdiv_eq_ediv_of_nonneg (by omega)
      have e2 : IntKind.i64.wrap ((j : Int) / 3) = (j : Int) / 3 := IntWalk.i64_in _ ⟨by omega, by omega⟩
      have e3 : IntKind.i64.wrap ((j : Int) / 3 + 1) = (j : Int) / 3 + 1 := IntWalk.i64_in _ ⟨by omega, by omega⟩
      rcases hd : daysIn a ((((j / 3) : Nat) : Int) + 1) d with _ | _
      · have Hno := Lib.hid (hno fun k h => by have h1 := hg1 k h; have h2 := hg2 k h; rw [show k = j / 3 from by omega, hd] at h2; cases h2)
        have hDy : ∀ w, Calls Tryz.prog 111 #[.int .i64 a, .int .i64 ((j : Int) / 3 + 1), .int .i64 d] w fun e w' => e = .returned (.tuple #[.int .i64 0, .int .i64 1]) ∧ w = w' := fun w => by
          have := w_Days_out a ((((j / 3) : Nat) : Int) + 1) d hd w
          rw [show ((((j / 3) : Nat) : Int) + 1) = (j : Int) / 3 + 1 from by omega] at this
          exact this
        clear hno hN hmk hg1 hg2 hg3 hg4 hg5 hgood
        clear hd
        go_enter Tryz.func51, Tryz.ntmps51
        go_wp2_with fail
        refine (hix _ hM).mono ?_
        rintro e w1 ⟨rfl, rfl⟩
        go_wp2_with fail
        go_region_with (first
          | (go_at_call 112; (with_reducible refine Calls.mono (n2 _) ?_); rintro e w' ⟨rfl, rfl⟩)
          | (go_at_call 112; (with_reducible refine Calls.mono (n3 _) ?_); rintro e w' ⟨rfl, rfl⟩)
          | (go_at_call 111; refine (hDy _).mono ?_; rintro e w' ⟨rfl, rfl⟩))
        go_wp2_with fail
        go_region_with (first
          | (go_at_call 112; (with_reducible refine Calls.mono (n4 _) ?_); rintro e w' ⟨rfl, rfl⟩)
          | (go_at_call 112; (with_reducible refine Calls.mono (n5 _) ?_); rintro e w' ⟨rfl, rfl⟩)
          | (go_at_call 112; (with_reducible refine Calls.mono (n6 _) ?_); rintro e w' ⟨rfl, rfl⟩))
        go_wp2_with fail
        all_goals
          go_ret2
          exact DateOut.no Hno.out (Below.refl _ _).drew.drew
      · rw [daysIn_iff (by omega)] at hd
        obtain ⟨y0, y1, d0, d1⟩ := hd
        obtain ⟨D, hD⟩ : ∃ D, yd a + cum a (j / 3) + d - 1 = D := ⟨_, rfl⟩
        have hDb := dayN_bd y0 y1 (show (j / 3) < 12 by omega) d0 d1
        unfold dayN at hDb
        rw [hD] at hDb
        obtain ⟨hD0, hD1⟩ := hDb
        have hDy : ∀ w, Calls Tryz.prog 111 #[.int .i64 a, .int .i64 ((j : Int) / 3 + 1), .int .i64 d] w fun e w' => e = .returned (.tuple #[.int .i64 D, .int .i64 0]) ∧ w = w' := fun w => by
          have := w_Days_in a d (j / 3) (by omega) y0 y1 d0 d1 w
          rw [show ((((j / 3) : Nat) : Int) + 1) = (j : Int) / 3 + 1 from by omega] at this
          rw [show yd a + cum a _ + d - 1 = D from hD] at this
          exact this
        by_cases h4 : j % 3 = 0
        · by_cases h123 : 0 ≤ hh ∧ 0 ≤ mi ∧ 0 ≤ se
          · obtain ⟨h1, h2, h3⟩ := h123
            have h5 : (j : Int) % 3 = 0 := by omega
            have Hg := Lib.hid (hmk (j / 3) (by omega) (by omega) (by rw [daysIn_iff (by omega)]; exact ⟨y0, y1, d0, d1⟩) h1 h2 h3)
            have HN := Lib.hid (hN (j / 3))
            have Hw := Lib.hid (fun n (hn : isDate n l) => (by
              obtain ⟨k, hk, hkn⟩ := hgood n hn
              have := hg1 k hk
              have : k = j / 3 := by omega
              subst this
              exact hkn : pN l (j / 3) = n))
            clear hno hN hmk hg1 hg2 hg3 hg4 hg5 hgood
            have hNd : pN l (j / 3) = D * 86400 + hh * 3600 + mi * 60 + se := by rw [HN.out]; unfold dayN; rw [hD]
            rw [hNd] at Hw
            clear hNd HN Hg hD y0 y1 d0 d1
            obtain ⟨N, hNN⟩ : ∃ N, D * 86400 + hh * 3600 + mi * 60 + se = N := ⟨_, rfl⟩
            rw [hNN] at Hw
            have hN0 : 0 ≤ N := by omega
            by_cases hNm : N ≤ 253402300799
            · obtain ⟨y, m, r, hc⟩ := civil_exists (N / 86400).toNat
              rw [show (((N / 86400).toNat : Nat) : Int) = N / 86400 from by omega] at hc
              have hpr := fun w hP => w_Print N y r m hc hN0 hNm w hP
              have hiff := isDate_at (l := l) hc hN0 hNm
              obtain ⟨T, hT⟩ : ∃ T, dateL N y m r = T := ⟨_, rfl⟩
              rw [hT] at hpr
              rw [hT] at hiff
              clear hc hT
              by_cases hTl : T = l
              · have Hd := Lib.hid (hiff.2 hTl)
                clear hiff
                subst hTl
                go_enter Tryz.func51, Tryz.ntmps51
                go_wp2_with fail
                refine (hix _ hM).mono ?_
                rintro e w1 ⟨rfl, rfl⟩
                go_wp2_with fail
                go_region_with (first
                  | (go_at_call 112; (with_reducible refine Calls.mono (n2 _) ?_); rintro e w' ⟨rfl, rfl⟩)
                  | (go_at_call 112; (with_reducible refine Calls.mono (n3 _) ?_); rintro e w' ⟨rfl, rfl⟩)
                  | (go_at_call 111; refine (hDy _).mono ?_; rintro e w' ⟨rfl, rfl⟩))
                go_wp2_with fail
                go_region_with (first
                  | (go_at_call 112; (with_reducible refine Calls.mono (n4 _) ?_); rintro e w' ⟨rfl, rfl⟩)
                  | (go_at_call 112; (with_reducible refine Calls.mono (n5 _) ?_); rintro e w' ⟨rfl, rfl⟩)
                  | (go_at_call 112; (with_reducible refine Calls.mono (n6 _) ?_); rintro e w' ⟨rfl, rfl⟩))
                go_wp2_with fail
                refine (hpr _ hP.drew.drew).mono ?_
                rintro e w5 ⟨rfl, hb5⟩
                go_wp2_with fail
                go_ret2
                exact DateOut.yes Hd.out ((Below.refl _ _).drew.drew.trans hb5)
              · have Hno := Lib.hid (fun n (hn : isDate n l) => (by have := Hw.out n hn; rw [← this] at hn; exact hTl (hiff.1 hn) : False))
                have hTb : (T == l) = false := by simpa using hTl
                clear hiff hTl
                go_enter Tryz.func51, Tryz.ntmps51
                go_wp2_with fail
                refine (hix _ hM).mono ?_
                rintro e w1 ⟨rfl, rfl⟩
                go_wp2_with fail
                go_region_with (first
                  | (go_at_call 112; (with_reducible refine Calls.mono (n2 _) ?_); rintro e w' ⟨rfl, rfl⟩)
                  | (go_at_call 112; (with_reducible refine Calls.mono (n3 _) ?_); rintro e w' ⟨rfl, rfl⟩)
                  | (go_at_call 111; refine (hDy _).mono ?_; rintro e w' ⟨rfl, rfl⟩))
                go_wp2_with fail
                go_region_with (first
                  | (go_at_call 112; (with_reducible refine Calls.mono (n4 _) ?_); rintro e w' ⟨rfl, rfl⟩)
                  | (go_at_call 112; (with_reducible refine Calls.mono (n5 _) ?_); rintro e w' ⟨rfl, rfl⟩)
                  | (go_at_call 112; (with_reducible refine Calls.mono (n6 _) ?_); rintro e w' ⟨rfl, rfl⟩))
                go_wp2_with fail
                refine (hpr _ hP.drew.drew).mono ?_
                rintro e w5 ⟨rfl, hb5⟩
                go_wp2_with fail
                go_ret2
                exact DateOut.no Hno.out ((Below.refl _ _).drew.drew.trans hb5)
            · have Hno := Lib.hid (fun n (hn : isDate n l) => (by have := Hw.out n hn; obtain ⟨_, _, _, _, _, h8, _⟩ := hn; omega : False))
              have hpr := fun w => w_Print_out N (.inr (by omega)) w
              go_enter Tryz.func51, Tryz.ntmps51
              go_wp2_with fail
              refine (hix _ hM).mono ?_
              rintro e w1 ⟨rfl, rfl⟩
              go_wp2_with fail
              go_region_with (first
                | (go_at_call 112; (with_reducible refine Calls.mono (n2 _) ?_); rintro e w' ⟨rfl, rfl⟩)
                | (go_at_call 112; (with_reducible refine Calls.mono (n3 _) ?_); rintro e w' ⟨rfl, rfl⟩)
                | (go_at_call 111; refine (hDy _).mono ?_; rintro e w' ⟨rfl, rfl⟩))
              go_wp2_with fail
              go_region_with (first
                | (go_at_call 112; (with_reducible refine Calls.mono (n4 _) ?_); rintro e w' ⟨rfl, rfl⟩)
                | (go_at_call 112; (with_reducible refine Calls.mono (n5 _) ?_); rintro e w' ⟨rfl, rfl⟩)
                | (go_at_call 112; (with_reducible refine Calls.mono (n6 _) ?_); rintro e w' ⟨rfl, rfl⟩))
              go_wp2_with fail
              refine (hpr _).mono ?_
              rintro e w5 ⟨rfl, rfl⟩
              go_wp2_with fail
              go_ret2
              exact DateOut.no Hno.out (Below.refl _ _).drew.drew
          · have Hno := Lib.hid (hno fun k h => h123 ⟨hg3 k h, hg4 k h, hg5 k h⟩)
            clear hno hN hmk hg1 hg2 hg3 hg4 hg5 hgood
            clear hD y0 y1 d0 d1
            go_enter Tryz.func51, Tryz.ntmps51
            go_wp2_with fail
            refine (hix _ hM).mono ?_
            rintro e w1 ⟨rfl, rfl⟩
            go_wp2_with fail
            go_region_with (first
              | (go_at_call 112; (with_reducible refine Calls.mono (n2 _) ?_); rintro e w' ⟨rfl, rfl⟩)
              | (go_at_call 112; (with_reducible refine Calls.mono (n3 _) ?_); rintro e w' ⟨rfl, rfl⟩)
              | (go_at_call 111; refine (hDy _).mono ?_; rintro e w' ⟨rfl, rfl⟩))
            go_wp2_with fail
            go_region_with (first
              | (go_at_call 112; (with_reducible refine Calls.mono (n4 _) ?_); rintro e w' ⟨rfl, rfl⟩)
              | (go_at_call 112; (with_reducible refine Calls.mono (n5 _) ?_); rintro e w' ⟨rfl, rfl⟩)
              | (go_at_call 112; (with_reducible refine Calls.mono (n6 _) ?_); rintro e w' ⟨rfl, rfl⟩))
            go_wp2_with fail
            all_goals
              go_ret2
              exact DateOut.no Hno.out (Below.refl _ _).drew.drew
        · have Hno := Lib.hid (hno fun k h => by have := hg1 k h; omega)
          clear hno hN hmk hg1 hg2 hg3 hg4 hg5 hgood
          clear hD y0 y1 d0 d1
          go_enter Tryz.func51, Tryz.ntmps51
          go_wp2_with fail
          refine (hix _ hM).mono ?_
          rintro e w1 ⟨rfl, rfl⟩
          go_wp2_with fail
          go_region_with (first
            | (go_at_call 112; (with_reducible refine Calls.mono (n2 _) ?_); rintro e w' ⟨rfl, rfl⟩)
            | (go_at_call 112; (with_reducible refine Calls.mono (n3 _) ?_); rintro e w' ⟨rfl, rfl⟩)
            | (go_at_call 111; refine (hDy _).mono ?_; rintro e w' ⟨rfl, rfl⟩))
          go_wp2_with fail
          go_region_with (first
            | (go_at_call 112; (with_reducible refine Calls.mono (n4 _) ?_); rintro e w' ⟨rfl, rfl⟩)
            | (go_at_call 112; (with_reducible refine Calls.mono (n5 _) ?_); rintro e w' ⟨rfl, rfl⟩)
            | (go_at_call 112; (with_reducible refine Calls.mono (n6 _) ?_); rintro e w' ⟨rfl, rfl⟩))
          go_wp2_with fail
          all_goals
            go_ret2
            exact DateOut.no Hno.out (Below.refl _ _).drew.drew

  · have hno : ∀ n, ¬ isDate n l := fun n h => by obtain ⟨k, hk, _⟩ := hgood n h; exact hlen hk.len
    have hI2 : (((l.length : Nat) : Int) == 29) = false := by simp; omega
    have Hno := Lib.hid hno
    clear hno hgood
    go_enter Tryz.func51, Tryz.ntmps51
    go_wp2_with fail
    go_ret2
    exact DateOut.no Hno.out (Below.refl _ _)
end Go.Proofs.YtemjoiaapfhenaaGreatDoor
