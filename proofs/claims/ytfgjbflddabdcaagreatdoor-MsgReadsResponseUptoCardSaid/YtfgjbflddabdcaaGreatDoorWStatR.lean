/- Walk: a status line, parsed: the reference's. -/
import Derived.Test.YtfgjbflddabdcaaGreatDoorWStatP
namespace Go.Proofs.YtfgjbflddabdcaaGreatDoor
open Go.RowKit Go.Larder
set_option linter.unusedVariables false
set_option linter.unusedSimpArgs false
set_option maxHeartbeats 4000000 in
theorem w_LineStatusOf (s : List UInt8) (hs : s.length ≤ 1048576) (w : World) (hM : ML w) :
    Calls Tryz.prog 29 #[S s] w (StOut w (stRes s)) := by
  have hf := w_lineOf s hs 300 (by omega) w hM
  obtain ⟨R, hR⟩ : ∃ R, stRes s = R := ⟨_, rfl⟩
  rw [hR]
  cases hle : lineE s 300 with
  | error n =>
    rw [hle] at hf
    have hn : (n == 0) = false := by simpa using line_err hle
    rw [stRes_err hle] at hR
    have HR := Lib.hid hR.symm
    clear hle hR
    go_enter Tryz.func29, Tryz.ntmps29
    go_wp2_with fail
    refine hf.mono ?_
    rintro e w1 ⟨rfl, rfl⟩
    go_wp2_with fail
    ((try simp only [Exit.inBlock, Exit.then]); refine bodyPost_ret (results_tmp4 rfl _ _ _) rfl ?_)
    exact stOut_no HR.out (Below.refl _ _)
  | ok l =>
    rw [hle] at hf
    obtain ⟨hl1, _⟩ := line_len hle
    have Hle := Lib.hid hle
    have HR := Lib.hid hR
    clear hle hR
    by_cases h13 : l.length < 13
    · have HR2 := Lib.hid (show R = (0, [], 0, 3) from by rw [← HR.out]; exact stRes_no Hle.out (short_no h13))
      clear HR Hle
      go_enter Tryz.func29, Tryz.ntmps29
      go_wp2_with fail
      refine hf.mono ?_
      rintro e w1 ⟨rfl, rfl⟩
      go_wp2_with fail
      ((try simp only [Exit.inBlock, Exit.then]); refine bodyPost_ret (results_tmp4 rfl _ _ _) rfl ?_)
      exact stOut_no HR2.out (Below.refl _ _)
    · have hcn := fun W => w_count ((l.drop 9).take 3) (by rw [List.length_take]; omega) 999 (by omega) W
      have hls := fun c W => w_LineStatus c (l.drop 13) (by rw [List.length_drop]; omega) W
      have Href := Lib.hid (fun c r (h : IsStat l c r) => (is_ref h).2)
      generalize hcd : cnt ((l.drop 9).take 3) 999 = code at *
      have hd13 : (l.drop 13).take (l.length - 13) = l.drop 13 := List.take_of_length_le (by simp)
      have hls : ∀ W, Calls Tryz.prog 22 #[.int .i64 code, S ((l.drop 13).take (l.length - 13))] W (StPost W (statE code (l.drop 13))) := fun W => by rw [hd13]; exact hls code W
      have Hd13 := Lib.hid hd13
      clear hd13
      cases hse : statE code (l.drop 13) with
      | error n =>
        rw [hse] at hls
        have hn : (n == 0) = false := by simpa using statE_err hse
        have HR2 := Lib.hid (show R = (0, [], 0, 3) from by
          rw [← HR.out]
          refine stRes_no Hle.out fun c r h => ?_
          obtain ⟨e1, e2⟩ := Href.out c r h
          rw [← e1, ← e2] at h
          rw [statE_is.2 h] at hse
          cases hse)
        clear hse HR Hle Href hcd
        go_enter Tryz.func29, Tryz.ntmps29
        go_wp2_with fail
        refine hf.mono ?_
        rintro e w1 ⟨rfl, rfl⟩
        go_wp2_with fail
        refine (hcn _).mono ?_
        rintro e w1 ⟨rfl, rfl⟩
        go_wp2_with fail
        refine (hls _).mono ?_
        rintro e w2 ⟨rfl, hb2⟩
        go_wp2_with fail
        ((try simp only [Exit.inBlock, Exit.then]); refine bodyPost_ret (results_tmp4 rfl _ _ _) rfl ?_)
        exact stOut_no HR2.out hb2
      | ok t =>
        rw [hse] at hls
        have htl := statE_len hse
        cases ht : (t == l ++ [13, 10])
        · have HR2 := Lib.hid (show R = (0, [], 0, 3) from by
            rw [← HR.out]
            refine stRes_no Hle.out fun c r h => ?_
            obtain ⟨e1, e2⟩ := Href.out c r h
            rw [← e1, ← e2] at h
            rw [statE_is.2 h] at hse
            injection hse with hse
            rw [← hse] at ht
            simp at ht)
          clear hse HR Hle Href hcd
          go_enter Tryz.func29, Tryz.ntmps29
          go_wp2_with fail
          refine hf.mono ?_
          rintro e w1 ⟨rfl, rfl⟩
          go_wp2_with fail
          refine (hcn _).mono ?_
          rintro e w1 ⟨rfl, rfl⟩
          go_wp2_with fail
          refine (hls _).mono ?_
          rintro e w2 ⟨rfl, hb2⟩
          go_wp2_with fail
          ((try simp only [Exit.inBlock, Exit.then]); refine bodyPost_ret (results_tmp4 rfl _ _ _) rfl ?_)
          exact stOut_no HR2.out hb2
        · have ht2 : t = l ++ [13, 10] := by simpa using ht
          subst ht2
          have HR2 := Lib.hid (show R = (code, (l.drop 13).take (l.length - 13), (l.length : Int) + 2, 0) from by rw [Hd13.out, ← HR.out]; exact stRes_yes Hle.out (statE_is.1 hse))
          clear hse HR Hle Href hcd ht htl
          go_enter Tryz.func29, Tryz.ntmps29
          go_wp2_with fail
          refine hf.mono ?_
          rintro e w1 ⟨rfl, rfl⟩
          go_wp2_with fail
          refine (hcn _).mono ?_
          rintro e w1 ⟨rfl, rfl⟩
          go_wp2_with fail
          refine (hls _).mono ?_
          rintro e w2 ⟨rfl, hb2⟩
          have h13i : (13 : Int) ≤ (l.length : Int) := by omega
          go_wp2_with fail
          go_region
          all_goals go_wp2
          all_goals
            ((try simp only [Exit.inBlock, Exit.then]); refine bodyPost_ret (results_tmp4 rfl _ _ _) rfl ?_)
            exact stOut_yes HR2.out (by simp) (by first | exact hb2 | exact hb2.drew)
end Go.Proofs.YtfgjbflddabdcaaGreatDoor
