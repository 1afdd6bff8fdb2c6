/- Walk: a request's line, parsed: the program's. -/
import Derived.Test.YtfgjbflddabdcaaGreatDoorWReq
namespace Go.Proofs.YtfgjbflddabdcaaGreatDoor
open Go.RowKit Go.Larder
set_option linter.unusedVariables false
set_option linter.unusedSimpArgs false

set_option maxHeartbeats 1000000 in
theorem w_ParseReq (s : List UInt8) (hs : s.length ≤ 1048576) (w : World) (hM : ML w) :
    Calls Tryz.prog 23 #[S s] w (ReqPost w (parseP s)) := by
  have hf := w_first s hs w hM
  unfold parseP
  cases hle : lineE s 300 with
  | error n =>
    rw [hle] at hf
    have hn : (n == 0) = false := by simpa using line_err hle
    clear hle
    go_enter Tryz.func23, Tryz.ntmps23
    go_wp2_with (go_at_call 45; refine hf.mono ?_; rintro e w1 ⟨rfl, hb1⟩)
    ((try simp only [Exit.inBlock, Exit.then]); refine bodyPost_ret (results_tmp4 rfl _ _ _) rfl ?_)
    exact reqPost_err hb1
  | ok l =>
    rw [hle] at hf
    have hl := line_len hle
    clear hle
    obtain ⟨hl1, _⟩ := hl
    have hsp := fun w hM => w_Split l [32] (by omega) (by decide) w hM
    rw [split_spl] at hsp
    have hwords : ∀ p ∈ spl 32 l, p.length ≤ l.length := fun p hp => spl_mem_len hp
    have hne := spl_some 32 l
    simp only
    generalize spl 32 l = ws at hsp hwords hne ⊢
    match ws, hsp, hwords, hne with
    | [], _, _, hne => obtain ⟨p, ps, h⟩ := hne; cases h
    | [a], hsp, _, _ =>
      go_enter Tryz.func23, Tryz.ntmps23
      go_wp2_with (first
        | (go_at_call 45; refine hf.mono ?_; rintro e w1 ⟨rfl, hb1⟩; have hM1 := hM.keep hb1)
        | (go_at_call 46; refine (hsp _ hM1).mono ?_; rintro e w2 ⟨rfl, hown, hb2⟩))
      ((try simp only [Exit.inBlock, Exit.then]); refine bodyPost_ret (results_tmp4 rfl _ _ _) rfl ?_)
      exact reqPost_err (hb1.trans (hb2.mono hb1.size))
    | [a, b], hsp, _, _ =>
      go_enter Tryz.func23, Tryz.ntmps23
      go_wp2_with (first
        | (go_at_call 45; refine hf.mono ?_; rintro e w1 ⟨rfl, hb1⟩; have hM1 := hM.keep hb1)
        | (go_at_call 46; refine (hsp _ hM1).mono ?_; rintro e w2 ⟨rfl, hown, hb2⟩))
      ((try simp only [Exit.inBlock, Exit.then]); refine bodyPost_ret (results_tmp4 rfl _ _ _) rfl ?_)
      exact reqPost_err (hb1.trans (hb2.mono hb1.size))
    | [a, b, c], hsp, hwords, _ =>
      have ha := hwords a (by simp)
      have hb := hwords b (by simp)
      have hc := hwords c (by simp)
      clear hwords
      have hm := fun w => w_isMethod a (by omega) w
      have ht := fun w => w_isTarget b (by omega) w
      have hr := reqOK_two a b
      simp only
      cases hv : (c == verL)
      · rw [Bool.false_and, if_neg (by simp)]
        have hv2 : (c == [72, 84, 84, 80, 47, 49, 46, 49]) = false := hv
        clear hv hr
        go_enter Tryz.func23, Tryz.ntmps23
        go_wp2_with (first
          | (go_at_call 45; refine hf.mono ?_; rintro e w1 ⟨rfl, hb1⟩; have hM1 := hM.keep hb1)
          | (go_at_call 46; refine (hsp _ hM1).mono ?_; rintro e w2 ⟨rfl, hown, hb2⟩
             have g0 := hown.get_S (j := 0) rfl
             have g1 := hown.get_S (j := 1) rfl
             have g2 := hown.get_S (j := 2) rfl))
        ((try simp only [Exit.inBlock, Exit.then]); refine bodyPost_ret (results_tmp4 rfl _ _ _) rfl ?_)
        exact reqPost_err (hb1.trans (hb2.mono hb1.size))
      · have hv2 : c = [72, 84, 84, 80, 47, 49, 46, 49] := by simpa [verL] using hv
        subst hv2
        rw [Bool.true_and]
        clear hv
        cases hq1 : (isTok a && decide (a.length ≤ 30))
        · rw [hq1] at hr
          simp only [hq1] at hm
          rw [hr, if_neg (by simp)]
          clear hq1 hr
          go_enter Tryz.func23, Tryz.ntmps23
          go_wp2_with (first
            | (go_at_call 45; refine hf.mono ?_; rintro e w1 ⟨rfl, hb1⟩; have hM1 := hM.keep hb1)
            | (go_at_call 30; refine (hm _).mono ?_; rintro e w' ⟨rfl, rfl⟩)
            | (go_at_call 46; refine (hsp _ hM1).mono ?_; rintro e w2 ⟨rfl, hown, hb2⟩
               have g0 := hown.get_S (j := 0) rfl
               have g1 := hown.get_S (j := 1) rfl
               have g2 := hown.get_S (j := 2) rfl))
          ((try simp only [Exit.inBlock, Exit.then]); refine bodyPost_ret (results_tmp4 rfl _ _ _) rfl ?_)
          exact reqPost_err (hb1.trans (hb2.mono hb1.size))
        · cases hq2 : tgtOK b
          · rw [hq1, hq2] at hr
            simp only [hq1] at hm
            simp only [hq2] at ht
            rw [hr, if_neg (by simp)]
            clear hq1 hq2 hr
            go_enter Tryz.func23, Tryz.ntmps23
            go_wp2_with (first
              | (go_at_call 45; refine hf.mono ?_; rintro e w1 ⟨rfl, hb1⟩; have hM1 := hM.keep hb1)
              | (go_at_call 30; refine (hm _).mono ?_; rintro e w' ⟨rfl, rfl⟩)
              | (go_at_call 31; refine (ht _).mono ?_; rintro e w' ⟨rfl, rfl⟩)
              | (go_at_call 46; refine (hsp _ hM1).mono ?_; rintro e w2 ⟨rfl, hown, hb2⟩
                 have g0 := hown.get_S (j := 0) rfl
                 have g1 := hown.get_S (j := 1) rfl
                 have g2 := hown.get_S (j := 2) rfl))
            ((try simp only [Exit.inBlock, Exit.then]); refine bodyPost_ret (results_tmp4 rfl _ _ _) rfl ?_)
            exact reqPost_err (hb1.trans (hb2.mono hb1.size))
          · rw [hq1, hq2] at hr
            simp only [hq1] at hm
            simp only [hq2] at ht
            rw [hr, if_pos (by simp)]
            clear hq1 hq2 hr
            go_enter Tryz.func23, Tryz.ntmps23
            go_wp2_with (first
              | (go_at_call 45; refine hf.mono ?_; rintro e w1 ⟨rfl, hb1⟩; have hM1 := hM.keep hb1)
              | (go_at_call 30; refine (hm _).mono ?_; rintro e w' ⟨rfl, rfl⟩)
              | (go_at_call 31; refine (ht _).mono ?_; rintro e w' ⟨rfl, rfl⟩)
              | (go_at_call 46; refine (hsp _ hM1).mono ?_; rintro e w2 ⟨rfl, hown, hb2⟩
                 have g0 := hown.get_S (j := 0) rfl
                 have g1 := hown.get_S (j := 1) rfl
                 have g2 := hown.get_S (j := 2) rfl))
            go_region
            all_goals go_wp2
            all_goals
              ((try simp only [Exit.inBlock, Exit.then]); refine bodyPost_ret (results_tmp4 rfl _ _ _) rfl ?_)
              exact reqPost_ok (by simp) (hb1.trans (hb2.mono hb1.size)).drew
    | a :: b :: c :: d :: r, hsp, _, _ =>
      simp only
      have h4 : (a :: b :: c :: d :: r).length = r.length + 4 := by simp
      have hne3 : (((r.length : Int) + 4) == 3) = false := by simp; omega
      go_enter Tryz.func23, Tryz.ntmps23
      go_wp2_with (first
        | (go_at_call 45; refine hf.mono ?_; rintro e w1 ⟨rfl, hb1⟩; have hM1 := hM.keep hb1)
        | (go_at_call 46; refine (hsp _ hM1).mono ?_; rintro e w2 ⟨rfl, hown, hb2⟩))
      ((try simp only [Exit.inBlock, Exit.then]); refine bodyPost_ret (results_tmp4 rfl _ _ _) rfl ?_)
      exact reqPost_err (hb1.trans (hb2.mono hb1.size))

end Go.Proofs.YtfgjbflddabdcaaGreatDoor
