/- Walk: a status line, parsed: the program's. -/
import Derived.Test.YtfgjbflddabdcaaGreatDoorWStat
namespace Go.Proofs.YtfgjbflddabdcaaGreatDoor
open Go.RowKit Go.Larder
set_option linter.unusedVariables false
set_option linter.unusedSimpArgs false
def StOut (w : World) (x : Int × List UInt8 × Int × Int) (e : Ending) (w' : World) : Prop := e = .returned (.tuple #[.int .i64 x.1, S x.2.1, .int .i64 x.2.2.1, .int .i64 x.2.2.2]) ∧ Below w.heap.size w w'
theorem stOut_no {w w' : World} {x : Int × List UInt8 × Int × Int} {n : Int} (h : x = (0, [], 0, n)) (hb : Below w.heap.size w w') : StOut w x (.returned (.tuple #[.int .i64 0, S [], .int .i64 0, .int .i64 n])) w' := by subst h; exact ⟨rfl, hb⟩
theorem stOut_yes {w w' : World} {x : Int × List UInt8 × Int × Int} {c : Int} {r : List UInt8} {k k' : Int} (h : x = (c, r, k, 0)) (hk : k' = k) (hb : Below w.heap.size w w') : StOut w x (.returned (.tuple #[.int .i64 c, S r, .int .i64 k', .int .i64 0])) w' := by subst h; subst hk; exact ⟨rfl, hb⟩
set_option maxHeartbeats 4000000 in
theorem w_ParseStatus (s : List UInt8) (hs : s.length ≤ 1048576) (w : World) (hM : ML w) (hP : PW w) (hE : EV w) :
    Calls Tryz.prog 28 #[S s] w (StOut w (stRes s)) := by
  have hf := w_first s hs w hM
  obtain ⟨R, hR⟩ : ∃ R, stRes s = R := ⟨_, rfl⟩
  rw [hR]
  cases hle : lineE s 300 with
  | error n =>
    rw [hle] at hf
    have hn : (n == 0) = false := by simpa using line_err hle
    rw [stRes_err hle] at hR
    have HR := Lib.hid hR.symm
    clear hle hR
    go_enter Tryz.func28, Tryz.ntmps28
    go_wp2_with fail
    refine hf.mono ?_
    rintro e w1 ⟨rfl, hb1⟩
    go_wp2_with fail
    ((try simp only [Exit.inBlock, Exit.then]); refine bodyPost_ret (results_tmp4 rfl _ _ _) rfl ?_)
    exact stOut_no HR.out hb1
  | ok l =>
    rw [hle] at hf
    obtain ⟨hl1, _⟩ := line_len hle
    have hsp := fun W hMW => w_SplitN3 l 32 (by omega) W hMW
    have hmem : ∀ p ∈ Lib.splitN l [32] 3, p.length ≤ l.length := fun p hp => splitK_mem 32 _ l p hp
    have Hle := Lib.hid hle
    have HR := Lib.hid hR
    clear hle hR
    by_cases h3 : (Lib.splitN l [32] 3).length = 3
    · obtain ⟨a, b, d, hw⟩ : ∃ a b d, Lib.splitN l [32] 3 = [a, b, d] := by
        match hx : Lib.splitN l [32] 3, h3 with
        | [a, b, d], _ => exact ⟨a, b, d, rfl⟩
      have Hw := Lib.hid hw
      rw [hw] at hsp hmem
      have hbl := hmem b (by simp)
      have hdl := hmem d (by simp)
      have hat := fun W hEW => w_Atoi b (by omega) W hEW
      clear hw hmem h3
      go_enter Tryz.func28, Tryz.ntmps28
      go_wp2_with fail
      refine hf.mono ?_
      rintro e w1 ⟨rfl, hb1⟩
      have hM1 := hM.keep hb1
      have hP1 := hP.keep hb1
      have hE1 := hE.keep hb1
      go_wp2_with fail
      refine (hsp _ hM1).mono ?_
      rintro e w2 ⟨⟨kk, rfl⟩, hown, hb2⟩
      have hM2 := hM1.keep hb2
      have hP2 := hP1.keep hb2
      have hE2 := hE1.keep hb2
      have hB2 := hb1.trans (hb2.mono hb1.size)
      obtain ⟨gb, goff, hge, hgl, g1⟩ := hown.at_S (k := 1) rfl
      obtain ⟨gb', goff', hge', hgl', g2⟩ := hown.at_S (k := 2) rfl
      simp only [Option.some.injEq, Addr.mk.injEq] at hge hge'
      obtain ⟨rfl, rfl, _⟩ := hge
      obtain ⟨rfl, rfl, _⟩ := hge'
      go_wp2_with fail
      refine (hat _ hE2).mono ?_
      rintro e w3 ⟨hout, hb3⟩
      have hM3 := hM2.keep hb3
      have hP3 := hP2.keep hb3
      have hB3 := hB2.trans (hb3.mono hB2.size)
      have k2 : w3.cell? ⟨w1.heap.size, 2, none⟩ = some (S d) := (hb3.cell (p := ⟨w1.heap.size, 2, none⟩) hgl').trans g2
      rcases hout with ⟨v, hv, rfl⟩ | ⟨v, tt, pp, hvr, hv, rfl⟩
      · have hps := fun W hMW hPW => w_PrintStatus v d W hMW hPW
        cases hse : statE v d with
        | error n =>
          have hn : (n == 0) = false := by simpa using statE_err hse
          rw [hse] at hps
          have HR2 := Lib.hid (show R = (0, [], 0, 3) from by rw [← HR.out]; exact stRes_no Hle.out (no_of_print Hw.out hv (by rw [hse]; intro h; cases h)))
          clear hse hv HR Hle Hw
          go_wp2_with fail
          refine (hps _ hM3 hP3).mono ?_
          rintro e w4 ⟨rfl, hb4⟩
          go_wp2_with fail
          ((try simp only [Exit.inBlock, Exit.then]); refine bodyPost_ret (results_tmp4 rfl _ _ _) rfl ?_)
          exact stOut_no HR2.out (hB3.trans (hb4.mono hB3.size))
        | ok t =>
          rw [hse] at hps
          have htl := statE_len hse
          cases ht : (t == l ++ [13, 10])
          · have HR2 := Lib.hid (show R = (0, [], 0, 3) from by rw [← HR.out]; exact stRes_no Hle.out (no_of_print Hw.out hv (by rw [hse]; intro h; injection h with h; rw [h] at ht; simp at ht)))
            clear hse hv HR Hle Hw
            go_wp2_with fail
            refine (hps _ hM3 hP3).mono ?_
            rintro e w4 ⟨rfl, hb4⟩
            go_wp2_with fail
            ((try simp only [Exit.inBlock, Exit.then]); refine bodyPost_ret (results_tmp4 rfl _ _ _) rfl ?_)
            exact stOut_no HR2.out (hB3.trans (hb4.mono hB3.size))
          · have ht2 : t = l ++ [13, 10] := by simpa using ht
            subst ht2
            have HR2 := Lib.hid (show R = (v, d, (l.length : Int) + 2, 0) from by rw [← HR.out]; exact stRes_yes Hle.out (statE_is.1 hse))
            clear hse hv HR Hle Hw ht htl
            go_wp2_with fail
            refine (hps _ hM3 hP3).mono ?_
            rintro e w4 ⟨rfl, hb4⟩
            have k24 : w4.cell? ⟨w1.heap.size, 2, none⟩ = some (S d) := (hb4.cell (p := ⟨w1.heap.size, 2, none⟩) (Nat.lt_of_lt_of_le hgl' hb3.size)).trans k2
            go_wp2_with fail
            go_region
            all_goals go_wp2
            all_goals
              ((try simp only [Exit.inBlock, Exit.then]); refine bodyPost_ret (results_tmp4 rfl _ _ _) rfl ?_)
              exact stOut_yes HR2.out (by simp) (hB3.trans (hb4.mono hB3.size)).drew
      · have hps := fun W hMW hPW => w_PrintStatus v d W hMW hPW
        have HR2 := Lib.hid (show R = (0, [], 0, 3) from by rw [← HR.out]; exact stRes_no Hle.out (no_of_atoi Hw.out hv))
        clear hv HR Hle Hw
        cases hse : statE v d with
        | error n =>
          have hn : (n == 0) = false := by simpa using statE_err hse
          rw [hse] at hps
          clear hse
          go_wp2_with fail
          refine (hps _ hM3 hP3).mono ?_
          rintro e w4 ⟨rfl, hb4⟩
          go_wp2_with fail
          ((try simp only [Exit.inBlock, Exit.then]); refine bodyPost_ret (results_tmp4 rfl _ _ _) rfl ?_)
          exact stOut_no HR2.out (hB3.trans (hb4.mono hB3.size))
        | ok t =>
          rw [hse] at hps
          have htl := statE_len hse
          clear hse
          go_wp2_with fail
          refine (hps _ hM3 hP3).mono ?_
          rintro e w4 ⟨rfl, hb4⟩
          go_wp2_with fail
          ((try simp only [Exit.inBlock, Exit.then]); refine bodyPost_ret (results_tmp4 rfl _ _ _) rfl ?_)
          exact stOut_no HR2.out (hB3.trans (hb4.mono hB3.size))
    · have HR2 := Lib.hid (show R = (0, [], 0, 3) from by rw [← HR.out]; exact stRes_no Hle.out (no_of_len h3))
      have hne3 : (((Lib.splitN l [32] 3).length : Int) == 3) = false := by rw [beq_eq_false_iff_ne]; omega
      clear h3 HR Hle hmem
      generalize Lib.splitN l [32] 3 = ws at *
      go_enter Tryz.func28, Tryz.ntmps28
      go_wp2_with fail
      refine hf.mono ?_
      rintro e w1 ⟨rfl, hb1⟩
      have hM1 := hM.keep hb1
      go_wp2_with fail
      refine (hsp _ hM1).mono ?_
      rintro e w2 ⟨⟨kk, rfl⟩, hown, hb2⟩
      go_wp2_with fail
      ((try simp only [Exit.inBlock, Exit.then]); refine bodyPost_ret (results_tmp4 rfl _ _ _) rfl ?_)
      exact stOut_no HR2.out (hb1.trans (hb2.mono hb1.size))
end Go.Proofs.YtfgjbflddabdcaaGreatDoor
