/- Walk: a directive's text: the program's. -/
import Derived.Test.YtldlbfdfaigkcaaDoorWFc0
import Derived.Test.YtldlbfdfaigkcaaDoorWQuo
import Derived.Test.YtldlbfdfaigkcaaDoorWLow
import Derived.Test.YtldlbfdfaigkcaaDoorSpecCtp
import Derived.Test.YtldlbfdfaigkcaaDoorBoxAt
import Derived.Deep.RegionWith
namespace Go.Proofs.YtldlbfdfaigkcaaDoor
open Go.RowKit Go.Larder
set_option linter.unusedVariables false
set_option linter.unusedSimpArgs false


-- an operation that was not wanted leaves undef: the guard that leans on it is read off by this
attribute [local go_sem] undef
theorem dirE_bad {n a : List UInt8} {b : Bool} (h : dirOK (n, b, a) = false) : dirE (n, b, a) = .error 3 := by unfold dirE; rw [h]; rfl
set_option maxHeartbeats 4000000 in
theorem w_text (n a : List UInt8) (b : Bool) (hn : n.length ≤ 1048576) (ha : a.length ≤ 1048576) (w : World) :
    Calls Tryd.prog 51 #[.agg #[S n, .bool b, S a]] w (StPost w (dirE (n, b, a))) := by
  have bx := BoxAt.new w [S n, .bool b, S a] 80
  have hB0 := (Below.refl w.heap.size w).alloc (Nat.le_refl _) (.cells #[S n, .bool b, S a] 80)
  have hit := fun w => w_IsToken n (by omega) w
  have hita := fun w => w_IsToken a (by omega) w
  have hlo := fun w => w_Lower n (by omega) w
  have hqu := fun w => w_Quote a (by omega) w
  obtain ⟨R, hR⟩ : ∃ R, dirE (n, b, a) = R := ⟨_, rfl⟩
  rw [hR]
  have hok : dirOK (n, b, a) = (isTok n && (n == lowL n) && (b || a.isEmpty)) := rfl
  cases ht : isTok n
  · simp only [ht] at hit
    have Hq := Lib.hid (show R = .error 3 from by rw [← hR]; exact dirE_bad (by rw [hok, ht]; rfl))
    clear hR hok ht
    go_enter Tryd.func51, Tryd.ntmps51
    go_wp2_with fail
    first
      | go_region_with (go_at_call 61; refine (hit _).mono ?_; rintro e w' ⟨rfl, rfl⟩)
      | fail
    all_goals go_wp2
    all_goals
      go_ret2
      rw [Hq.out]
      exact ⟨rfl, hB0.drew⟩
  · simp only [ht] at hit
    cases hl : (n == lowL n)
    · have Hq := Lib.hid (show R = .error 3 from by rw [← hR]; exact dirE_bad (by rw [hok, hl]; simp))
      generalize lowL n = ln at hlo hl
      clear hR hok ht
      go_enter Tryd.func51, Tryd.ntmps51
      go_wp2_with fail
      first
        | go_region_with (first
          | (go_at_call 61; refine (hit _).mono ?_; rintro e w' ⟨rfl, rfl⟩)
          | (go_at_call 99; refine (hlo _).mono ?_; rintro e w1 ⟨rfl, hb1⟩; have bx1 := bx.drew.keep hb1; have q0 := bx1.cell (j := 0) rfl; have q1 := bx1.cell (j := 1) rfl; have q2 := bx1.cell (j := 2) rfl; have hB1 := hB0.drew.trans (hb1.mono (by show w.heap.size ≤ (w.heap.push _).size; simp))))
        | fail
      all_goals go_wp2
      all_goals
        go_ret2
        rw [Hq.out]
        exact ⟨rfl, hB1⟩
    · have hln : lowL n = n := by have := hl; simp at this; exact this.symm
      rw [hln] at hlo
      have ht2 : (isTok n && (n == lowL n)) = true := by rw [ht, hl]; rfl
      clear hl hln
      cases b
      · cases a with
        | cons a0 a =>
          have Hq := Lib.hid (show R = .error 3 from by rw [← hR]; exact dirE_bad (by rw [hok]; simp))
          have hne : (a0 :: a).isEmpty = false := rfl
          generalize a0 :: a = A at *
          clear hR hok ht
          go_enter Tryd.func51, Tryd.ntmps51
          go_wp2_with fail
          first
            | go_region_with (first
              | (go_at_call 61; refine (hit _).mono ?_; rintro e w' ⟨rfl, rfl⟩)
              | (go_at_call 99; refine (hlo _).mono ?_; rintro e w1 ⟨rfl, hb1⟩; have bx1 := bx.drew.keep hb1; have q0 := bx1.cell (j := 0) rfl; have q1 := bx1.cell (j := 1) rfl; have q2 := bx1.cell (j := 2) rfl; have hB1 := hB0.drew.trans (hb1.mono (by show w.heap.size ≤ (w.heap.push _).size; simp))))
            | fail
          all_goals go_wp2
          all_goals
            go_ret2
            rw [Hq.out]
            exact ⟨rfl, hB1⟩
        | nil =>
          have Hq := Lib.hid (show R = .ok n from by rw [← hR]; unfold dirE; rw [if_pos (by rw [hok, ht2]; simp)]; rfl)
          clear hR hok ht
          go_enter Tryd.func51, Tryd.ntmps51
          go_wp2_with fail
          first
            | go_region_with (first
              | (go_at_call 61; refine (hit _).mono ?_; rintro e w' ⟨rfl, rfl⟩)
              | (go_at_call 99; refine (hlo _).mono ?_; rintro e w1 ⟨rfl, hb1⟩; have bx1 := bx.drew.keep hb1; have q0 := bx1.cell (j := 0) rfl; have q1 := bx1.cell (j := 1) rfl; have q2 := bx1.cell (j := 2) rfl; have hB1 := hB0.drew.trans (hb1.mono (by show w.heap.size ≤ (w.heap.push _).size; simp))))
            | fail
          all_goals go_wp2
          all_goals
            go_ret2
            rw [Hq.out]
            exact ⟨rfl, hB1⟩
      · have hlat : dirOK (n, true, a) = true := by rw [hok, ht2]; simp
        have hD : dirE (n, true, a) = (if isTok a = true then .ok (n ++ [61] ++ a) else match quoE a with
          | .error e => .error e
          | .ok q => .ok (n ++ [61] ++ q)) := by unfold dirE; rw [if_pos hlat]; simp only [if_true]; rfl
        rw [hD] at hR
        clear hok hlat hD ht2
        cases hta : isTok a
        · simp only [hta] at hita
          rw [hta, if_neg (by simp)] at hR
          cases hq : quoE a with
          | error e =>
            rw [hq] at hR hqu
            have Hq := Lib.hid hR.symm
            have he := quo_err hq
            clear hR hq hta
            go_enter Tryd.func51, Tryd.ntmps51
            go_wp2_with fail
            first
              | go_region_with (first
                | (go_at_call 61; refine (hit _).mono ?_; rintro e w' ⟨rfl, rfl⟩)
                | (go_at_call 99; refine (hlo _).mono ?_; rintro e w1 ⟨rfl, hb1⟩; have bx1 := bx.drew.keep hb1; have q0 := bx1.cell (j := 0) rfl; have q1 := bx1.cell (j := 1) rfl; have q2 := bx1.cell (j := 2) rfl; have hB1 := hB0.drew.trans (hb1.mono (by show w.heap.size ≤ (w.heap.push _).size; simp))))
              | fail
            all_goals go_wp2_with (first
              | (go_at_call 61; refine (hita _).mono ?_; rintro e1 w' ⟨rfl, rfl⟩)
              | (go_at_call 100; refine (hqu _).mono ?_; rintro e1 w2 ⟨rfl, hb2⟩))
            all_goals
              go_ret2
              rw [Hq.out]
              exact ⟨rfl, hB1.trans (hb2.mono hB1.size)⟩
          | ok q =>
            rw [hq] at hR hqu
            have Hq := Lib.hid hR.symm
            have hql := quo_len hq
            clear hR hq hta
            go_enter Tryd.func51, Tryd.ntmps51
            go_wp2_with fail
            first
              | go_region_with (first
                | (go_at_call 61; refine (hit _).mono ?_; rintro e w' ⟨rfl, rfl⟩)
                | (go_at_call 99; refine (hlo _).mono ?_; rintro e w1 ⟨rfl, hb1⟩; have bx1 := bx.drew.keep hb1; have q0 := bx1.cell (j := 0) rfl; have q1 := bx1.cell (j := 1) rfl; have q2 := bx1.cell (j := 2) rfl; have hB1 := hB0.drew.trans (hb1.mono (by show w.heap.size ≤ (w.heap.push _).size; simp))))
              | fail
            all_goals go_wp2_with (first
              | (go_at_call 61; refine (hita _).mono ?_; rintro e1 w' ⟨rfl, rfl⟩)
              | (go_at_call 100; refine (hqu _).mono ?_; rintro e1 w2 ⟨rfl, hb2⟩; have bx2 := bx1.keep hb2; have r0 := bx2.cell (j := 0) rfl; have r1 := bx2.cell (j := 1) rfl; have r2 := bx2.cell (j := 2) rfl))
            all_goals
              go_ret2
              rw [Hq.out]
              exact ⟨by simp, hB1.trans (hb2.mono hB1.size)⟩
        · simp only [hta] at hita
          rw [hta, if_pos rfl] at hR
          have Hq := Lib.hid hR.symm
          clear hR hta
          go_enter Tryd.func51, Tryd.ntmps51
          go_wp2_with fail
          first
            | go_region_with (first
              | (go_at_call 61; refine (hit _).mono ?_; rintro e w' ⟨rfl, rfl⟩)
              | (go_at_call 99; refine (hlo _).mono ?_; rintro e w1 ⟨rfl, hb1⟩; have bx1 := bx.drew.keep hb1; have q0 := bx1.cell (j := 0) rfl; have q1 := bx1.cell (j := 1) rfl; have q2 := bx1.cell (j := 2) rfl; have hB1 := hB0.drew.trans (hb1.mono (by show w.heap.size ≤ (w.heap.push _).size; simp))))
            | fail
          all_goals go_wp2_with (go_at_call 61; refine (hita _).mono ?_; rintro e1 w' ⟨rfl, rfl⟩)
          all_goals
            go_ret2
            rw [Hq.out]
            exact ⟨by simp, hB1⟩
end Go.Proofs.YtldlbfdfaigkcaaDoor
