/- Walk: the reference's Resolve. -/
import Derived.Test.YtemjoiaapfhenaaGreatDoorWSpan1
namespace Go.Proofs.YtemjoiaapfhenaaGreatDoor
open Go.RowKit Go.Larder
set_option linter.unusedVariables false
set_option linter.unusedSimpArgs false

theorem eq_nil_slice : ∀ (w : World) (a : Option Addr) (n c n' c' : Nat), (binOp .eql 66 (.slice a n c) (.slice none n' c')).run Tryz.prog w = .ok (.bool a.isNone) w :=
  fun w a n c n' c' => Lib.run_eql_slice_nil w _ _ a n c n' c' Tryz.underlying66

set_option maxHeartbeats 4000000 in
set_option maxRecDepth 100000 in
theorem w_ResolveR (l : List (Int × Int)) (size : Int) (hsz : -9223372036854775808 ≤ size ∧ size ≤ 9223372036854775807) (hl : l.length ≤ 140737488351232) (A : Option Addr) (c : Nat) (w : World) (hr : ReadL encII w w.heap.size A l) :
    Calls Tryz.prog 35 #[.slice A l.length c, .int .i64 size] w (SlPost encII 70 w (spanRes l size)) := by
  obtain ⟨R, hR⟩ : ∃ R, R = spanRes l size := ⟨_, rfl⟩
  rw [← hR]
  have HR := Lib.hid hR
  clear hR
  go_enter Tryz.func35, Tryz.ntmps35
  cases hck : (l.length == 0 || (l.any fun f => !isWant f))
  · by_cases hs0 : size < 0
    · have HR2 := Lib.hid (show R = .error 1 from by rw [HR.out, spanRes, hck]; simp [hs0])
      have hcp : checkR l = 0 ∨ checkR l = 2 := by simp only [checkR, hck]; by_cases h : 20 < l.length <;> simp [h]
      clear hck
      rcases hcp with hcp | hcp
      all_goals
        go_wp2_with (go_at_call 103; refine (w_checkR l hl A c _ hr).mono ?_; rintro e w2 ⟨rfl, hb2⟩)
        go_ret2
        rw [HR2.out]
        exact ⟨rfl, hb2⟩
    · by_cases h20 : 20 < l.length
      · have HR2 := Lib.hid (show R = .error 2 from by rw [HR.out, spanRes, hck]; simp [hs0, h20])
        have hcp : checkR l = 2 := by simp [checkR, hck, h20]
        clear hck
        go_wp2_with (go_at_call 103; refine (w_checkR l hl A c _ hr).mono ?_; rintro e w2 ⟨rfl, hb2⟩)
        go_ret2
        rw [HR2.out]
        exact ⟨rfl, hb2⟩
      · have HR2 := Lib.hid (show R = if (slots size l).isEmpty then .error 11 else .ok (slots size l) from by rw [HR.out, spanRes, hck]; simp [hs0, h20])
        have hcp : checkR l = 0 := by simp [checkR, hck, h20]
        have Hck := Lib.hid hck; clear hck
        go_wp2_with (go_at_call 103; refine (w_checkR l hl A c _ hr).mono ?_; rintro e w2 ⟨rfl, hb2⟩)
        go_loopw [7, 25] (fun o i' wr => ∃ (k : Nat) (acc : List (Int × Int)) (A2 : Option Addr) (c2 : Nat), i' = .int .i64 k ∧ o = .slice A2 acc.length c2 ∧ k ≤ l.length ∧ acc.length ≤ k ∧ (acc.length = 0 → A2 = none) ∧
          OwnL encII wr w.heap.size 70 A2 c2 acc ∧ Below w.heap.size w wr ∧ acc ++ slots size (l.drop k) = slots size l) (fun _ i' _ => l.length - (intOf i').toNat)
        case atStart => exact ⟨0, [], none, 0, rfl, rfl, by omega, by simp, by simp, OwnL.nil _ _ _, hb2, by simp⟩
        case round =>
          obtain ⟨k, acc, A2, c2, rfl, rfl, hk, hacc, hnil, hown, hbel, heq⟩ := hrel
          have hbs := hbel.size
          by_cases hlt : k < l.length
          · obtain ⟨⟨a, b⟩, hx, hs⟩ := drop_step hlt
            obtain ⟨g, off, rfl, hgb, hc0, hc1⟩ := (hr.below hbel (Nat.le_refl _)).at_II hx
            have hwb := want_bounds (a := a) (b := b) (by
              have := Hck.out
              simp only [Bool.or_eq_false_iff, List.any_eq_false] at this
              simpa using this.2 _ (List.mem_of_getElem? hx))
            rw [hs, slots] at heq
            obtain ⟨ha1, ha2, hb1', hb2', hab⟩ := hwb
            clear hs hx
            have e1 : a < 0 → IntKind.i64.wrap (size - b) = size - b := fun h => IntWalk.i64_in _ ⟨by have := hab h; omega, by have := hab h; omega⟩
            have e2 : IntKind.i64.wrap (b + 1) = b + 1 := IntWalk.i64_in _ ⟨by omega, by omega⟩
            have hsz2 := hsz.2
            by_cases ha : a = -1
            · have ha3 : a < 0 := by omega
              have e1 := e1 ha3
              have hb4 : ¬ b = -1 := by have := hab ha3; omega
              by_cases hb : b < size
              · have hb5 : 0 < size - b := by omega
                have hs : slotOf size (a, b) = (size - b, size) := by simp only [slotOf]; first | (rw [if_pos (by omega)]; congr 1; omega) | (rw [if_neg (by omega), if_pos (by omega)]) | (rw [if_neg (by omega), if_neg (by omega)]; congr 1; omega)
                rw [hs] at heq
                have mx : max (size - b) 0 = size - b := by omega
                by_cases hlt2 : size - b < size
                · rw [if_pos hlt2] at heq
                  have Heq := Lib.hid heq; clear heq hs
                  go_wp2_with fail
                  go_quiet (fail)
                  go_wp2_with (at_builtin
                               refine wpList_app encII sl_slice [(size - b, size)] rfl _ _ rfl rfl ((hown.alloc _).drewN _) #[.int .i64 (size - b), .int .i64 (size)] rfl 0 rfl (by first | rfl | (simp [go_sem]; done)) (by omega) (by simp only [maxLen]; omega) (by simp; omega) ?_
                               intro g' c' w3 hown3 hg3 hb3 hbg)
                  go_roundw
                  case rel => exact ⟨k + 1, acc ++ [(size - b, size)], _, c', by go_num, by simp, by omega, by simp; omega, by simp, hown3, (Go.below_drewN (hbel.alloc hbs _) _).trans hb3, by rw [← Heq.out]; simp⟩
                  case measure => simp [intOf]; omega
                · rw [if_neg hlt2] at heq
                  have Heq := Lib.hid heq; clear heq hs
                  go_wp2_with fail
                  go_quiet (fail)
                  go_wp2_with fail
                  go_roundw
                  case rel => exact ⟨k + 1, acc, _, c2, by go_num, rfl, by omega, by omega, hnil, (hown.alloc _).drewN _, Go.below_drewN (hbel.alloc hbs _) _, Heq.out⟩
                  case measure => simp [intOf]; omega
              · by_cases hb6 : size < b
                · have hb5 : size - b ≤ 0 := by omega
                  have hs : slotOf size (a, b) = (0, size) := by simp only [slotOf]; first | (rw [if_pos (by omega)]; congr 1; omega) | (rw [if_neg (by omega), if_pos (by omega)]) | (rw [if_neg (by omega), if_neg (by omega)]; congr 1; omega)
                  rw [hs] at heq
                  have mx : max (size - b) 0 = 0 := by omega
                  by_cases hlt2 : 0 < size
                  · rw [if_pos hlt2] at heq
                    have Heq := Lib.hid heq; clear heq hs
                    go_wp2_with fail
                    go_quiet (fail)
                    go_wp2_with (at_builtin
                                 refine wpList_app encII sl_slice [(0, size)] rfl _ _ rfl rfl ((hown.alloc _).drewN _) #[.int .i64 (0), .int .i64 (size)] rfl 0 rfl (by first | rfl | (simp [go_sem]; done)) (by omega) (by simp only [maxLen]; omega) (by simp; omega) ?_
                                 intro g' c' w3 hown3 hg3 hb3 hbg)
                    go_roundw
                    case rel => exact ⟨k + 1, acc ++ [(0, size)], _, c', by go_num, by simp, by omega, by simp; omega, by simp, hown3, (Go.below_drewN (hbel.alloc hbs _) _).trans hb3, by rw [← Heq.out]; simp⟩
                    case measure => simp [intOf]; omega
                  · rw [if_neg hlt2] at heq
                    have Heq := Lib.hid heq; clear heq hs
                    go_wp2_with fail
                    go_quiet (fail)
                    go_wp2_with fail
                    go_roundw
                    case rel => exact ⟨k + 1, acc, _, c2, by go_num, rfl, by omega, by omega, hnil, (hown.alloc _).drewN _, Go.below_drewN (hbel.alloc hbs _) _, Heq.out⟩
                    case measure => simp [intOf]; omega
                · obtain rfl : size = b := by omega
                  rw [Int.sub_self] at e1
                  have hs : slotOf size (a, size) = (0, size) := by simp only [slotOf]; first | (rw [if_pos (by omega)]; congr 1; omega) | (rw [if_neg (by omega), if_pos (by omega)]) | (rw [if_neg (by omega), if_neg (by omega)]; congr 1; omega)
                  rw [hs] at heq
                  by_cases hlt2 : 0 < size
                  · rw [if_pos hlt2] at heq
                    have Heq := Lib.hid heq; clear heq hs
                    go_wp2_with fail
                    go_quiet (fail)
                    go_wp2_with (at_builtin
                                 refine wpList_app encII sl_slice [(0, size)] rfl _ _ rfl rfl ((hown.alloc _).drewN _) #[.int .i64 (0), .int .i64 (size)] rfl 0 rfl (by first | rfl | (simp [go_sem]; done)) (by omega) (by simp only [maxLen]; omega) (by simp; omega) ?_
                                 intro g' c' w3 hown3 hg3 hb3 hbg)
                    go_roundw
                    case rel => exact ⟨k + 1, acc ++ [(0, size)], _, c', by go_num, by simp, by omega, by simp; omega, by simp, hown3, (Go.below_drewN (hbel.alloc hbs _) _).trans hb3, by rw [← Heq.out]; simp⟩
                    case measure => simp [intOf]; omega
                  · rw [if_neg hlt2] at heq
                    have Heq := Lib.hid heq; clear heq hs
                    go_wp2_with fail
                    go_quiet (fail)
                    go_wp2_with fail
                    go_roundw
                    case rel => exact ⟨k + 1, acc, _, c2, by go_num, rfl, by omega, by omega, hnil, (hown.alloc _).drewN _, Go.below_drewN (hbel.alloc hbs _) _, Heq.out⟩
                    case measure => simp [intOf]; omega
            · by_cases hb0 : b = -1
              · have hs : slotOf size (a, b) = (a, size) := by simp only [slotOf]; first | (rw [if_pos (by omega)]; congr 1; omega) | (rw [if_neg (by omega), if_pos (by omega)]) | (rw [if_neg (by omega), if_neg (by omega)]; congr 1; omega)
                rw [hs] at heq
                by_cases hlt2 : a < size
                · rw [if_pos hlt2] at heq
                  have Heq := Lib.hid heq; clear heq hs
                  go_wp2_with fail
                  go_quiet (fail)
                  go_wp2_with (at_builtin
                               refine wpList_app encII sl_slice [(a, size)] rfl _ _ rfl rfl ((hown.alloc _).drewN _) #[.int .i64 (a), .int .i64 (size)] rfl 0 rfl (by first | rfl | (simp [go_sem]; done)) (by omega) (by simp only [maxLen]; omega) (by simp; omega) ?_
                               intro g' c' w3 hown3 hg3 hb3 hbg)
                  go_roundw
                  case rel => exact ⟨k + 1, acc ++ [(a, size)], _, c', by go_num, by simp, by omega, by simp; omega, by simp, hown3, (Go.below_drewN (hbel.alloc hbs _) _).trans hb3, by rw [← Heq.out]; simp⟩
                  case measure => simp [intOf]; omega
                · rw [if_neg hlt2] at heq
                  have Heq := Lib.hid heq; clear heq hs
                  go_wp2_with fail
                  go_quiet (fail)
                  go_wp2_with fail
                  go_roundw
                  case rel => exact ⟨k + 1, acc, _, c2, by go_num, rfl, by omega, by omega, hnil, (hown.alloc _).drewN _, Go.below_drewN (hbel.alloc hbs _) _, Heq.out⟩
                  case measure => simp [intOf]; omega
              · by_cases hb : b < size
                · have hs : slotOf size (a, b) = (a, b + 1) := by simp only [slotOf]; first | (rw [if_pos (by omega)]; congr 1; omega) | (rw [if_neg (by omega), if_pos (by omega)]) | (rw [if_neg (by omega), if_neg (by omega)]; congr 1; omega)
                  rw [hs] at heq
                  have mx : min (b + 1) size = b + 1 := by omega
                  by_cases hlt2 : a < b + 1
                  · rw [if_pos hlt2] at heq
                    have Heq := Lib.hid heq; clear heq hs
                    go_wp2_with fail
                    go_quiet (fail)
                    go_wp2_with (at_builtin
                                 refine wpList_app encII sl_slice [(a, b + 1)] rfl _ _ rfl rfl ((hown.alloc _).drewN _) #[.int .i64 (a), .int .i64 (b + 1)] rfl 0 rfl (by first | rfl | (simp [go_sem]; done)) (by omega) (by simp only [maxLen]; omega) (by simp; omega) ?_
                                 intro g' c' w3 hown3 hg3 hb3 hbg)
                    go_roundw
                    case rel => exact ⟨k + 1, acc ++ [(a, b + 1)], _, c', by go_num, by simp, by omega, by simp; omega, by simp, hown3, (Go.below_drewN (hbel.alloc hbs _) _).trans hb3, by rw [← Heq.out]; simp⟩
                    case measure => simp [intOf]; omega
                  · rw [if_neg hlt2] at heq
                    have Heq := Lib.hid heq; clear heq hs
                    go_wp2_with fail
                    go_quiet (fail)
                    go_wp2_with fail
                    go_roundw
                    case rel => exact ⟨k + 1, acc, _, c2, by go_num, rfl, by omega, by omega, hnil, (hown.alloc _).drewN _, Go.below_drewN (hbel.alloc hbs _) _, Heq.out⟩
                    case measure => simp [intOf]; omega
                · have hb3 : size ≤ b := by omega
                  have hb4 : size < b + 1 := by omega
                  have hs : slotOf size (a, b) = (a, size) := by simp only [slotOf]; first | (rw [if_pos (by omega)]; congr 1; omega) | (rw [if_neg (by omega), if_pos (by omega)]) | (rw [if_neg (by omega), if_neg (by omega)]; congr 1; omega)
                  rw [hs] at heq
                  have mx : min (b + 1) size = size := by omega
                  by_cases hlt2 : a < size
                  · rw [if_pos hlt2] at heq
                    have Heq := Lib.hid heq; clear heq hs
                    go_wp2_with fail
                    go_quiet (fail)
                    go_wp2_with (at_builtin
                                 refine wpList_app encII sl_slice [(a, size)] rfl _ _ rfl rfl ((hown.alloc _).drewN _) #[.int .i64 (a), .int .i64 (size)] rfl 0 rfl (by first | rfl | (simp [go_sem]; done)) (by omega) (by simp only [maxLen]; omega) (by simp; omega) ?_
                                 intro g' c' w3 hown3 hg3 hb3 hbg)
                    go_roundw
                    case rel => exact ⟨k + 1, acc ++ [(a, size)], _, c', by go_num, by simp, by omega, by simp; omega, by simp, hown3, (Go.below_drewN (hbel.alloc hbs _) _).trans hb3, by rw [← Heq.out]; simp⟩
                    case measure => simp [intOf]; omega
                  · rw [if_neg hlt2] at heq
                    have Heq := Lib.hid heq; clear heq hs
                    go_wp2_with fail
                    go_quiet (fail)
                    go_wp2_with fail
                    go_roundw
                    case rel => exact ⟨k + 1, acc, _, c2, by go_num, rfl, by omega, by omega, hnil, (hown.alloc _).drewN _, Go.below_drewN (hbel.alloc hbs _) _, Heq.out⟩
                    case measure => simp [intOf]; omega
          · rw [drop_end hlt, slots, List.append_nil] at heq
            by_cases h0 : acc.length = 0
            · have HR3 := Lib.hid (show R = .error 11 from by rw [HR2.out, ← heq]; simp [List.eq_nil_of_length_eq_zero h0])
              clear heq
              obtain rfl := hnil h0
              have hq := eq_nil_slice
              go_wp2_with fail
              go_ret2
              rw [HR3.out]
              exact ⟨rfl, hbel⟩
            · have HR3 := Lib.hid (show R = .ok acc from by
                rw [HR2.out, ← heq, if_neg]
                intro h; rw [List.isEmpty_iff] at h; exact h0 (by rw [h]; rfl))
              clear heq
              obtain ⟨g2, rfl, hg21, hg22⟩ := hown.some_ (by omega)
              have hq := eq_nil_slice
              go_wp2_with fail
              go_ret2
              rw [HR3.out]
              exact ⟨_, c2, rfl, hown, hbel⟩
  · have hcp : checkR l = 1 := by simp [checkR, hck]
    have HR2 := Lib.hid (show R = .error 1 from by rw [HR.out, spanRes, hck]; simp)
    clear hck
    go_wp2_with (go_at_call 103; refine (w_checkR l hl A c _ hr).mono ?_; rintro e w2 ⟨rfl, hb2⟩)
    go_ret2
    rw [HR2.out]
    exact ⟨rfl, hb2⟩
end Go.Proofs.YtemjoiaapfhenaaGreatDoor
