/- Walk: Resolve. -/
import Derived.Test.YtemjoiaapfhenaaGreatDoorWSpan0
import Derived.Deep.QuietTactic
import Derived.BigQuiet
namespace Go.Proofs.YtemjoiaapfhenaaGreatDoor
open Go.RowKit Go.Larder
set_option linter.unusedVariables false
set_option linter.unusedSimpArgs false

theorem sl_slice : SlT Tryz.prog 66 70 2 16 := SlT.mk' (z := .agg #[.int .i64 0, .int .i64 0]) Tryz.underlying66 (by kernel_rfl) rfl

theorem want_bounds {a b : Int} (h : isWant (a, b) = true) : -1 ≤ a ∧ a ≤ 99999 ∧ -1 ≤ b ∧ b ≤ 99999 ∧ (a < 0 → 0 ≤ b) := by
  unfold isWant isNum at h
  by_cases h1 : a = -1
  · simp [h1] at h; omega
  · by_cases h2 : b = -1
    · simp [h1, h2] at h; omega
    · simp [h1, h2] at h; omega

set_option maxHeartbeats 4000000 in
theorem w_Resolve (l : List (Int × Int)) (size : Int) (hsz : -9223372036854775808 ≤ size ∧ size ≤ 9223372036854775807) (hl : l.length ≤ 140737488351232) (A : Option Addr) (c : Nat) (w : World) (hr : ReadL encII w w.heap.size A l) :
    Calls Tryz.prog 124 #[.slice A l.length c, .int .i64 size] w (SlPost encII 70 w (spanRes l size)) := by
  obtain ⟨R, hR⟩ : ∃ R, R = spanRes l size := ⟨_, rfl⟩
  rw [← hR]
  have HR := Lib.hid hR
  clear hR
  go_enter Tryz.func124, Tryz.ntmps124
  cases hck : (l.length == 0 || (l.any fun f => !isWant f))
  · have hcp : checkP l = 0 := by simp [checkP, hck]
    by_cases hs0 : size < 0
    · have HR2 := Lib.hid (show R = .error 1 from by rw [HR.out, spanRes, hck]; simp [hs0])
      clear hck
      go_wp2_with (go_at_call 173; refine (wsp_check l hl A c _ hr).mono ?_; rintro e w2 ⟨rfl, hb2⟩)
      go_ret2
      rw [HR2.out]
      exact ⟨rfl, hb2⟩
    · by_cases h20 : 20 < l.length
      · have HR2 := Lib.hid (show R = .error 2 from by rw [HR.out, spanRes, hck]; simp [hs0, h20])
        clear hck
        go_wp2_with (go_at_call 173; refine (wsp_check l hl A c _ hr).mono ?_; rintro e w2 ⟨rfl, hb2⟩)
        go_ret2
        rw [HR2.out]
        exact ⟨rfl, hb2⟩
      · have HR2 := Lib.hid (show R = if (slots size l).isEmpty then .error 11 else .ok (slots size l) from by rw [HR.out, spanRes, hck]; simp [hs0, h20])
        have Hck := Lib.hid hck; clear hck
        go_wp2_with (go_at_call 173; refine (wsp_check l hl A c _ hr).mono ?_; rintro e w2 ⟨rfl, hb2⟩)
        go_loopw [6, 22] (fun o i' wr => ∃ (k : Nat) (acc : List (Int × Int)) (A2 : Option Addr) (c2 : Nat), i' = .int .i64 k ∧ o = .slice A2 acc.length c2 ∧ k ≤ l.length ∧ acc.length ≤ k ∧
          OwnL encII wr w.heap.size 70 A2 c2 acc ∧ Below w.heap.size w wr ∧ acc ++ slots size (l.drop k) = slots size l) (fun _ i' _ => l.length - (intOf i').toNat)
        case atStart => exact ⟨0, [], none, 0, rfl, rfl, by omega, by simp, OwnL.nil _ _ _, hb2, by simp⟩
        case round =>
          obtain ⟨k, acc, A2, c2, rfl, rfl, hk, hacc, hown, hbel, heq⟩ := hrel
          have hbs := hbel.size
          by_cases hlt : k < l.length
          · obtain ⟨⟨a, b⟩, hx, hs⟩ := drop_step hlt
            obtain ⟨g, off, rfl, hgb, hc0, hc1⟩ := (hr.below hbel (Nat.le_refl _)).at_II hx
            have hwb := want_bounds (a := a) (b := b) (by
              have := Hck.out
              simp only [Bool.or_eq_false_iff, List.any_eq_false] at this
              simpa using this.2 _ (List.mem_of_getElem? hx))
            rw [hs, slots] at heq
            obtain ⟨ha1, ha2, hb1', hb2', hab⟩ := hwb
            clear hs hx
            have e1 : a < 0 → IntKind.i64.wrap (size - b) = size - b := fun h => IntWalk.i64_in _ ⟨by have := hab h; omega, by have := hab h; omega⟩
            have e2 : IntKind.i64.wrap (b + 1) = b + 1 := IntWalk.i64_in _ ⟨by omega, by omega⟩
            have hsz2 := hsz.2
            by_cases ha : a < 0
            · have e1 := e1 ha
              by_cases hb : b < size
              · have hs : slotOf size (a, b) = (size - b, size) := by simp only [slotOf]; first | (rw [if_pos ha]; congr 1; omega) | (rw [if_neg ha, if_pos hb0]) | (rw [if_neg ha, if_neg hb0]; congr 1; omega)
                rw [hs] at heq
                have mx : max 0 (size - b) = size - b := by omega
                by_cases hlt2 : size - b < size
                · rw [if_pos hlt2] at heq
                  have Heq := Lib.hid heq; clear heq hs
                  go_wp2_with (at_builtin
                               refine wpList_app encII sl_slice [(size - b, size)] rfl _ _ rfl rfl ((hown.alloc _).alloc _) #[.int .i64 (size - b), .int .i64 (size)] rfl 0 rfl (by first | rfl | (simp [go_sem]; done)) (by omega) (by simp only [maxLen]; omega) (by simp; omega) ?_
                               intro g' c' w3 hown3 hg3 hb3 hbg)
                  go_roundw
                  case rel => exact ⟨k + 1, acc ++ [(size - b, size)], _, c', by go_num, by simp, by omega, by simp; omega, hown3, ((hbel.alloc hbs _).alloc (by simp; omega) _).trans hb3, by rw [← Heq.out]; simp⟩
                  case measure => simp [intOf]; omega
                · rw [if_neg hlt2] at heq
                  have Heq := Lib.hid heq; clear heq hs
                  go_wp2_with fail
                  go_roundw
                  case rel => exact ⟨k + 1, acc, _, c2, by go_num, rfl, by omega, by omega, (hown.alloc _).alloc _, (hbel.alloc hbs _).alloc (by simp; omega) _, Heq.out⟩
                  case measure => simp [intOf]; omega
              · have hs : slotOf size (a, b) = (0, size) := by simp only [slotOf]; first | (rw [if_pos ha]; congr 1; omega) | (rw [if_neg ha, if_pos hb0]) | (rw [if_neg ha, if_neg hb0]; congr 1; omega)
                rw [hs] at heq
                have mx : max 0 (size - b) = 0 := by omega
                by_cases hlt2 : 0 < size
                · rw [if_pos hlt2] at heq
                  have Heq := Lib.hid heq; clear heq hs
                  go_wp2_with (at_builtin
                               refine wpList_app encII sl_slice [(0, size)] rfl _ _ rfl rfl ((hown.alloc _).alloc _) #[.int .i64 (0), .int .i64 (size)] rfl 0 rfl (by first | rfl | (simp [go_sem]; done)) (by omega) (by simp only [maxLen]; omega) (by simp; omega) ?_
                               intro g' c' w3 hown3 hg3 hb3 hbg)
                  go_roundw
                  case rel => exact ⟨k + 1, acc ++ [(0, size)], _, c', by go_num, by simp, by omega, by simp; omega, hown3, ((hbel.alloc hbs _).alloc (by simp; omega) _).trans hb3, by rw [← Heq.out]; simp⟩
                  case measure => simp [intOf]; omega
                · rw [if_neg hlt2] at heq
                  have Heq := Lib.hid heq; clear heq hs
                  go_wp2_with fail
                  go_roundw
                  case rel => exact ⟨k + 1, acc, _, c2, by go_num, rfl, by omega, by omega, (hown.alloc _).alloc _, (hbel.alloc hbs _).alloc (by simp; omega) _, Heq.out⟩
                  case measure => simp [intOf]; omega
            · by_cases hb0 : b < 0
              · have hs : slotOf size (a, b) = (a, size) := by simp only [slotOf]; first | (rw [if_pos ha]; congr 1; omega) | (rw [if_neg ha, if_pos hb0]) | (rw [if_neg ha, if_neg hb0]; congr 1; omega)
                rw [hs] at heq
                by_cases hlt2 : a < size
                · rw [if_pos hlt2] at heq
                  have Heq := Lib.hid heq; clear heq hs
                  go_wp2_with (at_builtin
                               refine wpList_app encII sl_slice [(a, size)] rfl _ _ rfl rfl ((hown.alloc _).alloc _) #[.int .i64 (a), .int .i64 (size)] rfl 0 rfl (by first | rfl | (simp [go_sem]; done)) (by omega) (by simp only [maxLen]; omega) (by simp; omega) ?_
                               intro g' c' w3 hown3 hg3 hb3 hbg)
                  go_roundw
                  case rel => exact ⟨k + 1, acc ++ [(a, size)], _, c', by go_num, by simp, by omega, by simp; omega, hown3, ((hbel.alloc hbs _).alloc (by simp; omega) _).trans hb3, by rw [← Heq.out]; simp⟩
                  case measure => simp [intOf]; omega
                · rw [if_neg hlt2] at heq
                  have Heq := Lib.hid heq; clear heq hs
                  go_wp2_with fail
                  go_roundw
                  case rel => exact ⟨k + 1, acc, _, c2, by go_num, rfl, by omega, by omega, (hown.alloc _).alloc _, (hbel.alloc hbs _).alloc (by simp; omega) _, Heq.out⟩
                  case measure => simp [intOf]; omega
              · by_cases hb : b < size
                · have hs : slotOf size (a, b) = (a, b + 1) := by simp only [slotOf]; first | (rw [if_pos ha]; congr 1; omega) | (rw [if_neg ha, if_pos hb0]) | (rw [if_neg ha, if_neg hb0]; congr 1; omega)
                  rw [hs] at heq
                  have mx : min (b + 1) size = b + 1 := by omega
                  by_cases hlt2 : a < b + 1
                  · rw [if_pos hlt2] at heq
                    have Heq := Lib.hid heq; clear heq hs
                    go_wp2_with (at_builtin
                                 refine wpList_app encII sl_slice [(a, b + 1)] rfl _ _ rfl rfl ((hown.alloc _).alloc _) #[.int .i64 (a), .int .i64 (b + 1)] rfl 0 rfl (by first | rfl | (simp [go_sem]; done)) (by omega) (by simp only [maxLen]; omega) (by simp; omega) ?_
                                 intro g' c' w3 hown3 hg3 hb3 hbg)
                    go_roundw
                    case rel => exact ⟨k + 1, acc ++ [(a, b + 1)], _, c', by go_num, by simp, by omega, by simp; omega, hown3, ((hbel.alloc hbs _).alloc (by simp; omega) _).trans hb3, by rw [← Heq.out]; simp⟩
                    case measure => simp [intOf]; omega
                  · rw [if_neg hlt2] at heq
                    have Heq := Lib.hid heq; clear heq hs
                    go_wp2_with fail
                    go_roundw
                    case rel => exact ⟨k + 1, acc, _, c2, by go_num, rfl, by omega, by omega, (hown.alloc _).alloc _, (hbel.alloc hbs _).alloc (by simp; omega) _, Heq.out⟩
                    case measure => simp [intOf]; omega
                · have hb3 : size ≤ b := by omega
                  have hb4 : size < b + 1 := by omega
                  have hs : slotOf size (a, b) = (a, size) := by simp only [slotOf]; first | (rw [if_pos ha]; congr 1; omega) | (rw [if_neg ha, if_pos hb0]) | (rw [if_neg ha, if_neg hb0]; congr 1; omega)
                  rw [hs] at heq
                  have mx : min (b + 1) size = size := by omega
                  by_cases hlt2 : a < size
                  · rw [if_pos hlt2] at heq
                    have Heq := Lib.hid heq; clear heq hs
                    go_wp2_with (at_builtin
                                 refine wpList_app encII sl_slice [(a, size)] rfl _ _ rfl rfl ((hown.alloc _).alloc _) #[.int .i64 (a), .int .i64 (size)] rfl 0 rfl (by first | rfl | (simp [go_sem]; done)) (by omega) (by simp only [maxLen]; omega) (by simp; omega) ?_
                                 intro g' c' w3 hown3 hg3 hb3 hbg)
                    go_roundw
                    case rel => exact ⟨k + 1, acc ++ [(a, size)], _, c', by go_num, by simp, by omega, by simp; omega, hown3, ((hbel.alloc hbs _).alloc (by simp; omega) _).trans hb3, by rw [← Heq.out]; simp⟩
                    case measure => simp [intOf]; omega
                  · rw [if_neg hlt2] at heq
                    have Heq := Lib.hid heq; clear heq hs
                    go_wp2_with fail
                    go_roundw
                    case rel => exact ⟨k + 1, acc, _, c2, by go_num, rfl, by omega, by omega, (hown.alloc _).alloc _, (hbel.alloc hbs _).alloc (by simp; omega) _, Heq.out⟩
                    case measure => simp [intOf]; omega
          · rw [drop_end hlt, slots, List.append_nil] at heq
            by_cases h0 : acc.length = 0
            · have HR3 := Lib.hid (show R = .error 11 from by rw [HR2.out, ← heq]; simp [List.eq_nil_of_length_eq_zero h0])
              clear heq
              go_wp2_with fail
              go_ret2
              rw [HR3.out]
              exact ⟨rfl, hbel⟩
            · have HR3 := Lib.hid (show R = .ok acc from by
                rw [HR2.out, ← heq, if_neg]
                intro h; rw [List.isEmpty_iff] at h; exact h0 (by rw [h]; rfl))
              clear heq
              go_wp2_with fail
              go_ret2
              rw [HR3.out]
              exact ⟨A2, c2, rfl, hown, hbel⟩
  · have hcp : checkP l = 1 := by simp [checkP, hck]
    have HR2 := Lib.hid (show R = .error 1 from by rw [HR.out, spanRes, hck]; simp)
    clear hck
    go_wp2_with (go_at_call 173; refine (wsp_check l hl A c _ hr).mono ?_; rintro e w2 ⟨rfl, hb2⟩)
    go_ret2
    rw [HR2.out]
    exact ⟨rfl, hb2⟩
end Go.Proofs.YtemjoiaapfhenaaGreatDoor
