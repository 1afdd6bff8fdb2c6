/- Walks: chunk.Gear, the reference's Gear and Cut. -/
import Derived.Test.YtbchkaoocobpfaaDoorSpecs
import Derived.Test.YtbchkaoocobpfaaDoorWStr
import Derived.Test.YtbchkaoocobpfaaDoorFrame
namespace Go.Proofs.YtbchkaoocobpfaaDoor
open Go.RowKit Go.Larder
set_option linter.unusedVariables false
set_option linter.unusedSimpArgs false
theorem w_Gear (c : UInt8) (w : World) : Calls Tryd.prog 76 #[.int .u8 c.toNat] w fun e w' => e = .returned (.int .u32 (gear c : Nat)) ∧ w = w' := by
  go_enter Tryd.func76, Tryd.ntmps76
  go_wp2_with fail
  go_ret
  exact ⟨ret_int (gear1 c), rfl⟩
theorem w_GearR (c : UInt8) (w : World) : Calls Tryd.prog 60 #[.int .u8 c.toNat] w fun e w' => e = .returned (.int .u32 (gear c : Nat)) ∧ w = w' := by
  go_enter Tryd.func60, Tryd.ntmps60
  go_wp2_with fail
  go_ret
  exact ⟨ret_int (gear2 c), rfl⟩
theorem sl_strK : SlT Tryd.prog 22 9 1 16 := SlT.mk' (z := .string ByteArray.empty) Tryd.underlying22 (by kernel_rfl) rfl
set_option maxHeartbeats 4000000 in
theorem w_CutC (s : List UInt8) (hl : s.length ≤ 140737488351232) (w : World) : Calls Tryd.prog 42 #[S s] w fun e w' => ∃ A c, e = .returned (.slice A (cutC s).length c) ∧ OwnL encS w' w.heap.size 9 A c (cutC s) ∧ Below w.heap.size w w' := by
  go_enter Tryd.func42, Tryd.ntmps42
  go_wp2_with fail
  go_loopw [3, 4, 11] (fun o' f' i' wr => ∃ (k sm F : Nat) (o : List (List UInt8)) (r : List UInt8) (A : Option Addr) (c : Nat), i' = .int .i64 k ∧ f' = .int .i64 F ∧ o' = .slice A o.length c ∧ k ≤ s.length ∧ F + r.length = k ∧ r.length < 128 ∧ 16 * o.length + r.length ≤ k ∧ Hid (ck (s.take k) = (sm, o, r)) ∧ OwnL encS wr w.heap.size 9 A c o ∧ Below w.heap.size w wr)
    (fun _ _ i' _ => s.length - (intOf i').toNat)
  case atStart => exact ⟨0, 0, 0, [], [], none, 0, rfl, rfl, rfl, by omega, by simp, by simp, by simp, Lib.hid rfl, OwnL.nil _ _ _, Below.refl _ _⟩
  case round =>
    obtain ⟨k, sm, F, o, r, A, c, rfl, rfl, rfl, hk, hF, hr, hol, hst, hown, hbel⟩ := hrel
    have hbs := hbel.size
    by_cases hlt : k < s.length
    · obtain ⟨x, hx, hd⟩ := drop_step hlt
      have hg : ∀ h, s[k]'h = x := fun h => by rw [List.getElem?_eq_getElem h] at hx; exact Option.some.inj hx
      have Hst := Lib.hid (ck_take_step hx)
      have Hseg := Lib.hid (ck_seg hst.out hx hF)
      have Hsum := Lib.hid (sum_seg hst.out hx)
      have hrl := ck_rest (0, [], []) (by simp) (s.take (k + 1))
      change (ck (s.take (k + 1))).2.2.length < 128 at hrl
      rw [Hst.out, hst.out] at hrl
      have Hrl := Lib.hid hrl
      clear hd hrl
      by_cases h16 : r.length + 1 < 16
      · have hI : (k : Int) + 1 - F < 16 := by omega
        have Hq := Lib.hid (show ck (s.take (k + 1)) = (sumF sm x, o, r ++ [x]) from by rw [Hst.out, hst.out]; exact ck_no (isCut_lt h16))
        clear hx
        go_wp2_with fail
        go_roundw
        case rel => exact ⟨k + 1, _, F, o, r ++ [x], A, c, by go_num, rfl, rfl, by omega, by simp; omega, by simp; omega, by simp; omega, Hq, hown, hbel⟩
        case measure => simp [intOf]; omega
      · have hI : ¬ (k : Int) + 1 - F < 16 := by omega
        have hI2 : (16 : Int) ≤ (k : Int) + 1 - F := by omega
        have sl : ∀ w, (Instr.slice 9 (.string ⟨s.toArray⟩) (some (.int .i64 F)) (some (.int .i64 ((k : Int) + 1))) none).run Tryd.prog w = .ok (.string ⟨(r ++ [x]).toArray⟩) w := fun w => by
          have h := run_sliceS (P := Tryd.prog) 9 Tryd.underlying9 s F ((k : Int) + 1) (by omega) (by omega) (by omega) w
          rwa [show ((F : Int)).toNat = F from by omega, show ((k : Int) + 1).toNat = k + 1 from by omega, Hseg.out] at h
        by_cases h31 : (31 : Int) < (k : Int)
        · have hlok : k - 31 ≤ k := by omega
          have Hsum2 := Lib.hid (show sumC 0 ((s.drop (k - 31)).take (k + 1 - (k - 31))) = sumF sm x from by have := Hsum.out; rwa [show k - 31 = k - 31 from by omega] at this)
          clear hx
          go_wp2_with fail
          go_loopw [7, 8] (fun n' j' wr2 => ∃ (j : Nat) (N : Int), j' = .int .i64 j ∧ n' = .int .u64 N ∧ k - 31 ≤ j ∧ j ≤ k + 1 ∧ Hid (N = sumC 0 ((s.drop (k - 31)).take (j - (k - 31)))) ∧ wr2 = wr)
            (fun _ j' _ => k + 1 - (intOf j').toNat)
          case atStart => exact ⟨k - 31, 0, by first | rfl | go_num | (simp; omega), rfl, by omega, by omega, Lib.hid (by simp [sumC]), by first | rfl | trivial⟩
          case round =>
            obtain ⟨j, N, rfl, rfl, hj1, hj2, hnn, rfl⟩ := hrel
            by_cases hjk : j < k + 1
            · obtain ⟨y, hy, hd⟩ := drop_step (l := s) (k := j) (by omega)
              have hgy : ∀ h, s[j]'h = y := fun h => by rw [List.getElem?_eq_getElem h] at hy; exact Option.some.inj hy
              have Hn2 := Lib.hid (seg_step hj1 hy)
              have hge := fun w => w_GearR y w
              have hjI : (j : Int) ≤ (k : Int) := by omega
              obtain ⟨n, hn⟩ : ∃ n, sumC 0 ((s.drop (k - 31)).take (j - (k - 31))) = n := ⟨_, rfl⟩
              rw [hn] at Hn2 hnn
              have hnl : n < 4294967296 := by rw [← hn]; exact sumC_lt (by omega) _
              have He := Lib.hid (show IntKind.u64.wrap (IntKind.u64.wrap (2 * N) + IntKind.u64.wrap (gear y : Nat)) = ((2 * n + gear y : Nat) : Int) from by rw [hnn.out]; exact sumF_walk n hnl y)
              have Hsf := Lib.hid (show ((2 * n + gear y : Nat) : Int).tmod 4294967296 = (sumF n y : Nat) from by unfold sumF; rw [Int.tmod_eq_emod_of_nonneg (by omega)]; omega)
              have Hn3 := Lib.hid Hn2.out
              clear hn hnl Hn2 hnn
              clear hd hy
              go_wp2_with (go_at_call 60; refine (hge _).mono ?_; rintro e w' ⟨rfl, rfl⟩)
              go_roundw
              case rel => exact ⟨j + 1, (sumF n y : Nat), by go_num, by first | (rw [← Hsf.out, ← He.out]; done) | (rw [← Hsf.out, ← He.out]; rfl), by omega, by omega, Lib.hid (by rw [Hn3.out]), by first | rfl | trivial⟩
              case measure => simp [intOf]; omega
            · obtain rfl : j = k + 1 := by omega
              have hnn2 : N = (sumF sm x : Nat) := by rw [hnn.out, Hsum2.out]
              have Hn2 := Lib.hid hnn2
              clear hnn2
              by_cases hs : N < 134217728
              · have Hs : sumF sm x < 134217728 := by have := Hn2.out; omega
                have Hq := Lib.hid (show ck (s.take (k + 1)) = (sumF sm x, o ++ [r ++ [x]], []) from by rw [Hst.out, hst.out]; exact ck_yes (isCut_sum (by show 16 ≤ r.length + 1; omega) Hs))
                clear Hs
                go_wp2_with (at_builtin; refine wpList_app encS sl_strK [r ++ [x]] rfl _ _ rfl rfl hown #[S (r ++ [x])] rfl 0 rfl rfl (by omega) (by simp only [maxLen]; omega) hbel.size ?_; intro g c' w1 hown1 hg1 hb1 hbg)
                go_roundw
                case rel => exact ⟨k + 1, _, k + 1, o ++ [r ++ [x]], [], _, _, by go_num, by first | rfl | go_num, by simp, by omega, by simp, by simp, by simp; omega, Hq, hown1, hbel.trans hb1⟩
                case measure => simp [intOf]; omega
              · have Hs : Hid (¬ sumF sm x < 134217728) := Lib.hid (by have := Hn2.out; omega)
                by_cases h128 : r.length + 1 = 128
                · have hI128 : ((k : Int) + 1 - F == 128) = true := by simp; omega
                  have Hq := Lib.hid (show ck (s.take (k + 1)) = (sumF sm x, o ++ [r ++ [x]], []) from by rw [Hst.out, hst.out]; refine ck_yes ?_; show isCut (r.length + 1) _ = true; rw [h128]; exact isCut_128)
                  clear Hs
                  go_wp2_with (at_builtin; refine wpList_app encS sl_strK [r ++ [x]] rfl _ _ rfl rfl hown #[S (r ++ [x])] rfl 0 rfl rfl (by omega) (by simp only [maxLen]; omega) hbel.size ?_; intro g c' w1 hown1 hg1 hb1 hbg)
                  go_roundw
                  case rel => exact ⟨k + 1, _, k + 1, o ++ [r ++ [x]], [], _, _, by go_num, by first | rfl | go_num, by simp, by omega, by simp, by simp, by simp; omega, Hq, hown1, hbel.trans hb1⟩
                  case measure => simp [intOf]; omega
                · have hI128 : ((k : Int) + 1 - F == 128) = false := by simp; omega
                  have Hq := Lib.hid (show ck (s.take (k + 1)) = (sumF sm x, o, r ++ [x]) from by rw [Hst.out, hst.out]; exact ck_no (isCut_no Hs.out h128))
                  clear Hs
                  go_wp2_with fail
                  go_roundw
                  case rel => exact ⟨k + 1, _, F, o, r ++ [x], A, c, by go_num, rfl, rfl, by omega, by simp; omega, by simp; omega, by simp; omega, Hq, hown, hbel⟩
                  case measure => simp [intOf]; omega
        · have hlok : 0 ≤ k := by omega
          have Hsum2 := Lib.hid (show sumC 0 ((s.drop (0)).take (k + 1 - (0))) = sumF sm x from by have := Hsum.out; rwa [show k - 31 = 0 from by omega] at this)
          clear hx
          go_wp2_with fail
          go_loopw [7, 8] (fun n' j' wr2 => ∃ (j : Nat) (N : Int), j' = .int .i64 j ∧ n' = .int .u64 N ∧ 0 ≤ j ∧ j ≤ k + 1 ∧ Hid (N = sumC 0 ((s.drop (0)).take (j - (0)))) ∧ wr2 = wr)
            (fun _ j' _ => k + 1 - (intOf j').toNat)
          case atStart => exact ⟨0, 0, by first | rfl | go_num | (simp; omega), rfl, by omega, by omega, Lib.hid (by simp [sumC]), by first | rfl | trivial⟩
          case round =>
            obtain ⟨j, N, rfl, rfl, hj1, hj2, hnn, rfl⟩ := hrel
            by_cases hjk : j < k + 1
            · obtain ⟨y, hy, hd⟩ := drop_step (l := s) (k := j) (by omega)
              have hgy : ∀ h, s[j]'h = y := fun h => by rw [List.getElem?_eq_getElem h] at hy; exact Option.some.inj hy
              have Hn2 := Lib.hid (seg_step hj1 hy)
              have hge := fun w => w_GearR y w
              have hjI : (j : Int) ≤ (k : Int) := by omega
              obtain ⟨n, hn⟩ : ∃ n, sumC 0 ((s.drop (0)).take (j - (0))) = n := ⟨_, rfl⟩
              rw [hn] at Hn2 hnn
              have hnl : n < 4294967296 := by rw [← hn]; exact sumC_lt (by omega) _
              have He := Lib.hid (show IntKind.u64.wrap (IntKind.u64.wrap (2 * N) + IntKind.u64.wrap (gear y : Nat)) = ((2 * n + gear y : Nat) : Int) from by rw [hnn.out]; exact sumF_walk n hnl y)
              have Hsf := Lib.hid (show ((2 * n + gear y : Nat) : Int).tmod 4294967296 = (sumF n y : Nat) from by unfold sumF; rw [Int.tmod_eq_emod_of_nonneg (by omega)]; omega)
              have Hn3 := Lib.hid Hn2.out
              clear hn hnl Hn2 hnn
              clear hd hy
              go_wp2_with (go_at_call 60; refine (hge _).mono ?_; rintro e w' ⟨rfl, rfl⟩)
              go_roundw
              case rel => exact ⟨j + 1, (sumF n y : Nat), by go_num, by first | (rw [← Hsf.out, ← He.out]; done) | (rw [← Hsf.out, ← He.out]; rfl), by omega, by omega, Lib.hid (by rw [Hn3.out]), by first | rfl | trivial⟩
              case measure => simp [intOf]; omega
            · obtain rfl : j = k + 1 := by omega
              have hnn2 : N = (sumF sm x : Nat) := by rw [hnn.out, Hsum2.out]
              have Hn2 := Lib.hid hnn2
              clear hnn2
              by_cases hs : N < 134217728
              · have Hs : sumF sm x < 134217728 := by have := Hn2.out; omega
                have Hq := Lib.hid (show ck (s.take (k + 1)) = (sumF sm x, o ++ [r ++ [x]], []) from by rw [Hst.out, hst.out]; exact ck_yes (isCut_sum (by show 16 ≤ r.length + 1; omega) Hs))
                clear Hs
                go_wp2_with (at_builtin; refine wpList_app encS sl_strK [r ++ [x]] rfl _ _ rfl rfl hown #[S (r ++ [x])] rfl 0 rfl rfl (by omega) (by simp only [maxLen]; omega) hbel.size ?_; intro g c' w1 hown1 hg1 hb1 hbg)
                go_roundw
                case rel => exact ⟨k + 1, _, k + 1, o ++ [r ++ [x]], [], _, _, by go_num, by first | rfl | go_num, by simp, by omega, by simp, by simp, by simp; omega, Hq, hown1, hbel.trans hb1⟩
                case measure => simp [intOf]; omega
              · have Hs : Hid (¬ sumF sm x < 134217728) := Lib.hid (by have := Hn2.out; omega)
                by_cases h128 : r.length + 1 = 128
                · exact absurd h128 (by omega)
                · have hI128 : ((k : Int) + 1 - F == 128) = false := by simp; omega
                  have Hq := Lib.hid (show ck (s.take (k + 1)) = (sumF sm x, o, r ++ [x]) from by rw [Hst.out, hst.out]; exact ck_no (isCut_no Hs.out h128))
                  clear Hs
                  go_wp2_with fail
                  go_roundw
                  case rel => exact ⟨k + 1, _, F, o, r ++ [x], A, c, by go_num, rfl, rfl, by omega, by simp; omega, by simp; omega, by simp; omega, Hq, hown, hbel⟩
                  case measure => simp [intOf]; omega
    · obtain rfl : k = s.length := by omega
      have hst2 := hst.out
      rw [List.take_length] at hst2
      rcases nil_or_snoc r with rfl | ⟨m, b, rfl⟩
      · have Hq := Lib.hid (cutC_nil hst2)
        have hI : ¬ (F : Int) < s.length := by simp at hF; omega
        clear hst2
        go_wp2_with fail
        go_ret
        rw [Hq.out]
        exact ⟨A, c, by simp, hown, hbel⟩
      · have Hq := Lib.hid (cutC_some hst2 (by simp))
        have Hend := Lib.hid (ck_end hst2 hF)
        have hI : (F : Int) < s.length := by simp at hF; omega
        have sl : ∀ w, (Instr.slice 9 (.string ⟨s.toArray⟩) (some (.int .i64 F)) none none).run Tryd.prog w = .ok (.string ⟨(m ++ [b]).toArray⟩) w := fun w => by
          have h := run_sliceT (P := Tryd.prog) 9 Tryd.underlying9 s F (by omega) (by omega) w
          rwa [show ((F : Int)).toNat = F from by omega, Hend.out] at h
        clear hst2
        go_wp2_with (at_builtin; refine wpList_app encS sl_strK [m ++ [b]] rfl _ _ rfl rfl hown #[S (m ++ [b])] rfl 0 rfl rfl (by omega) (by simp only [maxLen]; omega) hbel.size ?_; intro g c' w1 hown1 hg1 hb1 hbg)
        go_ret
        rw [Hq.out]
        exact ⟨_, c', by simp, hown1, hbel.trans hb1⟩
end Go.Proofs.YtbchkaoocobpfaaDoor
