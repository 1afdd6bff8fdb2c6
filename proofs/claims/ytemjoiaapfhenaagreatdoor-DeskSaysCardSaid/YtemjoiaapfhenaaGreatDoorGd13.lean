/- WChk, WChw, WChx, WChe -/
import Derived.Test.YtemjoiaapfhenaaGreatDoorGd00
import Derived.Test.YtemjoiaapfhenaaGreatDoorGd02
import Derived.Test.YtemjoiaapfhenaaGreatDoorGd01
import Derived.RangeFuncNested
import Derived.RangeFuncBound
import Derived.RangeFuncCalls
import Derived.RangeFuncLeaves
import Derived.Shelf.Abstract
import Derived.Shelf.RegionOpen
import Derived.WalkKit
import Derived.TacticsInMore
import Derived.LoopNIn
import Derived.LoopIn
import Derived.Deep.DeepCutAuto
import Derived.Deep.RegionHeld3
import Derived.StillTailTactics
import Derived.StillTactics

/- WChk -/
section
namespace Go.Proofs.YtemjoiaapfhenaaGreatDoor
open Go.RowKit Go.Larder
set_option linter.unusedVariables false
set_option linter.unusedSimpArgs false
theorem w_Gear (c : UInt8) (w : World) : Calls Tryz.prog 213 #[.int .u8 c.toNat] w fun e w' => e = .returned (.int .u32 (gear c : Nat)) ∧ w = w' := by
  go_enter Tryz.func213, Tryz.ntmps213
  go_wp2_with fail
  go_ret
  exact ⟨ret_int (gear1 c), rfl⟩
theorem w_GearR (c : UInt8) (w : World) : Calls Tryz.prog 92 #[.int .u8 c.toNat] w fun e w' => e = .returned (.int .u32 (gear c : Nat)) ∧ w = w' := by
  go_enter Tryz.func92, Tryz.ntmps92
  go_wp2_with fail
  go_ret
  exact ⟨ret_int (gear2 c), rfl⟩
theorem sl_strK : SlT Tryz.prog 22 9 1 16 := SlT.mk' (z := .string ByteArray.empty) Tryz.underlying22 (by kernel_rfl) rfl
set_option maxHeartbeats 4000000 in
theorem w_CutC (s : List UInt8) (hl : s.length ≤ 140737488351232) (w : World) : Calls Tryz.prog 30 #[S s] w fun e w' => ∃ A c, e = .returned (.slice A (cutC s).length c) ∧ OwnL encS w' w.heap.size 9 A c (cutC s) ∧ Below w.heap.size w w' := by
  go_enter Tryz.func30, Tryz.ntmps30
  go_wp2_with fail
  go_loopw [3, 4, 11] (fun o' f' i' wr => ∃ (k sm F : Nat) (o : List (List UInt8)) (r : List UInt8) (A : Option Addr) (c : Nat), i' = .int .i64 k ∧ f' = .int .i64 F ∧ o' = .slice A o.length c ∧ k ≤ s.length ∧ F + r.length = k ∧ r.length < 128 ∧ 16 * o.length + r.length ≤ k ∧ Hid (ck (s.take k) = (sm, o, r)) ∧ OwnL encS wr w.heap.size 9 A c o ∧ Below w.heap.size w wr)
    (fun _ _ i' _ => s.length - (intOf i').toNat)
  case atStart => exact ⟨0, 0, 0, [], [], none, 0, rfl, rfl, rfl, by omega, by simp, by simp, by simp, Lib.hid rfl, OwnL.nil _ _ _, Below.refl _ _⟩
  case round =>
    obtain ⟨k, sm, F, o, r, A, c, rfl, rfl, rfl, hk, hF, hr, hol, hst, hown, hbel⟩ := hrel
    have hbs := hbel.size
    by_cases hlt : k < s.length
    · obtain ⟨x, hx, hd⟩ := drop_step hlt
      have hg : ∀ h, s[k]'h = x := fun h => by rw [List.getElem?_eq_getElem h] at hx; exact Option.some.inj hx
      have Hst := Lib.hid (ck_take_step hx)
      have Hseg := Lib.hid (ck_seg hst.out hx hF)
      have Hsum := Lib.hid (sum_seg hst.out hx)
      have hrl := ck_rest (0, [], []) (by simp) (s.take (k + 1))
      change (ck (s.take (k + 1))).2.2.length < 128 at hrl
      rw [Hst.out, hst.out] at hrl
      have Hrl := Lib.hid hrl
      clear hd hrl
      by_cases h16 : r.length + 1 < 16
      · have hI : (k : Int) + 1 - F < 16 := by omega
        have Hq := Lib.hid (show ck (s.take (k + 1)) = (sumF sm x, o, r ++ [x]) from by rw [Hst.out, hst.out]; exact ck_no (isCut_lt h16))
        clear hx
        go_wp2_with fail
        go_roundw
        case rel => exact ⟨k + 1, _, F, o, r ++ [x], A, c, by go_num, rfl, rfl, by omega, by simp; omega, by simp; omega, by simp; omega, Hq, hown, hbel⟩
        case measure => simp [intOf]; omega
      · have hI : ¬ (k : Int) + 1 - F < 16 := by omega
        have hI2 : (16 : Int) ≤ (k : Int) + 1 - F := by omega
        have sl : ∀ w, (Instr.slice 9 (.string ⟨s.toArray⟩) (some (.int .i64 F)) (some (.int .i64 ((k : Int) + 1))) none).run Tryz.prog w = .ok (.string ⟨(r ++ [x]).toArray⟩) w := fun w => by
          have h := run_sliceS (P := Tryz.prog) 9 Tryz.underlying9 s F ((k : Int) + 1) (by omega) (by omega) (by omega) w
          rwa [show ((F : Int)).toNat = F from by omega, show ((k : Int) + 1).toNat = k + 1 from by omega, Hseg.out] at h
        by_cases h31 : (31 : Int) < (k : Int)
        · have hlok : k - 31 ≤ k := by omega
          have Hsum2 := Lib.hid (show sumC 0 ((s.drop (k - 31)).take (k + 1 - (k - 31))) = sumF sm x from by have := Hsum.out; rwa [show k - 31 = k - 31 from by omega] at this)
          clear hx
          go_wp2_with fail
          go_loopw [7, 8] (fun n' j' wr2 => ∃ (j : Nat) (N : Int), j' = .int .i64 j ∧ n' = .int .u64 N ∧ k - 31 ≤ j ∧ j ≤ k + 1 ∧ Hid (N = sumC 0 ((s.drop (k - 31)).take (j - (k - 31)))) ∧ wr2 = wr)
            (fun _ j' _ => k + 1 - (intOf j').toNat)
          case atStart => exact ⟨k - 31, 0, by first | rfl | go_num | (simp; omega), rfl, by omega, by omega, Lib.hid (by simp [sumC]), by first | rfl | trivial⟩
          case round =>
            obtain ⟨j, N, rfl, rfl, hj1, hj2, hnn, rfl⟩ := hrel
            by_cases hjk : j < k + 1
            · obtain ⟨y, hy, hd⟩ := drop_step (l := s) (k := j) (by omega)
              have hgy : ∀ h, s[j]'h = y := fun h => by rw [List.getElem?_eq_getElem h] at hy; exact Option.some.inj hy
              have Hn2 := Lib.hid (seg_step hj1 hy)
              have hge := fun w => w_GearR y w
              have hjI : (j : Int) ≤ (k : Int) := by omega
              obtain ⟨n, hn⟩ : ∃ n, sumC 0 ((s.drop (k - 31)).take (j - (k - 31))) = n := ⟨_, rfl⟩
              rw [hn] at Hn2 hnn
              have hnl : n < 4294967296 := by rw [← hn]; exact sumC_lt (by omega) _
              have He := Lib.hid (show IntKind.u64.wrap (IntKind.u64.wrap (2 * N) + IntKind.u64.wrap (gear y : Nat)) = ((2 * n + gear y : Nat) : Int) from by rw [hnn.out]; exact sumF_walk n hnl y)
              have Hsf := Lib.hid (show ((2 * n + gear y : Nat) : Int).tmod 4294967296 = (sumF n y : Nat) from by unfold sumF; rw [Int.tmod_eq_emod_of_nonneg (by omega)]; omega)
              have Hn3 := Lib.hid Hn2.out
              clear hn hnl Hn2 hnn
              clear hd hy
              go_wp2_with (go_at_call 92; refine (hge _).mono ?_; rintro e w' ⟨rfl, rfl⟩)
              go_roundw
              case rel => exact ⟨j + 1, (sumF n y : Nat), by go_num, by first | (rw [← Hsf.out, ← He.out]; done) | (rw [← Hsf.out, ← He.out]; rfl), by omega, by omega, Lib.hid (by rw [Hn3.out]), by first | rfl | trivial⟩
              case measure => simp [intOf]; omega
            · obtain rfl : j = k + 1 := by omega
              have hnn2 : N = (sumF sm x : Nat) := by rw [hnn.out, Hsum2.out]
              have Hn2 := Lib.hid hnn2
              clear hnn2
              by_cases hs : N < 134217728
              · have Hs : sumF sm x < 134217728 := by have := Hn2.out; omega
                have Hq := Lib.hid (show ck (s.take (k + 1)) = (sumF sm x, o ++ [r ++ [x]], []) from by rw [Hst.out, hst.out]; exact ck_yes (isCut_sum (by show 16 ≤ r.length + 1; omega) Hs))
                clear Hs
                go_wp2_with (at_builtin; refine wpList_app encS sl_strK [r ++ [x]] rfl _ _ rfl rfl hown #[S (r ++ [x])] rfl 0 rfl rfl (by omega) (by simp only [maxLen]; omega) hbel.size ?_; intro g c' w1 hown1 hg1 hb1 hbg)
                go_roundw
                case rel => exact ⟨k + 1, _, k + 1, o ++ [r ++ [x]], [], _, _, by go_num, by first | rfl | go_num, by simp, by omega, by simp, by simp, by simp; omega, Hq, hown1, hbel.trans hb1⟩
                case measure => simp [intOf]; omega
              · have Hs : Hid (¬ sumF sm x < 134217728) := Lib.hid (by have := Hn2.out; omega)
                by_cases h128 : r.length + 1 = 128
                · have hI128 : ((k : Int) + 1 - F == 128) = true := by simp; omega
                  have Hq := Lib.hid (show ck (s.take (k + 1)) = (sumF sm x, o ++ [r ++ [x]], []) from by rw [Hst.out, hst.out]; refine ck_yes ?_; show isCut (r.length + 1) _ = true; rw [h128]; exact isCut_128)
                  clear Hs
                  go_wp2_with (at_builtin; refine wpList_app encS sl_strK [r ++ [x]] rfl _ _ rfl rfl hown #[S (r ++ [x])] rfl 0 rfl rfl (by omega) (by simp only [maxLen]; omega) hbel.size ?_; intro g c' w1 hown1 hg1 hb1 hbg)
                  go_roundw
                  case rel => exact ⟨k + 1, _, k + 1, o ++ [r ++ [x]], [], _, _, by go_num, by first | rfl | go_num, by simp, by omega, by simp, by simp, by simp; omega, Hq, hown1, hbel.trans hb1⟩
                  case measure => simp [intOf]; omega
                · have hI128 : ((k : Int) + 1 - F == 128) = false := by simp; omega
                  have Hq := Lib.hid (show ck (s.take (k + 1)) = (sumF sm x, o, r ++ [x]) from by rw [Hst.out, hst.out]; exact ck_no (isCut_no Hs.out h128))
                  clear Hs
                  go_wp2_with fail
                  go_roundw
                  case rel => exact ⟨k + 1, _, F, o, r ++ [x], A, c, by go_num, rfl, rfl, by omega, by simp; omega, by simp; omega, by simp; omega, Hq, hown, hbel⟩
                  case measure => simp [intOf]; omega
        · have hlok : 0 ≤ k := by omega
          have Hsum2 := Lib.hid (show sumC 0 ((s.drop (0)).take (k + 1 - (0))) = sumF sm x from by have := Hsum.out; rwa [show k - 31 = 0 from by omega] at this)
          clear hx
          go_wp2_with fail
          go_loopw [7, 8] (fun n' j' wr2 => ∃ (j : Nat) (N : Int), j' = .int .i64 j ∧ n' = .int .u64 N ∧ 0 ≤ j ∧ j ≤ k + 1 ∧ Hid (N = sumC 0 ((s.drop (0)).take (j - (0)))) ∧ wr2 = wr)
            (fun _ j' _ => k + 1 - (intOf j').toNat)
          case atStart => exact ⟨0, 0, by first | rfl | go_num | (simp; omega), rfl, by omega, by omega, Lib.hid (by simp [sumC]), by first | rfl | trivial⟩
          case round =>
            obtain ⟨j, N, rfl, rfl, hj1, hj2, hnn, rfl⟩ := hrel
            by_cases hjk : j < k + 1
            · obtain ⟨y, hy, hd⟩ := drop_step (l := s) (k := j) (by omega)
              have hgy : ∀ h, s[j]'h = y := fun h => by rw [List.getElem?_eq_getElem h] at hy; exact Option.some.inj hy
              have Hn2 := Lib.hid (seg_step hj1 hy)
              have hge := fun w => w_GearR y w
              have hjI : (j : Int) ≤ (k : Int) := by omega
              obtain ⟨n, hn⟩ : ∃ n, sumC 0 ((s.drop (0)).take (j - (0))) = n := ⟨_, rfl⟩
              rw [hn] at Hn2 hnn
              have hnl : n < 4294967296 := by rw [← hn]; exact sumC_lt (by omega) _
              have He := Lib.hid (show IntKind.u64.wrap (IntKind.u64.wrap (2 * N) + IntKind.u64.wrap (gear y : Nat)) = ((2 * n + gear y : Nat) : Int) from by rw [hnn.out]; exact sumF_walk n hnl y)
              have Hsf := Lib.hid (show ((2 * n + gear y : Nat) : Int).tmod 4294967296 = (sumF n y : Nat) from by unfold sumF; rw [Int.tmod_eq_emod_of_nonneg (by omega)]; omega)
              have Hn3 := Lib.hid Hn2.out
              clear hn hnl Hn2 hnn
              clear hd hy
              go_wp2_with (go_at_call 92; refine (hge _).mono ?_; rintro e w' ⟨rfl, rfl⟩)
              go_roundw
              case rel => exact ⟨j + 1, (sumF n y : Nat), by go_num, by first | (rw [← Hsf.out, ← He.out]; done) | (rw [← Hsf.out, ← He.out]; rfl), by omega, by omega, Lib.hid (by rw [Hn3.out]), by first | rfl | trivial⟩
              case measure => simp [intOf]; omega
            · obtain rfl : j = k + 1 := by omega
              have hnn2 : N = (sumF sm x : Nat) := by rw [hnn.out, Hsum2.out]
              have Hn2 := Lib.hid hnn2
              clear hnn2
              by_cases hs : N < 134217728
              · have Hs : sumF sm x < 134217728 := by have := Hn2.out; omega
                have Hq := Lib.hid (show ck (s.take (k + 1)) = (sumF sm x, o ++ [r ++ [x]], []) from by rw [Hst.out, hst.out]; exact ck_yes (isCut_sum (by show 16 ≤ r.length + 1; omega) Hs))
                clear Hs
                go_wp2_with (at_builtin; refine wpList_app encS sl_strK [r ++ [x]] rfl _ _ rfl rfl hown #[S (r ++ [x])] rfl 0 rfl rfl (by omega) (by simp only [maxLen]; omega) hbel.size ?_; intro g c' w1 hown1 hg1 hb1 hbg)
                go_roundw
                case rel => exact ⟨k + 1, _, k + 1, o ++ [r ++ [x]], [], _, _, by go_num, by first | rfl | go_num, by simp, by omega, by simp, by simp, by simp; omega, Hq, hown1, hbel.trans hb1⟩
                case measure => simp [intOf]; omega
              · have Hs : Hid (¬ sumF sm x < 134217728) := Lib.hid (by have := Hn2.out; omega)
                by_cases h128 : r.length + 1 = 128
                · exact absurd h128 (by omega)
                · have hI128 : ((k : Int) + 1 - F == 128) = false := by simp; omega
                  have Hq := Lib.hid (show ck (s.take (k + 1)) = (sumF sm x, o, r ++ [x]) from by rw [Hst.out, hst.out]; exact ck_no (isCut_no Hs.out h128))
                  clear Hs
                  go_wp2_with fail
                  go_roundw
                  case rel => exact ⟨k + 1, _, F, o, r ++ [x], A, c, by go_num, rfl, rfl, by omega, by simp; omega, by simp; omega, by simp; omega, Hq, hown, hbel⟩
                  case measure => simp [intOf]; omega
    · obtain rfl : k = s.length := by omega
      have hst2 := hst.out
      rw [List.take_length] at hst2
      rcases nil_or_snoc r with rfl | ⟨m, b, rfl⟩
      · have Hq := Lib.hid (cutC_nil hst2)
        have hI : ¬ (F : Int) < s.length := by simp at hF; omega
        clear hst2
        go_wp2_with fail
        go_ret
        rw [Hq.out]
        exact ⟨A, c, by simp, hown, hbel⟩
      · have Hq := Lib.hid (cutC_some hst2 (by simp))
        have Hend := Lib.hid (ck_end hst2 hF)
        have hI : (F : Int) < s.length := by simp at hF; omega
        have sl : ∀ w, (Instr.slice 9 (.string ⟨s.toArray⟩) (some (.int .i64 F)) none none).run Tryz.prog w = .ok (.string ⟨(m ++ [b]).toArray⟩) w := fun w => by
          have h := run_sliceT (P := Tryz.prog) 9 Tryz.underlying9 s F (by omega) (by omega) w
          rwa [show ((F : Int)).toNat = F from by omega, Hend.out] at h
        clear hst2
        go_wp2_with (at_builtin; refine wpList_app encS sl_strK [m ++ [b]] rfl _ _ rfl rfl hown #[S (m ++ [b])] rfl 0 rfl rfl (by omega) (by simp only [maxLen]; omega) hbel.size ?_; intro g c' w1 hown1 hg1 hb1 hbg)
        go_ret
        rw [Hq.out]
        exact ⟨_, c', by simp, hown1, hbel.trans hb1⟩
end Go.Proofs.YtemjoiaapfhenaaGreatDoor
end

/- WChw -/
section
namespace Go.Proofs.YtemjoiaapfhenaaGreatDoor
open Go.RowKit Go.Larder Go.Shelf
attribute [local go_sem] Oper.semAt_some
set_option linter.unusedVariables false
set_option linter.unusedSimpArgs false
structure CutB (w : World) (g : Nat) (X : Option Nat) (sum : Nat) (rest : List UInt8) : Prop where
  ex : ∃ A c, BoxAt w g 178 [.int .u32 sum, .slice A rest.length c] ∧ OwnL encB w 0 5 A c rest ∧ blkOf A = X
structure CJ (w : World) (g : Nat) (X : Option Nat) (rec : Loop) (s : List UInt8) (st : CkS) (wr : World) : Prop where
  book : wr.heap[w.heap.size + 4]? = some (.loop rec)
  dfr : wr.heap[w.heap.size + 3]? = some (.deferred (some []))
  bout : ∃ A c, BoxAt wr w.heap.size 22 [.slice A st.2.1.length c] ∧ OwnL encS wr (w.heap.size + 5) 9 A c st.2.1
  bc : BoxAt wr (w.heap.size + 1) 130 [.pointer (some ⟨g, 0, none⟩)]
  bs : BoxAt wr (w.heap.size + 2) 9 [S s]
  bx : ∃ Y, CutB wr g Y st.1 st.2.2 ∧ (Y = X ∨ ∃ b, Y = some b ∧ w.heap.size + 5 ≤ b)
  same : SameBut (fun j => j = g ∨ X = some j) w wr
theorem CJ.size {w wr : World} {g : Nat} {X : Option Nat} {rec : Loop} {s : List UInt8} {st : CkS} (h : CJ w g X rec s st wr) : w.heap.size + 5 ≤ wr.heap.size := by
  have := (Array.getElem?_eq_some_iff.1 h.book).1; omega
theorem CJ.step {w wr W4 : World} {g sm2 : Nat} {X Y Y2 : Option Nat} {rec : Loop} {s r2 : List UInt8} {st : CkS} (h : CJ w g X rec s st wr) (hg : g < w.heap.size) (hX : ∀ b, X = some b → b < w.heap.size)
    (hY : CutB wr g Y st.1 st.2.2) (hYX : Y = X ∨ ∃ b, Y = some b ∧ w.heap.size + 5 ≤ b) (hs : SameBut (fun j => j = g ∨ Y = some j) wr W4) (hn : CutB W4 g Y2 sm2 r2) (hY2 : Y2 = Y ∨ ∃ b, Y2 = some b ∧ w.heap.size + 5 ≤ b) : CJ w g X rec s (sm2, st.2.1, r2) W4 := by
  have hsz := h.size
  have hn0 : ∀ j, w.heap.size ≤ j → j < w.heap.size + 5 → ¬ (j = g ∨ Y = some j) := by
    rintro j h1 h2 (rfl | rfl)
    · omega
    · rcases hYX with rfl | ⟨b, hb, hb2⟩
      · have := hX j rfl; omega
      · injection hb; omega
  obtain ⟨A, c, hb, hown⟩ := h.bout
  obtain ⟨A', c', hb', hown', rfl⟩ := hY
  refine ⟨(hs.block _ (by omega) (hn0 _ (by omega) (by omega))).trans h.book, (hs.block _ (by omega) (hn0 _ (by omega) (by omega))).trans h.dfr, ⟨A, c, hs.box hb (hn0 _ (by omega) (by omega)), hs.own hown ?_⟩,
    hs.box h.bc (hn0 _ (by omega) (by omega)), hs.box h.bs (hn0 _ (by omega) (by omega)), ⟨Y2, hn, ?_⟩, h.same.trans hs ?_⟩
  · rintro a rfl (he | he)
    · have := (hown.lt a rfl).1; omega
    · obtain ⟨a', rfl⟩ : ∃ a', A' = some a' := by cases A' with | none => cases he | some a' => exact ⟨a', rfl⟩
      exact OwnL.apart hown hown' (by decide) a a' rfl rfl (by simpa [blkOf] using he.symm)
  · rcases hY2 with rfl | h2
    · exact hYX
    · exact .inr h2
  · rintro j hj (rfl | he)
    · exact .inl rfl
    · rcases hYX with he2 | ⟨b, hb, hb2⟩
      · exact .inr (he2 ▸ he)
      · rw [hb] at he; injection he; omega
/-- what the round does with a piece -/
def CRnd (w : World) (g : Nat) (X : Option Nat) (rc : RecOf) (s : List UInt8) : Prop := ∀ (p : List UInt8) (st : CkS) (W : World), 16 * st.2.1.length ≤ 140737488355000 → CJ w g X (rc .ready none) s st W →
  YieldAt Fence.wide (8 - 1 - 1) Tryz.prog (w.heap.size + 4) #[S p] W fun e W' => e = .returned (.bool true) ∧ CJ w g X (rc .ready none) s (st.1, st.2.1 ++ [p], st.2.2) W'
theorem sl_u8c : SlT Tryz.prog 112 5 1 1 := SlT.mk' (z := .int .u8 0) Tryz.underlying112 (by kernel_rfl) rfl
set_option maxHeartbeats 8000000 in
set_option maxRecDepth 100000 in
theorem it_pieces (w : World) (g : Nat) (hg : g < w.heap.size) (X : Option Nat) (hX : ∀ b, X = some b → b < w.heap.size) (rc : RecOf) (s : List UInt8) (hs : s.length ≤ 140737488351232) (sum : Nat) (hsum : sum < 4294967296) (rest : List UInt8) (hrest : rest.length < 128) (hR : CRnd w g X rc s) (W1 : World) (h1 : CJ w g X (rc .ready none) s (sum, [], rest) W1) :
    CallsIn Fence.wide (8 - 1) Tryz.prog 212 (#[.func (.yield (w.heap.size + 4)) #[] #[]] ++ #[.pointer (some ⟨w.heap.size + 2, 0, none⟩), .pointer (some ⟨w.heap.size + 1, 0, none⟩)]) W1 fun e W' => (∃ v, e = .returned v) ∧
      CJ w g X (rc .ready none) s (ckAll (sum, [], rest) s) W' := by
  refine callsIn_wide.2 ?_
  have c1 := h1.bs.cell (j := 0) rfl
  go_enter Tryz.func212, Tryz.ntmps212
  go_wp2_with fail
  go_loopw [9] (fun i' wr => ∃ (k : Nat), i' = .int .i64 k ∧ k ≤ s.length ∧ CJ w g X (rc .ready none) s (ckAll (sum, [], rest) (s.take k)) wr) (fun i' _ => s.length - (intOf i').toNat)
  case atStart => exact ⟨0, rfl, by omega, h1⟩
  case round =>
    obtain ⟨k, rfl, hk, hj⟩ := hrel
    by_cases hlt : k < s.length
    · obtain ⟨x, hx, hd⟩ := drop_step hlt
      have hgx : ∀ h, s[k]'h = x := fun h => by rw [List.getElem?_eq_getElem h] at hx; exact Option.some.inj hx
      have Hst := Lib.hid (show ckAll (sum, [], rest) (s.take (k + 1)) = ckStep (ckAll (sum, [], rest) (s.take k)) x from by rw [List.take_add_one, hx]; exact ck_snoc _ _ _)
      have hrl := ck_rest (sum, [], rest) hrest (s.take k)
      have hsl : (ckAll (sum, [], rest) (s.take k)).1 < 4294967296 := by rw [ck_sum]; exact sumC_lt hsum _
      have hol := ck_len16 (sum, [], rest) (s.take k)
      simp only [List.length_nil, List.length_take] at hol
      generalize hstt : ckAll (sum, [], rest) (s.take k) = st at *
      obtain ⟨sm, out, r⟩ := st
      simp only at hrl hsl hol
      obtain ⟨Y, hcb, hYX⟩ := hj.bx
      obtain ⟨A, c, bx, hown, hY⟩ := hcb.ex
      simp only at bx hown
      have hge := fun w => (w_Gear x w).mono (fun e w' (h : _ ∧ _) => (⟨h.1, h.2.symm⟩ : _ ∧ w' = w))
      have q0 := bx.cell (j := 0) rfl
      have q1 := bx.cell (j := 1) rfl
      have f0 := bx.free 0
      have d1 := hj.bc.cell (j := 0) rfl
      have d2 := hj.bs.cell (j := 0) rfl
      have Hj := Lib.hid hj
      have hrl1 : 1 ≤ (r ++ [x]).length := by simp
      clear hx hd hstt
      go_wp2_with fail
      refine wp_region_still_tail 11 (by kernel_rfl) (by kernel_rfl) ?_
      simp only [List.take_succ_cons, List.take_zero, List.drop_succ_cons, List.drop_zero]
      repeat still_step
      still_call (hge _)
      repeat still_step
      try refine wpStill_nil ?_
      change wpList _ _ _ _ _ wr.drew
      have bx2 := (bx.set 0 (.int .u32 ((↑sm * 2 % 4294967296 + ↑(gear x)) % 4294967296))).drew
      have hap := BoxAt.apart hown bx (by decide)
      have hsb2 : SameBut (fun j => j = g) wr (wr.setCell ⟨g, 0, none⟩ (.int .u32 ((↑sm * 2 % 4294967296 + ↑(gear x)) % 4294967296))).drew := ((SameBut.refl (B := fun j => j = g) wr).setCell ⟨g, 0, none⟩ _ (fun _ => rfl)).drew
      have hown2 := hsb2.own hown (fun a ha => hap a ha)
      have bc2 := hsb2.box hj.bc (by omega)
      have bs2 := hsb2.box hj.bs (by omega)
      have hE : ((sm : Int) * 2 % 4294967296 + (gear x : Nat)) % 4294967296 = (sumF sm x : Nat) := by unfold sumF; omega
      rw [hE] at bx2 hsb2 hown2 bc2 bs2
      have bx2 : BoxAt _ g 178 [.int .u32 (sumF sm x : Nat), .slice A r.length c] := bx2
      go_wp2_with fail
      rw [hE]
      clear hE q0 q1 f0 d1 d2
      have hj2 := Lib.hid hsb2
      clear hsb2
      generalize (wr.setCell ⟨g, 0, none⟩ (.int .u32 (sumF sm x : Nat))).drew = W2 at *
      have q1 := bx2.cell (j := 1) rfl
      have d1 := bc2.cell (j := 0) rfl
      have d2 := bs2.cell (j := 0) rfl
      have hap2 := BoxAt.apart hown2 bx2 (by decide)
      have hg2 := bx2.lt
      have hneg : some g ≠ blkOf A := fun h => by cases A with | none => cases h | some a => exact hap2 a rfl (by simpa [blkOf] using h.symm)
      have e1 := (bx2.alloc (.cells #[.int .u8 x.toNat] 5)).cell (j := 1) rfl
      have e2 := (bc2.alloc (.cells #[.int .u8 x.toNat] 5)).cell (j := 0) rfl
      have e3 := (bs2.alloc (.cells #[.int .u8 x.toNat] 5)).cell (j := 0) rfl
      have hnegN : some (w.heap.size + 1) ≠ blkOf A := fun h => by
        rw [hY] at h
        rcases hYX with rfl | ⟨b, rfl, hb⟩
        · have := hX _ h.symm; omega
        · injection h; omega
      have hnegN2 : some (w.heap.size + 2) ≠ blkOf A := fun h => by
        rw [hY] at h
        rcases hYX with rfl | ⟨b, rfl, hb⟩
        · have := hX _ h.symm; omega
        · injection h; omega
      have hw2 : w.heap.size + 5 ≤ W2.heap.size := Nat.le_trans hj.size hj2.out.size
      go_cut [] from 25 to 36 (fun wx => ∃ A3 c3, BoxAt wx g 178 [.int .u32 (sumF sm x : Nat), .slice A3 (r.length + 1) c3] ∧ OwnL encB wx 0 5 A3 c3 (r ++ [x]) ∧ (blkOf A3 = blkOf A ∨ ∃ b, blkOf A3 = some b ∧ w.heap.size + 5 ≤ b) ∧ SameBut (fun j => j = g ∨ blkOf A = some j) W2 wx)
      case first =>
        refine wp_region_held_drew (S := (fun W => W.cell? ⟨w.heap.size + 1, 0, none⟩ = some (.pointer (some ⟨g, 0, none⟩)) ∧ W.cell? ⟨w.heap.size + 2, 0, none⟩ = some (S s))) (by kernel_rfl) ⟨d1, d2⟩ (fun hHeld => ?_)
        refine wpAnyH_take (i := 0) (v := ?_) rfl (by kernel_rfl) (by kernel_rfl) (by kernel_rfl) (fun _ _ _ h => h) (Or.inl ⟨by rfl, by (intro W hSw; (try dsimp only at hSw); go_simp; try (with_reducible rfl))⟩) (by assumption) ?_
        try simp only [Act.put, List.setIfInBounds_toArray, List.set_cons_zero, List.set_cons_succ]
        refine wpAnyH_take (i := 1) (v := ?_) rfl (by kernel_rfl) (by kernel_rfl) (by kernel_rfl) (fun _ _ _ h => h) (Or.inl ⟨by rfl, by (intro W hSw; (try dsimp only at hSw); go_simp; try (with_reducible rfl))⟩) (by assumption) ?_
        try simp only [Act.put, List.setIfInBounds_toArray, List.set_cons_zero, List.set_cons_succ]
        refine wpAnyH_take (i := 2) (v := ?_) rfl (by kernel_rfl) (by kernel_rfl) (by kernel_rfl) (fun _ _ _ h => h) (Or.inl ⟨by rfl, by (intro W hSw; (try dsimp only at hSw); go_simp; try (with_reducible rfl))⟩) (by assumption) ?_
        try simp only [Act.put, List.setIfInBounds_toArray, List.set_cons_zero, List.set_cons_succ]
        refine wpAnyH_take (i := 3) (v := ?_) rfl (by kernel_rfl) (by kernel_rfl) (by kernel_rfl) (fun _ _ _ h => h) (Or.inl ⟨by rfl, by (intro W hSw; (try dsimp only at hSw); go_simp; try (with_reducible rfl))⟩) (by assumption) ?_
        try simp only [Act.put, List.setIfInBounds_toArray, List.set_cons_zero, List.set_cons_succ]
        refine wpAnyH_take (i := 5) (v := ?_) rfl (by kernel_rfl) (by kernel_rfl) (by kernel_rfl) (fun _ _ _ h => h) (Or.inl ⟨by rfl, by (intro W hSw; (try dsimp only at hSw); go_simp; try (with_reducible rfl))⟩) (by assumption) ?_
        try simp only [Act.put, List.setIfInBounds_toArray, List.set_cons_zero, List.set_cons_succ]
        refine wpAnyH_take (i := 6) (v := ?_) rfl (by kernel_rfl) (by kernel_rfl) (by kernel_rfl) (fun _ _ _ h => h) (Or.inl ⟨by rfl, by (intro W hSw; (try dsimp only at hSw); go_simp; try (with_reducible rfl))⟩) (by assumption) ?_
        try simp only [Act.put, List.setIfInBounds_toArray, List.set_cons_zero, List.set_cons_succ]
        refine wpAnyH_take (i := 7) (v := ?_) rfl (by kernel_rfl) (by kernel_rfl) (by kernel_rfl) (fun _ _ _ h => h) (Or.inl ⟨by rfl, by (intro W hSw; (try dsimp only at hSw); go_simp; try (with_reducible rfl))⟩) (by assumption) ?_
        try simp only [Act.put, List.setIfInBounds_toArray, List.set_cons_zero, List.set_cons_succ]
        refine wpAnyH_ready (rs := [4, 8]) (by kernel_rfl) (by simp) ?_
        refine AllReadyH.cons rfl (fun K hK => ?_) ?_
        · go_simp
          refine hK.out _ _ ⟨d1, d2⟩ (fun hHeld => ?_)
          clear hK K
          try simp only [Act.put, List.setIfInBounds_toArray, List.set_cons_zero, List.set_cons_succ]
          refine wpAnyH_ready (rs := [8]) (by kernel_rfl) (by simp) ?_
          refine AllReadyH.cons rfl (fun K hK => ?_) ?_
          · go_simp
            refine hK.out _ _ ⟨e2, e3⟩ (fun hHeld => ?_)
            clear hK K
            try simp only [Act.put, List.setIfInBounds_toArray, List.set_cons_zero, List.set_cons_succ]
            refine wpAnyH_ready (rs := [9]) (by kernel_rfl) (by simp) ?_
            refine AllReadyH.cons rfl (fun K hK => ?_) ?_
            · (refine step_app_at (l := r) (base := 0) encB sl_u8c [x] (by rfl) _ _ (by rfl) (by rfl) (by first | exact hown2.alloc _ | exact OwnL.alloc (OwnL.drew hown2) _) (by rfl) (by first | exact ReadL.lit (E := encB) _ #[.int .u8 x.toNat] _ [x] rfl) (by simp; omega) (by simp [maxLen]; omega) (by exact Nat.zero_le _) ?_; intro A3 c3 w3 hown3 hgr3 hform3 hb3; have bx3 : BoxAt w3 g 178 [.int .u32 (sumF sm x : Nat), .slice A r.length c] := (hgr3.block g (by first | exact hg2 | exact Nat.lt_of_lt_of_le hg2 (by simp)) hneg).trans (by first | exact bx2 | exact bx2.alloc _); have f3 := bx3.free 1; have q3 := bx3.cell (j := 1) rfl; have bc3 : BoxAt w3 (w.heap.size + 1) _ _ := (hgr3.block (w.heap.size + 1) (by first | exact bc2.lt | exact Nat.lt_of_lt_of_le bc2.lt (by simp)) hnegN).trans (by first | exact bc2 | exact bc2.alloc _); have d3 := bc3.cell (j := 0) rfl; have bs3 : BoxAt w3 (w.heap.size + 2) _ _ := (hgr3.block (w.heap.size + 2) (by first | exact bs2.lt | exact Nat.lt_of_lt_of_le bs2.lt (by simp)) hnegN2).trans (by first | exact bs2 | exact bs2.alloc _); have d4 := bs3.cell (j := 0) rfl; have d5 := (bc3.setOther ⟨g, 1, none⟩ (by show w.heap.size + 1 ≠ g; omega) (.slice A3 (r.length + 1) c3)).cell (j := 0) rfl; have d6 := (bs3.setOther ⟨g, 1, none⟩ (by show w.heap.size + 2 ≠ g; omega) (.slice A3 (r.length + 1) c3)).cell (j := 0) rfl; have hsb3 : SameBut (fun j => j = g ∨ blkOf A = some j) W2 w3 := SameBut.grown (by first | exact ((SameBut.refl W2).alloc _).drew | exact (SameBut.refl W2).drew.alloc _) hgr3 (fun j _ h => .inr h))
              refine hK.out _ _ ⟨d3, d4⟩ (fun hHeld => ?_)
              clear hK K
              try simp only [Act.put, List.setIfInBounds_toArray, List.set_cons_zero, List.set_cons_succ]
              refine wpAnyH_take (i := 10) (v := ?_) rfl (by kernel_rfl) (by kernel_rfl) (by kernel_rfl) (fun _ _ _ h => h) (Or.inl ⟨by rfl, by (intro W hSw; (try dsimp only at hSw); go_simp; try (with_reducible rfl))⟩) (by assumption) ?_
              try simp only [Act.put, List.setIfInBounds_toArray, List.set_cons_zero, List.set_cons_succ]
              refine wpAnyH_take (i := 11) (v := ?_) rfl (by kernel_rfl) (by kernel_rfl) (by kernel_rfl) (fun _ _ _ h => h) (Or.inl ⟨by rfl, by (intro W hSw; (try dsimp only at hSw); go_simp; try (with_reducible rfl))⟩) (by assumption) ?_
              try simp only [Act.put, List.setIfInBounds_toArray, List.set_cons_zero, List.set_cons_succ]
              refine wpAnyH_ready (rs := [12]) (by kernel_rfl) (by simp) ?_
              refine AllReadyH.cons rfl (fun K hK => ?_) ?_
              · go_simp
                refine hK.out _ _ ⟨d5, d6⟩ (fun hHeld => ?_)
                clear hK K
                try simp only [Act.put, List.setIfInBounds_toArray, List.set_cons_zero, List.set_cons_succ]
                refine wpAnyH_done (by kernel_rfl) ?_ _
                go_wp2_with fail
                go_meet
                case rel => exact ⟨A3, c3, bx3.set 1 (.slice A3 (r.length + 1) c3), (SameBut.setCell (B := fun j => j = g) (SameBut.refl w3) ⟨g, 1, none⟩ _ (fun _ => rfl)).own hown3 (BoxAt.apart hown3 bx3 (by decide)), hform3.imp id (fun h => ⟨_, h, by first | exact hw2 | exact Nat.le_trans hw2 (by simp)⟩), hsb3.setCell ⟨g, 1, none⟩ _ (fun _ => .inl rfl)⟩
              exact AllReadyH.nil
            exact AllReadyH.nil
          exact AllReadyH.nil
        refine AllReadyH.cons rfl (fun K hK => ?_) ?_
        · go_simp
          refine hK.out _ _ ⟨e2, e3⟩ (fun hHeld => ?_)
          clear hK K
          try simp only [Act.put, List.setIfInBounds_toArray, List.set_cons_zero, List.set_cons_succ]
          refine wpAnyH_ready (rs := [4]) (by kernel_rfl) (by simp) ?_
          refine AllReadyH.cons rfl (fun K hK => ?_) ?_
          · go_simp
            refine hK.out _ _ ⟨e2, e3⟩ (fun hHeld => ?_)
            clear hK K
            try simp only [Act.put, List.setIfInBounds_toArray, List.set_cons_zero, List.set_cons_succ]
            refine wpAnyH_ready (rs := [9]) (by kernel_rfl) (by simp) ?_
            refine AllReadyH.cons rfl (fun K hK => ?_) ?_
            · (refine step_app_at (l := r) (base := 0) encB sl_u8c [x] (by rfl) _ _ (by rfl) (by rfl) (by first | exact hown2.alloc _ | exact OwnL.alloc (OwnL.drew hown2) _) (by rfl) (by first | exact ReadL.lit (E := encB) _ #[.int .u8 x.toNat] _ [x] rfl) (by simp; omega) (by simp [maxLen]; omega) (by exact Nat.zero_le _) ?_; intro A3 c3 w3 hown3 hgr3 hform3 hb3; have bx3 : BoxAt w3 g 178 [.int .u32 (sumF sm x : Nat), .slice A r.length c] := (hgr3.block g (by first | exact hg2 | exact Nat.lt_of_lt_of_le hg2 (by simp)) hneg).trans (by first | exact bx2 | exact bx2.alloc _); have f3 := bx3.free 1; have q3 := bx3.cell (j := 1) rfl; have bc3 : BoxAt w3 (w.heap.size + 1) _ _ := (hgr3.block (w.heap.size + 1) (by first | exact bc2.lt | exact Nat.lt_of_lt_of_le bc2.lt (by simp)) hnegN).trans (by first | exact bc2 | exact bc2.alloc _); have d3 := bc3.cell (j := 0) rfl; have bs3 : BoxAt w3 (w.heap.size + 2) _ _ := (hgr3.block (w.heap.size + 2) (by first | exact bs2.lt | exact Nat.lt_of_lt_of_le bs2.lt (by simp)) hnegN2).trans (by first | exact bs2 | exact bs2.alloc _); have d4 := bs3.cell (j := 0) rfl; have d5 := (bc3.setOther ⟨g, 1, none⟩ (by show w.heap.size + 1 ≠ g; omega) (.slice A3 (r.length + 1) c3)).cell (j := 0) rfl; have d6 := (bs3.setOther ⟨g, 1, none⟩ (by show w.heap.size + 2 ≠ g; omega) (.slice A3 (r.length + 1) c3)).cell (j := 0) rfl; have hsb3 : SameBut (fun j => j = g ∨ blkOf A = some j) W2 w3 := SameBut.grown (by first | exact ((SameBut.refl W2).alloc _).drew | exact (SameBut.refl W2).drew.alloc _) hgr3 (fun j _ h => .inr h))
              refine hK.out _ _ ⟨d3, d4⟩ (fun hHeld => ?_)
              clear hK K
              try simp only [Act.put, List.setIfInBounds_toArray, List.set_cons_zero, List.set_cons_succ]
              refine wpAnyH_take (i := 10) (v := ?_) rfl (by kernel_rfl) (by kernel_rfl) (by kernel_rfl) (fun _ _ _ h => h) (Or.inl ⟨by rfl, by (intro W hSw; (try dsimp only at hSw); go_simp; try (with_reducible rfl))⟩) (by assumption) ?_
              try simp only [Act.put, List.setIfInBounds_toArray, List.set_cons_zero, List.set_cons_succ]
              refine wpAnyH_take (i := 11) (v := ?_) rfl (by kernel_rfl) (by kernel_rfl) (by kernel_rfl) (fun _ _ _ h => h) (Or.inl ⟨by rfl, by (intro W hSw; (try dsimp only at hSw); go_simp; try (with_reducible rfl))⟩) (by assumption) ?_
              try simp only [Act.put, List.setIfInBounds_toArray, List.set_cons_zero, List.set_cons_succ]
              refine wpAnyH_ready (rs := [12]) (by kernel_rfl) (by simp) ?_
              refine AllReadyH.cons rfl (fun K hK => ?_) ?_
              · go_simp
                refine hK.out _ _ ⟨d5, d6⟩ (fun hHeld => ?_)
                clear hK K
                try simp only [Act.put, List.setIfInBounds_toArray, List.set_cons_zero, List.set_cons_succ]
                refine wpAnyH_done (by kernel_rfl) ?_ _
                go_wp2_with fail
                go_meet
                case rel => exact ⟨A3, c3, bx3.set 1 (.slice A3 (r.length + 1) c3), (SameBut.setCell (B := fun j => j = g) (SameBut.refl w3) ⟨g, 1, none⟩ _ (fun _ => rfl)).own hown3 (BoxAt.apart hown3 bx3 (by decide)), hform3.imp id (fun h => ⟨_, h, by first | exact hw2 | exact Nat.le_trans hw2 (by simp)⟩), hsb3.setCell ⟨g, 1, none⟩ _ (fun _ => .inl rfl)⟩
              exact AllReadyH.nil
            exact AllReadyH.nil
          exact AllReadyH.nil
        exact AllReadyH.nil
      case rest =>
        obtain ⟨A3, c3, bx4, hown4, hform4, hsb4⟩ := hcut
        have hsbw : SameBut (fun j => j = g ∨ Y = some j) wr wc := by rw [← hY]; exact SameBut.trans (hj2.out.mono (fun j _ h => .inl h)) hsb4 (fun j _ h => h)
        have hcut4 : CutB wc g (blkOf A3) (sumF sm x) (r ++ [x]) := ⟨A3, c3, by rw [List.length_append]; exact bx4, hown4, rfl⟩
        have hC4 := Lib.hid (hj.step hg hX hcb hYX hsbw hcut4 (by rw [← hY]; exact hform4))
        have hform5 : blkOf A3 = X ∨ ∃ b, blkOf A3 = some b ∧ w.heap.size + 5 ≤ b := by
          rcases hform4 with h | h
          · rw [h, hY]; exact hYX
          · exact .inr h
        have bc4 := hC4.out.bc
        obtain ⟨g4, rfl, _, _⟩ := hown4.some_ (by simp)
        have q0 := bx4.cell (j := 0) rfl
        have q1 := bx4.cell (j := 1) rfl
        have f1 := bx4.free 1
        have d1 := bc4.cell (j := 0) rfl
        have hcv : (convert 112 9 (.slice (some ⟨g4, 0, none⟩) (r.length + 1) c3)).run Tryz.prog wc = .ok (S (r ++ [x])) wc := by
          have h := run_bytes_str (P := Tryz.prog) 112 9 Tryz.underlying112 Tryz.underlying5 Tryz.underlying9 hown4.read c3
          rwa [List.length_append] at h
        have Hcb := Lib.hid hcut4
        clear e1 e2 e3 hneg hnegN hnegN2 hap2 bx2 bc2 bs2 hown2 hj2 hsb4 hsbw hcut4 hform4 Hj hj bx hown hcb hYX hY d2 hap
        by_cases h16 : r.length + 1 < 16
        · have hI : (r.length : Int) + 1 < 16 := by omega
          have Hq := Lib.hid (show ckStep (sm, out, r) x = (sumF sm x, out, r ++ [x]) from ck_no (isCut_lt h16))
          go_wp2_with fail
          go_roundw
          case rel => exact ⟨k + 1, by go_num, by omega, by rw [Hst.out, Hq.out]; exact hC4.out⟩
          case measure => simp [intOf]; omega
        · have hI : ¬ (r.length : Int) + 1 < 16 := by omega
          obtain ⟨n, hn⟩ : ∃ n, sumF sm x = n := ⟨_, rfl⟩
          have Hn := Lib.hid hn
          rw [hn] at q0 bx4
          by_cases hs7 : n < 134217728
          · have hs7I : (n : Int) / 134217728 = 0 := by omega
            have Hq := Lib.hid (show ckStep (sm, out, r) x = (sumF sm x, out ++ [r ++ [x]], []) from ck_yes (isCut_sum (by show 16 ≤ r.length + 1; omega) (by show sumF sm x < _; rw [hn]; exact hs7)))
            clear hn
            go_wp2_with fail
            refine wp_region_still_tail 6 (by kernel_rfl) (by kernel_rfl) ?_
            simp only [List.take_succ_cons, List.take_zero, List.drop_succ_cons, List.drop_zero]
            repeat still_step
            try refine wpStill_nil ?_
            change wpList _ _ _ _ _ wc.drew
            have bx5 := bx4.set 1 (.slice (some ⟨g4, 0, none⟩) 0 c3)
            have hap5 := BoxAt.apart hown4 bx4 (by decide)
            have hsb5 : SameBut (fun j => j = g) wc (wc.setCell ⟨g, 1, none⟩ (.slice (some ⟨g4, 0, none⟩) 0 c3)).drew := ((SameBut.refl (B := fun j => j = g) wc).setCell ⟨g, 1, none⟩ _ (fun _ => rfl)).drew
            have hcut5 : CutB (wc.setCell ⟨g, 1, none⟩ (.slice (some ⟨g4, 0, none⟩) 0 c3)).drew g (blkOf (some ⟨g4, 0, none⟩)) n [] := ⟨some ⟨g4, 0, none⟩, c3, bx5, hsb5.own ((hown4.take 0 (by omega))) (fun a ha => hap5 a ha), rfl⟩
            have hC5 := CJ.step hC4.out hg hX Hcb.out hform5 (hsb5.mono (fun j _ h => .inl h)) hcut5 (.inl rfl)
            have hy := hR (r ++ [x]) _ _ (by show 16 * out.length ≤ 140737488355000; omega) hC5
            obtain ⟨fn, tmps, assign, body, hy1, hy2⟩ := hy
            go_upto_region 9 with fail
            refine (wpIn_wide (n := 8 - 1)).1 ?_
            gi_wp2
            refine hy2.mono ?_
            rintro e W' ⟨rfl, hC6⟩
            gi_wp2
            go_wp2_with fail
            go_roundw
            case rel => exact ⟨k + 1, by go_num, by omega, by rw [Hst.out, Hq.out, Hn.out]; exact hC6⟩
            case measure => simp [intOf]; omega

          · have hs7I : ¬ (n : Int) / 134217728 = 0 := by omega
            by_cases h128 : r.length + 1 < 128
            · have hI2 : (r.length : Int) + 1 < 128 := by omega
              have Hq := Lib.hid (show ckStep (sm, out, r) x = (sumF sm x, out, r ++ [x]) from ck_no (isCut_no (by show ¬ sumF sm x < _; rw [hn]; exact hs7) (by show r.length + 1 ≠ 128; omega)))
              have hs7J : (!((n : Int) / 134217728 == 0)) = true := by simp; exact hs7I
              clear hn
              go_wp2_with fail
              go_roundw
              case rel => exact ⟨k + 1, by go_num, by omega, by rw [Hst.out, Hq.out]; exact hC4.out⟩
              case measure => simp [intOf]; omega
            · have hI2 : ¬ (r.length : Int) + 1 < 128 := by omega
              have Hq := Lib.hid (show ckStep (sm, out, r) x = (sumF sm x, out ++ [r ++ [x]], []) from ck_yes (by show isCut (r.length + 1) _ = true; rw [show r.length + 1 = 128 from by omega]; exact isCut_128))
              clear hn
              go_wp2_with fail
              refine wp_region_still_tail 6 (by kernel_rfl) (by kernel_rfl) ?_
              simp only [List.take_succ_cons, List.take_zero, List.drop_succ_cons, List.drop_zero]
              repeat still_step
              try refine wpStill_nil ?_
              change wpList _ _ _ _ _ wc.drew
              have bx5 := bx4.set 1 (.slice (some ⟨g4, 0, none⟩) 0 c3)
              have hap5 := BoxAt.apart hown4 bx4 (by decide)
              have hsb5 : SameBut (fun j => j = g) wc (wc.setCell ⟨g, 1, none⟩ (.slice (some ⟨g4, 0, none⟩) 0 c3)).drew := ((SameBut.refl (B := fun j => j = g) wc).setCell ⟨g, 1, none⟩ _ (fun _ => rfl)).drew
              have hcut5 : CutB (wc.setCell ⟨g, 1, none⟩ (.slice (some ⟨g4, 0, none⟩) 0 c3)).drew g (blkOf (some ⟨g4, 0, none⟩)) n [] := ⟨some ⟨g4, 0, none⟩, c3, bx5, hsb5.own ((hown4.take 0 (by omega))) (fun a ha => hap5 a ha), rfl⟩
              have hC5 := CJ.step hC4.out hg hX Hcb.out hform5 (hsb5.mono (fun j _ h => .inl h)) hcut5 (.inl rfl)
              have hy := hR (r ++ [x]) _ _ (by show 16 * out.length ≤ 140737488355000; omega) hC5
              obtain ⟨fn, tmps, assign, body, hy1, hy2⟩ := hy
              go_upto_region 9 with fail
              refine (wpIn_wide (n := 8 - 1)).1 ?_
              gi_wp2
              refine hy2.mono ?_
              rintro e W' ⟨rfl, hC6⟩
              gi_wp2
              go_wp2_with fail
              go_roundw
              case rel => exact ⟨k + 1, by go_num, by omega, by rw [Hst.out, Hq.out, Hn.out]; exact hC6⟩
              case measure => simp [intOf]; omega

    · obtain rfl : k = s.length := by omega
      rw [List.take_length] at hj
      go_wp2_with fail
      go_end0
      exact ⟨⟨_, rfl⟩, hj⟩
end Go.Proofs.YtemjoiaapfhenaaGreatDoor
end

/- WChx -/
section
namespace Go.Proofs.YtemjoiaapfhenaaGreatDoor
open Go.RowKit Go.Larder Go.Shelf
attribute [local go_sem] Oper.semAt_some
set_option linter.unusedVariables false
set_option linter.unusedSimpArgs false
theorem w_pieces (g : Nat) (s : List UInt8) (w : World) : Calls Tryz.prog 174 #[.pointer (some ⟨g, 0, none⟩), S s] w fun e w' => e = .returned (.func (.func 212) #[] #[.pointer (some ⟨w.heap.size + 1, 0, none⟩), .pointer (some ⟨w.heap.size, 0, none⟩)]) ∧
    w' = (w.alloc (.cells #[.pointer (some ⟨g, 0, none⟩)] 130)).alloc (.cells #[S s] 9) := by
  go_enter Tryz.func174, Tryz.ntmps174
  go_wp2_with fail
  go_ret
  exact ⟨rfl, rfl⟩
set_option maxHeartbeats 8000000 in
set_option maxRecDepth 100000 in
theorem w_CWrite (g : Nat) (X : Option Nat) (sum : Nat) (rest s : List UInt8) (hs : s.length ≤ 140737488351232) (hsum : sum < 4294967296) (hrest : rest.length < 128) (w : World) (hc : CutB w g X sum rest) :
    Calls Tryz.prog 126 #[.pointer (some ⟨g, 0, none⟩), S s] w fun e w' => ∃ A c Y, e = .returned (.slice A (ckAll (sum, [], rest) s).2.1.length c) ∧ OwnL encS w' w.heap.size 9 A c (ckAll (sum, [], rest) s).2.1 ∧
      CutB w' g Y (ckAll (sum, [], rest) s).1 (ckAll (sum, [], rest) s).2.2 ∧ (Y = X ∨ ∃ b, Y = some b ∧ w.heap.size ≤ b) ∧ SameBut (fun j => j = g ∨ X = some j) w w' := by
  have hps := fun W => w_pieces g s W
  obtain ⟨A0, c0, bx0, own0, hX0⟩ := hc.ex
  have hg : g < w.heap.size := bx0.lt
  have hX : ∀ b, X = some b → b < w.heap.size := by
    rintro b rfl
    cases A0 with
    | none => cases hX0
    | some a =>
      have h : a.block = b := by simpa [blkOf] using hX0
      have := (own0.lt a rfl).2
      omega
  refine (callsIn_wide (n := 8)).1 ?_
  refine callsIn_of_wp_marks Tryz.func126 rfl trivial ?_ rfl
  simp only [Tryz.ntmps126, List.size_toArray, List.length_cons, List.length_nil, Nat.reduceAdd, Nat.reduceSub, Array.replicate_succ, Array.replicate_zero, List.push_toArray, List.append_toArray, List.nil_append, List.cons_append]
  gi_wp2_with (refine ⟨trivial, ?_⟩; gi_at_call 174; refine (callsIn_wide.2 (hps _)).mono ?_; rintro e w' ⟨rfl, rfl⟩)
  refine range_raw rfl (by omega) (gf := 212) (lb := #[.pointer (some ⟨w.heap.size + 1 + 1, 0, none⟩), .pointer (some ⟨w.heap.size + 1, 0, none⟩)]) ?_ trivial (enters_of Tryz.func212 (by kernel_rfl) rfl) (encs := fun x : List UInt8 => #[S x]) (fun x => rfl) ?_
  · rfl
  · intro rc W1 hW1 hl hD hB hround
    have hsz : ((((w.alloc (.cells #[.slice none 0 0] 22)).alloc (.cells #[.pointer (some ⟨g, 0, none⟩)] 130)).alloc (.cells #[S s] 9))).heap.size = w.heap.size + 3 := by simp
    rw [hsz] at hl hD hround ⊢
    have b2 : Below w.heap.size w (((w.alloc (.cells #[.slice none 0 0] 22)).alloc (.cells #[.pointer (some ⟨g, 0, none⟩)] 130)).alloc (.cells #[S s] 9)) := (((Below.refl w.heap.size w).alloc (Nat.le_refl _) _).alloc (by simp) _).alloc (by simp; omega) _
    have b3 := b2.trans (hB.mono b2.size)
    have x0 := BoxAt.new w [.slice none 0 0] 22
    have x1 := BoxAt.new (w.alloc (.cells #[.slice none 0 0] 22)) [.pointer (some ⟨g, 0, none⟩)] 130
    have x2 := BoxAt.new ((w.alloc (.cells #[.slice none 0 0] 22)).alloc (.cells #[.pointer (some ⟨g, 0, none⟩)] 130)) [S s] 9
    have y0 := ((x0.alloc (.cells #[.pointer (some ⟨g, 0, none⟩)] 130)).alloc (.cells #[S s] 9)).keep hB
    have y1 := (x1.alloc (.cells #[S s] 9)).keep hB
    have y2 := x2.keep hB
    simp only [World.size_alloc] at y1 y2
    have hc1 : CutB W1 g X sum rest := ⟨A0, c0, bx0.keep b3, own0.keep (fun a ha => b3.block a.block (own0.lt a ha).2), hX0⟩
    have hCJ : CJ w g X (rc .ready none) s (sum, [], rest) W1 := ⟨hl, hD, ⟨none, 0, y0, OwnL.nil _ _ _⟩, y1, y2, ⟨X, hc1, .inl rfl⟩, ⟨b3.os, b3.tape, b3.output, b3.size, fun j hj _ => b3.block j hj⟩⟩
    have hR : CRnd w g X rc s := by
      intro p st W hol hj
      refine hround p W _ hj.book ?_
      obtain ⟨A, c, hbo, hown⟩ := hj.bout
      have hsz5 := hj.size
      have r2 := hbo.put (w.heap.size + 4) (.loop (rc .busy none)) (by omega)
      have r3 := hown.put (w.heap.size + 4) (.loop (rc .busy none)) (by omega)
      have hL2 : (W.putObj (w.heap.size + 4) (.loop (rc .busy none))).heap[w.heap.size + 4]? = some (.loop (rc .busy none)) := World.putObj_heap_same (by omega)
      have hsb : SameBut (fun j => j = w.heap.size + 4) W (W.putObj (w.heap.size + 4) (.loop (rc .busy none))) := (SameBut.refl W).put _ _ (fun _ => rfl)
      have hwsz : w.heap.size + 5 ≤ (W.putObj (w.heap.size + 4) (.loop (rc .busy none))).heap.size := by simpa using hsz5
      have hbook := hj.book
      have q2 := r2.cell (j := 0) rfl
      have hbook := hj.book
      have hown5q := hown
      have hj2 := Lib.hid hj
      clear hround y0 y1 y2 x0 x1 x2 b2 b3 hj hl hD hB hW1 hCJ hc1 hbo
      gi_wp2_with fail
      refine ⟨hbook, ?_⟩
      gi_wp2_with (gi_at_builtin; refine wpListIn_appG (w := W.putObj (w.heap.size + 4) (.loop (rc .busy none))) encS sl_strK [p] rfl _ _ rfl rfl r3 #[S p] rfl 0 rfl (by first | rfl | (simp [go_sem]; done)) (by omega) (by simp only [maxLen]; omega) (by omega) ?_; intro g' c' w5 hown5 hgr5 hb5; have q5 := r2.kept hb5 (by omega); have c5 := q5.cell (j := 0) rfl; have f5 := q5.free 0)
      have hL5 : (w5.setCell ⟨w.heap.size, 0, none⟩ (.slice (some ⟨g', 0, none⟩) (st.2.1.length + 1) c')).heap[w.heap.size + 3 + 1]? = some (.loop (rc .busy none)) := (heap_setCell_other _ _ _ _ (by show w.heap.size + 3 + 1 ≠ w.heap.size; omega)).trans ((hb5.block _ (by omega)).trans hL2)
      refine ⟨hL5, ⟨rfl, ?_⟩⟩
      obtain ⟨hbk, hdf, _, hbc, hbs, ⟨Y, hcb, hYX⟩, hsm⟩ := hj2.out
      have hso : SameBut (fun j => j = w.heap.size + 4 ∨ j = w.heap.size ∨ blkOf A = some j) W ((w5.setCell ⟨w.heap.size, 0, none⟩ (.slice (some ⟨g', 0, none⟩) (st.2.1.length + 1) c')).putObj (w.heap.size + 3 + 1) (.loop (rc .ready none))) :=
        ((SameBut.grown (hsb.mono fun j _ h => .inl h) hgr5 (fun j _ h => .inr (.inr h))).setCell ⟨w.heap.size, 0, none⟩ _ (fun _ => .inr (.inl rfl))).put _ _ (fun _ => .inl (by omega))
      have hAlt : ∀ j, blkOf A = some j → w.heap.size + 5 ≤ j := by
        intro j h
        cases A with
        | none => cases h
        | some a =>
          have h1 : a.block = j := by simpa [blkOf] using h
          have := (r3.lt a rfl).1
          omega
      have hno : ∀ j, j < w.heap.size + 4 → j ≠ w.heap.size → ¬ (j = w.heap.size + 4 ∨ j = w.heap.size ∨ blkOf A = some j) := by
        rintro j h1 h2 (h | h | h)
        · omega
        · omega
        · have := hAlt j h; omega
      obtain ⟨A1, c1, bx1, own1, rfl⟩ := hcb
      refine ⟨World.putObj_heap_same (Array.getElem?_eq_some_iff.1 hL5).1, (hso.block _ (by omega) (hno _ (by omega) (by omega))).trans hdf, ⟨some ⟨g', 0, none⟩, c', ?_, ?_⟩, hso.box hbc (hno _ (by omega) (by omega)), hso.box hbs (hno _ (by omega) (by omega)), ⟨blkOf A1, ⟨A1, c1, hso.box bx1 (hno _ (by omega) (by omega)), hso.own own1 ?_, rfl⟩, hYX⟩, hsm.trans hso ?_⟩
      · rw [List.length_append]
        exact (q5.set 0 (.slice (some ⟨g', 0, none⟩) (st.2.1.length + 1) c')).put _ _ (by omega)
      · exact OwnL.put (hown5.keep fun a ha => heap_setCell_other _ _ _ _ (by have := (hown5.lt a ha).1; show a.block ≠ w.heap.size; omega)) _ _ (by omega)
      · rintro a rfl (h | h | h)
        · rcases hYX with h2 | ⟨b, h2, h3⟩
          · have := hX a.block (by rw [← h2]; rfl); omega
          · have h4 : a.block = b := by simpa [blkOf] using h2
            omega
        · rcases hYX with h2 | ⟨b, h2, h3⟩
          · have := hX a.block (by rw [← h2]; rfl); omega
          · have h4 : a.block = b := by simpa [blkOf] using h2
            omega
        · cases A with
          | none => cases h
          | some a' => exact OwnL.apart hown5q own1 (by decide) a' a rfl rfl (by simpa [blkOf] using h)
      · rintro j hj (h | h | h)
        · omega
        · omega
        · have := hAlt j h; omega
    refine (it_pieces w g hg X hX rc s (by omega) sum hsum rest hrest hR W1 hCJ).mono ?_
    rintro e W' ⟨hv, hj⟩
    refine ⟨hv, .inl ⟨hj.book, ?_⟩⟩
    obtain ⟨hbk, hdf, ⟨A, c, hbo, hown⟩, hbc, hbs, ⟨Y, ⟨A1, c1, bx1, own1, hY1⟩, hYX⟩, hsm⟩ := hj
    have hsz5 : w.heap.size + 5 ≤ W'.heap.size := by have := (Array.getElem?_eq_some_iff.1 hbk).1; omega
    have r0 := hbo.put (w.heap.size + 3 + 1) (.loop (rc .exhausted none)) (by omega)
    have q0 := r0.cell (j := 0) rfl
    have hD2 : (W'.putObj (w.heap.size + 3 + 1) (.loop (rc .exhausted none))).heap[w.heap.size + 3]? = some (.deferred (some [])) := (World.putObj_heap_other (by omega)).trans hdf
    clear hR y0 y1 y2 x0 x1 x2 b2 b3 hround hl hD hB hW1 hCJ hc1
    gi_wp2
    refine ⟨by simp, .inl ⟨_, _, rfl, run_takeDeferred hD2, ?_⟩⟩
    refine ⟨_, results_tmp rfl _ _ _, ?_⟩
    have hso : SameBut (fun j => j = w.heap.size + 3 + 1 ∨ j = w.heap.size + 3) W' ((W'.putObj (w.heap.size + 3 + 1) (.loop (rc .exhausted none))).putObj (w.heap.size + 3) (.deferred none)) :=
      ((SameBut.refl W').put _ _ (fun _ => .inl rfl)).put _ _ (fun _ => .inr rfl)
    refine ⟨A, c, Y, rfl, (hso.own hown ?_).base_le (by omega), ⟨A1, c1, hso.box bx1 (by omega), hso.own own1 ?_, hY1⟩, hYX.imp id (fun ⟨b, h, h2⟩ => ⟨b, h, by omega⟩), hsm.trans hso (fun j hj h => by omega)⟩
    · rintro a ha h
      have := (hown.lt a ha).1
      omega
    · rintro a rfl h
      rcases hYX with h2 | ⟨b, h2, h3⟩
      · have := hX a.block (by rw [← h2, ← hY1]; rfl); omega
      · have h4 : a.block = b := by rw [← hY1] at h2; simpa [blkOf] using h2
        omega
end Go.Proofs.YtemjoiaapfhenaaGreatDoor
end

/- WChe -/
section
namespace Go.Proofs.YtemjoiaapfhenaaGreatDoor
open Go.RowKit Go.Larder
set_option linter.unusedVariables false
set_option linter.unusedSimpArgs false
theorem w_CNew (w : World) : Calls Tryz.prog 125 #[] w fun e w' => e = .returned (.pointer (some ⟨w.heap.size, 0, none⟩)) ∧ CutB w' w.heap.size none 0 [] ∧ Below w.heap.size w w' ∧ w.heap.size < w'.heap.size := by
  go_enter Tryz.func125, Tryz.ntmps125
  go_wp2_with fail
  go_ret
  exact ⟨rfl, ⟨none, 0, BoxAt.new w [.int .u32 0, .slice none 0 0] 178, OwnL.nil _ _ _, rfl⟩, (Below.refl _ _).alloc (Nat.le_refl _) _, by simp⟩
set_option maxHeartbeats 2000000 in
set_option maxRecDepth 100000 in
theorem w_CEnd (g : Nat) (X : Option Nat) (sum : Nat) (rest : List UInt8) (w : World) (hc : CutB w g X sum rest) :
    Calls Tryz.prog 127 #[.pointer (some ⟨g, 0, none⟩)] w fun e w' => ∃ A c, e = .returned (.slice A (tailP rest).length c) ∧ OwnL encS w' w.heap.size 9 A c (tailP rest) ∧ CutB w' g none 0 [] ∧ SameBut (fun j => j = g) w w' := by
  obtain ⟨A0, c0, bx, own, hX⟩ := hc.ex
  have q0 := bx.cell (j := 0) rfl
  have q1 := bx.cell (j := 1) rfl
  have f0 := bx.free 0
  have f1 := bx.free 1
  have hlt := bx.lt
  have hcv : (convert 112 9 (.slice A0 rest.length c0)).run Tryz.prog w = .ok (S rest) w := run_bytes_str (P := Tryz.prog) 112 9 Tryz.underlying112 Tryz.underlying5 Tryz.underlying9 own.read c0
  have hs2 : SameBut (fun j => j = g) w ((w.setCell ⟨g, 0, none⟩ (.int .u32 0)).setCell ⟨g, 1, none⟩ (.slice none 0 0)) := ((SameBut.refl (B := fun j => j = g) w).setCell ⟨g, 0, none⟩ _ (fun _ => rfl)).setCell ⟨g, 1, none⟩ _ (fun _ => rfl)
  have b2 : BoxAt ((w.setCell ⟨g, 0, none⟩ (.int .u32 0)).setCell ⟨g, 1, none⟩ (.slice none 0 0)) g 178 [.int .u32 0, .slice none 0 0] := (bx.set 0 _).set 1 _
  have hsz : ((w.setCell ⟨g, 0, none⟩ (.int .u32 0)).setCell ⟨g, 1, none⟩ (.slice none 0 0)).heap.size = w.heap.size := by simp
  have Hs2 := Lib.hid hs2
  have Hb2 := Lib.hid b2
  have Hsz := Lib.hid hsz
  clear hs2 b2 hsz hc hX own bx
  rcases nil_or_snoc rest with rfl | ⟨m, b, rfl⟩
  · simp only [List.length_append, List.length_cons, List.length_nil, Nat.zero_add] at hcv
    go_enter Tryz.func127, Tryz.ntmps127
    go_wp2_with fail
    go_ret
    exact ⟨none, 0, by simp [tailP], OwnL.nil _ _ _, ⟨none, 0, Hb2.out, OwnL.nil _ _ _, rfl⟩, Hs2.out⟩
  · simp only [List.length_append, List.length_cons, List.length_nil, Nat.zero_add] at hcv
    go_enter Tryz.func127, Tryz.ntmps127
    go_wp2_with fail
    go_ret
    refine ⟨some ⟨w.heap.size, 0, none⟩, 1, by simp [tailP], ?_, ⟨none, 0, Hb2.out.alloc _, OwnL.nil _ _ _, rfl⟩, Hs2.out.alloc _⟩
    have := own_lit (E := encS) ((w.setCell ⟨g, 0, none⟩ (.int .u32 0)).setCell ⟨g, 1, none⟩ (.slice none 0 0)) w.heap.size 9 #[S (m ++ [b])] [m ++ [b]] rfl (by rw [Hsz.out]; exact Nat.le_refl _) (by simp [maxLen])
    rw [Hsz.out] at this
    simpa [tailP] using this
set_option maxHeartbeats 2000000 in
theorem w_CCut (s : List UInt8) (hs : s.length ≤ 140737488351232) (w : World) : Calls Tryz.prog 62 #[S s] w fun e w' => ∃ A c, e = .returned (.slice A (cutC s).length c) ∧ OwnL encS w' w.heap.size 9 A c (cutC s) ∧ Below w.heap.size w w' := by
  have hn := w_CNew w
  have hcu : cutC s = (ckAll (0, [], []) s).2.1 ++ tailP (ckAll (0, [], []) s).2.2 := rfl
  rw [hcu]
  have hw0 := fun w1 hc1 => w_CWrite w.heap.size none 0 [] s hs (by omega) (by simp) w1 hc1
  have hol := ck_len16 (0, [], []) s
  clear hcu
  generalize ckAll (0, [], []) s = st at *
  obtain ⟨sm, o, r⟩ := st
  simp only at *
  have htl : (tailP r).length ≤ 1 := by unfold tailP; split <;> simp
  go_enter Tryz.func62, Tryz.ntmps62
  go_wp2_with (go_at_call 125; refine hn.mono ?_; rintro e w1 ⟨rfl, hc1, hb1, hlt1⟩)
  have hw := hw0 w1 hc1
  go_wp2_with fail
  refine hw.mono ?_
  rintro e w2 ⟨A2, c2, Y, rfl, hown2, hc2, hY, hs2⟩
  have he := w_CEnd w.heap.size Y sm r w2 hc2
  go_wp2_with fail
  refine he.mono ?_
  rintro e w3 ⟨A3, c3, rfl, hown3, hc3, hs3⟩
  have hlt : w1.heap.size ≤ w2.heap.size := hs2.size
  have hlt3 : w2.heap.size ≤ w3.heap.size := hs3.size
  have ho2 : OwnL encS w3 w1.heap.size 9 A2 c2 o := hs3.own hown2 (fun a ha h => by have := (hown2.lt a ha).1; omega)
  have hB : Below w.heap.size w w3 := hb1.trans ((hs2.toBelow (by omega) (by rintro j hj (h | h) <;> first | omega | cases h)).trans (hs3.toBelow (by omega) (by rintro j hj h; omega)))
  go_wp2_with (at_builtin; refine wpList_app_any encS sl_strK (tailP r) rfl _ _ rfl rfl ho2 rfl hown3.read (by simp at hol; omega) (by simp only [maxLen]; simp at hol; omega) (by omega) ?_; intro A4 c4 w4 hown4 hb4)
  go_ret
  exact ⟨A4, c4, by simp, hown4.base_le (by omega), hB.trans (hb4.mono (by omega))⟩
end Go.Proofs.YtemjoiaapfhenaaGreatDoor
end
