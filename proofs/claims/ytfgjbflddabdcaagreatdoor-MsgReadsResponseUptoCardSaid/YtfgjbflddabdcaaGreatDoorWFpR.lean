/- Walk: fields, parsed: the reference's. -/
import Derived.Test.YtfgjbflddabdcaaGreatDoorWFp
import Derived.Test.YtfgjbflddabdcaaGreatDoorWFc2
import Derived.Test.YtfgjbflddabdcaaGreatDoorWLine
import Derived.IntWalk
namespace Go.Proofs.YtfgjbflddabdcaaGreatDoor
open Go.RowKit Go.Larder
set_option linter.unusedVariables false
set_option linter.unusedSimpArgs false

set_option maxHeartbeats 4000000 in
set_option maxRecDepth 100000 in
theorem w_FParseR (s : List UInt8) (hs : s.length ≤ 1048576) (w : World) (hM : ML w) :
    Calls Tryz.prog 51 #[S s] w (FpPost w (fpE s)) := by
  obtain ⟨R, hR⟩ : ∃ R, fpE s = R := ⟨_, rfl⟩
  rw [hR]
  have HR := Lib.hid hR
  clear hR
  go_enter Tryz.func51, Tryz.ntmps51
  go_wp2_with fail
  go_loopw [5, 6] (fun o a wr => ∃ (k n : Nat) (out : List Flp) (A : Option Addr) (c : Nat), a = .int .i64 k ∧ o = .slice A out.length c ∧ k ≤ s.length ∧ out.length ≤ 30 ∧ OwnL encF wr w.heap.size 55 A c out ∧ Below w.heap.size w wr ∧ s.length - k < n ∧ Hid (fpGo n (s.drop k) k out = R)) (fun _ a _ => s.length - (intOf a).toNat)
  case atStart => exact ⟨0, s.length + 1, [], none, 0, rfl, rfl, by omega, by simp, OwnL.nil _ _ _, Below.refl _ _, by omega, Lib.hid HR.out⟩
  case round =>
    obtain ⟨k, n, out, A, c, rfl, rfl, hk, ho30, hown, hbel, hn, heq⟩ := hrel
    obtain ⟨m, rfl⟩ : ∃ m, n = m + 1 := ⟨n - 1, by omega⟩
    have hbs := hbel.size
    have hM2 := hM.keep hbel
    obtain ⟨rest, hrest⟩ : ∃ rest, s.drop k = rest := ⟨_, rfl⟩
    rw [hrest] at heq
    have hrl : rest.length + k ≤ s.length ∧ s.length ≤ rest.length + k := by rw [← hrest, List.length_drop]; omega
    obtain ⟨hrl1, hrl2⟩ := hrl
    have hext : List.take (s.length - k) (List.drop k s) = rest := by rw [hrest]; exact List.take_of_length_le (by omega)
    have Hrest := Lib.hid hrest
    clear hrest
    have hc := fun w hM => w_lineOf rest (by omega) 1100 (by omega) w hM
    cases hle : lineE rest 1100 with
    | error e =>
      rw [hle] at hc
      have Hq := Lib.hid (show R = .error e from by rw [← heq.out]; exact fp_err hle)
      have hn0 : (e == 0) = false := by simpa using line_err hle
      clear hle heq
      go_wp2_with (go_at_call 49; refine (hc _ hM2).mono ?_; rintro e1 w1 ⟨rfl, rfl⟩)
      go_ret3
      exact fpPost_err Hq hbel
    | ok l =>
      rw [hle] at hc
      obtain ⟨hl1, hl2⟩ := line_len hle
      cases l with
      | nil =>
        have Hq := Lib.hid (show R = .ok (out, k + 2) from by rw [← heq.out]; exact fp_end hle)
        clear hle heq
        go_wp2_with (go_at_call 49; refine (hc _ hM2).mono ?_; rintro e1 w1 ⟨rfl, rfl⟩)
        go_ret3
        exact fpPost_ok Hq (by simp) hown hbel
      | cons a0 l0 =>
        have hem : (a0 :: l0).isEmpty = false := rfl
        generalize a0 :: l0 = l at *
        by_cases ho : out.length = 30
        · have Hq := Lib.hid (show R = .error 2 from by rw [← heq.out]; exact fp_full hle hem ho)
          have hoz : 29 < out.length := by omega
          clear hle heq ho
          go_wp2_with (go_at_call 49; refine (hc _ hM2).mono ?_; rintro e1 w1 ⟨rfl, rfl⟩)
          go_ret3
          exact fpPost_err Hq hbel
        · have hoz : ¬ 29 < out.length := by omega
          have hix := fun w => c1_Index l 58 w
          rcases ixb_cases l 58 with h | ⟨i, h⟩
          · have hct := cut1_none h
            rw [h] at hix
            have Hq := Lib.hid (show R = .error 3 from by rw [← heq.out]; exact fp_syn hle hem ho (by rw [hct]; rfl))
            clear hle heq ho hct h
            go_wp2_with (first
              | (go_at_call 49; refine (hc _ hM2).mono ?_; rintro e1 w1 ⟨rfl, rfl⟩)
              | (go_at_call 83; refine (hix _).mono ?_; rintro e1 w1 ⟨rfl, rfl⟩))
            go_ret3
            exact fpPost_err Hq hbel
          · obtain ⟨hct, hi⟩ := cut1_at h
            rw [h] at hix
            have hi2 : i ≤ l.length := by omega
            have hi3 : i + 1 ≤ l.length := by omega
            have hst := fun hc hk => fp_step (m := m) (k := k) (out := out) hle hem ho hc hk
            have hck := fun hc hk => fp_chk (m := m) (k := k) (out := out) hle hem ho hc hk
            have hsy := fun hc => fp_syn (m := m) (k := k) (out := out) hle hem ho hc
            rw [hct] at hst hck hsy
            simp only [Bool.true_and] at hst hck hsy
            obtain ⟨nm, hnm⟩ : ∃ nm, l.take i = nm := ⟨_, rfl⟩
            obtain ⟨v, hv⟩ : ∃ v, l.drop (i + 1) = v := ⟨_, rfl⟩
            have hnl : nm.length ≤ 1100 := by rw [← hnm, List.length_take]; omega
            have hvl : v.length ≤ 1100 := by rw [← hv, List.length_drop]; omega
            have hex2 : List.take (l.length - (i + 1)) (List.drop (i + 1) l) = v := by rw [hv]; exact List.take_of_length_le (by rw [← hv, List.length_drop]; omega)
            rw [hnm, hv] at hst hck
            rw [hnm] at hsy
            clear hct h hv hle
            have htk := fun w => fc_TokenR nm (by omega) w
            cases ht : isTok nm
            · have Hq := Lib.hid (show R = .error 3 from by rw [← heq.out]; exact hsy ht)
              simp only [ht] at htk
              clear hst hck hsy heq ho ht
              go_wp2_with (first
                | (go_at_call 49; refine (hc _ hM2).mono ?_; rintro e1 w1 ⟨rfl, rfl⟩)
                | (go_at_call 83; refine (hix _).mono ?_; rintro e1 w1 ⟨rfl, rfl⟩)
                | (go_at_call 35; refine (htk _).mono ?_; rintro e1 w1 ⟨rfl, rfl⟩))
              go_ret3
              exact fpPost_err Hq hbel
            · have htr := fun w => fc_TrimR v.length v w (Nat.le_refl _) (by omega)
              have htl := trim_lenF v
              have hst := hst ht
              have hck := hck ht
              simp only [ht] at htk
              generalize trim v = tv at htr hst hck htl
              have hch := fun w => w_oneField nm tv (by omega) (by omega) w
              simp only [chkF_eq] at hch
              clear hsy ho ht
              cases hz : (chkF nm tv == 0)
              · have hz1 : ¬ chkF nm tv = 0 := by simpa using hz
                have Hq := Lib.hid (show R = .error (chkF nm tv) from by rw [← heq.out]; exact hck hz1)
                generalize chkF nm tv = en at hch hz Hq
                clear hst hck heq hz1
                go_wp2_with (first
                  | (go_at_call 49; refine (hc _ hM2).mono ?_; rintro e1 w1 ⟨rfl, rfl⟩)
                  | (go_at_call 83; refine (hix _).mono ?_; rintro e1 w1 ⟨rfl, rfl⟩)
                  | (go_at_call 35; refine (htk _).mono ?_; rintro e1 w1 ⟨rfl, rfl⟩))
                have hw1 : IntKind.i64.wrap ((i : Int) + 1) = (i : Int) + 1 := IntWalk.i64_in _ (by omega)
                have hw2 : 0 ≤ (i : Int) + 1 := by omega
                have hw3 : ((i : Int) + 1).toNat = i + 1 := by omega
                have hw4 : (i : Int) + 1 ≤ l.length := by omega
                go_region_with (go_at_call 84; refine (htr _).mono ?_; rintro e1 w3 ⟨rfl, hb3⟩; (try (have bx9 : BoxAt w3 wr.heap.size 55 [S [], S []] := BoxAt.keep (w := (wr.alloc (.cells #[S [], S []] 55)).drew) (BoxAt.new wr [S [], S []] 55) hb3; have q90 := bx9.cell (j := 0) rfl; have q91 := bx9.cell (j := 1) rfl; have f90 := bx9.free 0; have f91 := bx9.free 1)))
                all_goals clear hw1 hw2 hw3 hw4
                all_goals go_wp2_with
                  (go_at_call 85; refine (hch _).mono ?_; rintro e1 w4 ⟨rfl, hb4⟩
                   have hs3 := hb3.size
                   have hBw : Below wr.heap.size wr w4 := by
                     first
                       | exact (((((Below.refl wr.heap.size wr).alloc (Nat.le_refl _) (.cells #[S [], S []] 55)).drew.trans (hb3.mono (by simp))).setCell (p := ⟨wr.heap.size, 0, none⟩) (Nat.le_refl _) (S nm)).setCell (p := ⟨wr.heap.size, 1, none⟩) (Nat.le_refl _) (S tv)).trans (hb4.mono (by simp at hs3 ⊢; omega))
                       | exact (((Below.refl wr.heap.size wr).drew.trans hb3).alloc hs3 (.cells #[S nm, S tv] 55)).trans (hb4.mono (by have : wr.heap.size ≤ w3.heap.size := hs3; simp; omega))
                   have hB4 := hbel.trans (hBw.mono hbs))
                all_goals
                  go_ret3
                  exact fpPost_err Hq hB4
              · have hz1 : chkF nm tv = 0 := by simpa using hz
                have Heq := Lib.hid ((hst hz1).symm.trans heq.out)
                simp only [hz1] at hch
                clear hst hck heq hz1 hz
                go_wp2_with (first
                  | (go_at_call 49; refine (hc _ hM2).mono ?_; rintro e1 w1 ⟨rfl, rfl⟩)
                  | (go_at_call 83; refine (hix _).mono ?_; rintro e1 w1 ⟨rfl, rfl⟩)
                  | (go_at_call 35; refine (htk _).mono ?_; rintro e1 w1 ⟨rfl, rfl⟩))
                have hw1 : IntKind.i64.wrap ((i : Int) + 1) = (i : Int) + 1 := IntWalk.i64_in _ (by omega)
                have hw2 : 0 ≤ (i : Int) + 1 := by omega
                have hw3 : ((i : Int) + 1).toNat = i + 1 := by omega
                have hw4 : (i : Int) + 1 ≤ l.length := by omega
                go_region_with (go_at_call 84; refine (htr _).mono ?_; rintro e1 w3 ⟨rfl, hb3⟩; (try (have bx9 : BoxAt w3 wr.heap.size 55 [S [], S []] := BoxAt.keep (w := (wr.alloc (.cells #[S [], S []] 55)).drew) (BoxAt.new wr [S [], S []] 55) hb3; have q90 := bx9.cell (j := 0) rfl; have q91 := bx9.cell (j := 1) rfl; have f90 := bx9.free 0; have f91 := bx9.free 1)))
                all_goals clear hw1 hw2 hw3 hw4
                all_goals go_wp2_with (first
                  | (go_at_call 85; refine (hch _).mono ?_; rintro e1 w4 ⟨rfl, hb4⟩
                     have hs3 := hb3.size
                     have hBw : Below wr.heap.size wr w4 := by
                       first
                         | exact (((((Below.refl wr.heap.size wr).alloc (Nat.le_refl _) (.cells #[S [], S []] 55)).drew.trans (hb3.mono (by simp))).setCell (p := ⟨wr.heap.size, 0, none⟩) (Nat.le_refl _) (S nm)).setCell (p := ⟨wr.heap.size, 1, none⟩) (Nat.le_refl _) (S tv)).trans (hb4.mono (by simp at hs3 ⊢; omega))
                         | exact (((Below.refl wr.heap.size wr).drew.trans hb3).alloc hs3 (.cells #[S nm, S tv] 55)).trans (hb4.mono (by have : wr.heap.size ≤ w3.heap.size := hs3; simp; omega))
                     have hB4 := hbel.trans (hBw.mono hbs)
                     have hown4 := hown.below hBw (Nat.le_refl _)
                     first
                       | (have bx4 := ((bx9.set 0 (S nm)).set 1 (S tv)).keep hb4
                          have q0 := bx4.cell (j := 0) rfl
                          have q1 := bx4.cell (j := 1) rfl)
                       | (have bx4 := (BoxAt.new w3 [S nm, S tv] 55).keep hb4
                          have q0 := bx4.cell (j := 0) rfl
                          have q1 := bx4.cell (j := 1) rfl))
                  | (at_builtin; refine wpList_app encF sl_F [(nm, tv)] rfl _ _ rfl rfl hown4 #[S nm, S tv] rfl 0 rfl rfl (by omega) (by simp only [maxLen]; omega) hB4.size ?_; intro g c'' w5 hown5 hg5 hb5 hbg))
                all_goals
                  go_roundw
                  case rel => exact ⟨k + l.length + 2, m, out ++ [(nm, tv)], _, _, by go_num, by simp, by omega, by simp; omega, hown5, hB4.trans hb5, by omega, Lib.hid (by rw [← Heq.out, ← Hrest.out, List.drop_drop, Nat.add_assoc])⟩
                  case measure => simp [intOf]; omega
end Go.Proofs.YtfgjbflddabdcaaGreatDoor
