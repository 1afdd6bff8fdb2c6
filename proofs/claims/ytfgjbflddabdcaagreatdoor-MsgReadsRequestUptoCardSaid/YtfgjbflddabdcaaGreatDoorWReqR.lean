/- Walk: a request's line, parsed: the reference's. -/
import Derived.Test.YtfgjbflddabdcaaGreatDoorWReq
namespace Go.Proofs.YtfgjbflddabdcaaGreatDoor
open Go.RowKit Go.Larder
set_option linter.unusedVariables false
set_option linter.unusedSimpArgs false

theorem w01_get (l : List UInt8) : (spl 32 l ++ [[], []])[0]? = some (w01 l).1 ∧ (spl 32 l ++ [[], []])[1]? = some (w01 l).2 ∧ (w01 l).1.length ≤ l.length ∧ (w01 l).2.length ≤ l.length := by
  have hm : ∀ p ∈ spl 32 l, p.length ≤ l.length := fun p hp => spl_mem_len hp
  obtain ⟨p, ps, hs⟩ := spl_some 32 l
  unfold w01
  rw [hs] at hm ⊢
  cases ps with
  | nil => exact ⟨rfl, rfl, hm p (by simp), by simp⟩
  | cons q r => exact ⟨rfl, rfl, hm p (by simp), hm q (by simp)⟩
theorem sl_strQ : SlT Tryz.prog 66 9 1 16 := SlT.mk' (z := .string ByteArray.empty) Tryz.underlying66 (by kernel_rfl) rfl

set_option maxHeartbeats 6000000 in
theorem w_LineReqOf (s : List UInt8) (hs : s.length ≤ 1048576) (w : World) (hM : ML w) :
    Calls Tryz.prog 25 #[S s] w (ReqPost w (parseR s)) := by
  have hf := w_lineOf s hs 300 (by omega) w hM
  unfold parseR
  cases hle : lineE s 300 with
  | error n =>
    rw [hle] at hf
    have hn : (n == 0) = false := by simpa using line_err hle
    clear hle
    go_enter Tryz.func25, Tryz.ntmps25
    go_wp2_with (go_at_call 49; refine hf.mono ?_; rintro e w1 ⟨rfl, rfl⟩)
    ((try simp only [Exit.inBlock, Exit.then]); refine bodyPost_ret (results_tmp4 rfl _ _ _) rfl ?_)
    exact reqPost_err (Below.refl _ _)
  | ok l =>
    rw [hle] at hf
    have hl := line_len hle
    clear hle
    obtain ⟨hl1, _⟩ := hl
    have hsp := fun w hM => w_Split l [32] (by omega) (by decide) w hM
    rw [split_spl] at hsp
    obtain ⟨e0, e1, ha, hb⟩ := w01_get l
    have hwl : (spl 32 l).length ≤ 301 := by have := spl_len 32 l; have := List.count_le_length (a := (32 : UInt8)) (l := l); omega
    simp only
    generalize (w01 l).1 = a at e0 ha ⊢
    generalize (w01 l).2 = b at e1 hb ⊢
    generalize spl 32 l = ws at hsp e0 e1 hwl
    have hL : ∀ w, Calls Tryz.prog 19 #[S a, S b] w (StPost w (reqE a b)) := fun w => w_LineReq a b (by omega) (by omega) w
    unfold reqE at hL
    cases hq : reqOK a b
    · rw [Bool.false_and, if_neg (by simp)]
      simp only [hq, Bool.false_eq_true, if_false] at hL
      have E0 := Lib.hid e0
      have E1 := Lib.hid e1
      clear e0 e1 hq
      go_enter Tryz.func25, Tryz.ntmps25
      go_wp2_with (first
        | (go_at_call 49; refine hf.mono ?_; rintro e w1 ⟨rfl, rfl⟩)
        | (go_at_call 46; refine (hsp _ hM).mono ?_; rintro e w2 ⟨rfl, hown, hb2⟩)
        | (at_builtin; refine wpList_app encS sl_strQ [[], []] rfl _ _ rfl rfl hown #[S [], S []] rfl 1 rfl rfl (by omega) (by simp only [maxLen]; omega) hb2.size ?_; intro g c'' w3 hown3 hg3 hb3 hbg
           have g0 := hown3.get_S (j := 0) E0.out
           have g1 := hown3.get_S (j := 1) E1.out
           have hgl := (hown3.lt _ rfl).2))
      go_region_with (go_at_call 19; refine (hL _).mono ?_; rintro e w4 ⟨rfl, hb4⟩; have hB4 : Below w.heap.size w w4 := (by first | exact (hb2.trans hb3).drew.trans (hb4.mono (Nat.le_trans hb2.size hb3.size)) | exact (hb2.trans hb3).trans (hb4.mono (Nat.le_trans hb2.size hb3.size))); have g04 : w4.cell? ⟨g, 0, none⟩ = some (S a) := (hb4.cell (p := ⟨g, 0, none⟩) hgl).trans g0; have g14 : w4.cell? ⟨g, 1, none⟩ = some (S b) := (hb4.cell (p := ⟨g, 1, none⟩) hgl).trans g1)
      all_goals go_wp2
      all_goals
        ((try simp only [Exit.inBlock, Exit.then]); refine bodyPost_ret (results_tmp4 rfl _ _ _) rfl ?_)
        exact reqPost_err (by first | exact hB4 | exact hB4.drew)
    · rw [Bool.true_and]
      simp only [hq, if_true] at hL
      have hrl : (reqL a b).length = a.length + b.length + 12 := by simp [reqL, verL]; omega
      generalize reqL a b = t at hL hrl ⊢
      have hrl2 : t.length ≤ 1000 := by omega
      have E0 := Lib.hid e0
      have E1 := Lib.hid e1
      clear e0 e1 hq hrl
      cases ht : (t == l ++ [13, 10])
      · rw [if_neg (by simp)]
        go_enter Tryz.func25, Tryz.ntmps25
        go_wp2_with (first
          | (go_at_call 49; refine hf.mono ?_; rintro e w1 ⟨rfl, rfl⟩)
          | (go_at_call 46; refine (hsp _ hM).mono ?_; rintro e w2 ⟨rfl, hown, hb2⟩)
          | (at_builtin; refine wpList_app encS sl_strQ [[], []] rfl _ _ rfl rfl hown #[S [], S []] rfl 1 rfl rfl (by omega) (by simp only [maxLen]; omega) hb2.size ?_; intro g c'' w3 hown3 hg3 hb3 hbg
             have g0 := hown3.get_S (j := 0) E0.out
             have g1 := hown3.get_S (j := 1) E1.out
             have hgl := (hown3.lt _ rfl).2))
        go_region_with (go_at_call 19; refine (hL _).mono ?_; rintro e w4 ⟨rfl, hb4⟩; have hB4 : Below w.heap.size w w4 := (by first | exact (hb2.trans hb3).drew.trans (hb4.mono (Nat.le_trans hb2.size hb3.size)) | exact (hb2.trans hb3).trans (hb4.mono (Nat.le_trans hb2.size hb3.size))); have g04 : w4.cell? ⟨g, 0, none⟩ = some (S a) := (hb4.cell (p := ⟨g, 0, none⟩) hgl).trans g0; have g14 : w4.cell? ⟨g, 1, none⟩ = some (S b) := (hb4.cell (p := ⟨g, 1, none⟩) hgl).trans g1)
        all_goals go_wp2
        all_goals
          ((try simp only [Exit.inBlock, Exit.then]); refine bodyPost_ret (results_tmp4 rfl _ _ _) rfl ?_)
          exact reqPost_err (by first | exact hB4 | exact hB4.drew)
      · rw [if_pos (by simp)]
        have ht2 : t = l ++ [13, 10] := by simpa using ht
        subst ht2
        clear ht
        go_enter Tryz.func25, Tryz.ntmps25
        go_wp2_with (first
          | (go_at_call 49; refine hf.mono ?_; rintro e w1 ⟨rfl, rfl⟩)
          | (go_at_call 46; refine (hsp _ hM).mono ?_; rintro e w2 ⟨rfl, hown, hb2⟩)
          | (at_builtin; refine wpList_app encS sl_strQ [[], []] rfl _ _ rfl rfl hown #[S [], S []] rfl 1 rfl rfl (by omega) (by simp only [maxLen]; omega) hb2.size ?_; intro g c'' w3 hown3 hg3 hb3 hbg
             have g0 := hown3.get_S (j := 0) E0.out
             have g1 := hown3.get_S (j := 1) E1.out
             have hgl := (hown3.lt _ rfl).2))
        go_region_with (go_at_call 19; refine (hL _).mono ?_; rintro e w4 ⟨rfl, hb4⟩; have hB4 : Below w.heap.size w w4 := (by first | exact (hb2.trans hb3).drew.trans (hb4.mono (Nat.le_trans hb2.size hb3.size)) | exact (hb2.trans hb3).trans (hb4.mono (Nat.le_trans hb2.size hb3.size))); have g04 : w4.cell? ⟨g, 0, none⟩ = some (S a) := (hb4.cell (p := ⟨g, 0, none⟩) hgl).trans g0; have g14 : w4.cell? ⟨g, 1, none⟩ = some (S b) := (hb4.cell (p := ⟨g, 1, none⟩) hgl).trans g1)
        all_goals go_wp2
        all_goals go_region
        all_goals go_wp2
        all_goals
          ((try simp only [Exit.inBlock, Exit.then]); refine bodyPost_ret (results_tmp4 rfl _ _ _) rfl ?_)
          exact reqPost_ok (by simp) (by first | exact hB4 | exact hB4.drew | exact hB4.drew.drew)
end Go.Proofs.YtfgjbflddabdcaaGreatDoor
