/- Walk: fields, parsed: the program's. -/
import Derived.Test.YtfgjbflddabdcaaGreatDoorWLib
import Derived.Test.YtfgjbflddabdcaaGreatDoorWFc1
import Derived.Test.YtfgjbflddabdcaaGreatDoorWCutOne
import Derived.Test.YtfgjbflddabdcaaGreatDoorSpecs
import Derived.Test.YtfgjbflddabdcaaGreatDoorApp
import Derived.Test.YtfgjbflddabdcaaGreatDoorBoxAt
namespace Go.Proofs.YtfgjbflddabdcaaGreatDoor
open Go.RowKit Go.Larder
set_option linter.unusedVariables false
set_option linter.unusedSimpArgs false

abbrev Flp := List UInt8 × List UInt8
theorem sl_F : SlT Tryz.prog 22 55 2 32 := SlT.mk' (z := .agg #[.string ByteArray.empty, .string ByteArray.empty]) Tryz.underlying22 (by kernel_rfl) rfl
def FpPost (w : World) (r : Except Int (List Flp × Nat)) (e : Ending) (w' : World) : Prop := match r with
  | .error n => e = .returned (.tuple #[.slice none 0 0, .int .i64 0, .int .i64 n]) ∧ Below w.heap.size w w'
  | .ok (out, k) => ∃ A c, e = .returned (.tuple #[.slice A out.length c, .int .i64 k, .int .i64 0]) ∧ OwnL encF w' w.heap.size 55 A c out ∧ Below w.heap.size w w'
theorem fpPost_err {w w' : World} {R : Except Int (List Flp × Nat)} {n : Int} (h : Hid (R = .error n)) (hb : Below w.heap.size w w') : FpPost w R (.returned (.tuple #[.slice none 0 0, .int .i64 0, .int .i64 n])) w' := by rw [h.out]; exact ⟨rfl, hb⟩
theorem fpPost_ok {w w' : World} {R : Except Int (List Flp × Nat)} {out : List Flp} {k : Nat} {k' : Int} {A : Option Addr} {c : Nat} (h : Hid (R = .ok (out, k))) (hk : k' = k) (ho : OwnL encF w' w.heap.size 55 A c out) (hb : Below w.heap.size w w') : FpPost w R (.returned (.tuple #[.slice A out.length c, .int .i64 k', .int .i64 0])) w' := by
  rw [h.out, hk]; exact ⟨A, c, rfl, ho, hb⟩
theorem chkF_eq (n v : List UInt8) : checkF n v = chkF n v := rfl

set_option maxHeartbeats 4000000 in
set_option maxRecDepth 100000 in
theorem w_FParse (s : List UInt8) (hs : s.length ≤ 1048576) (w : World) (hM : ML w) :
    Calls Tryz.prog 47 #[S s] w (FpPost w (fpE s)) := by
  obtain ⟨R, hR⟩ : ∃ R, fpE s = R := ⟨_, rfl⟩
  rw [hR]
  have HR := Lib.hid hR
  clear hR
  go_enter Tryz.func47, Tryz.ntmps47
  go_wp2_with fail
  go_loopw [5, 6] (fun o a wr => ∃ (k n : Nat) (out : List Flp) (A : Option Addr) (c : Nat), a = .int .i64 k ∧ o = .slice A out.length c ∧ k ≤ s.length ∧ out.length ≤ 30 ∧ OwnL encF wr w.heap.size 55 A c out ∧ Below w.heap.size w wr ∧ s.length - k < n ∧ Hid (fpGo n (s.drop k) k out = R)) (fun _ a _ => s.length - (intOf a).toNat)
  case atStart => exact ⟨0, s.length + 1, [], none, 0, rfl, rfl, by omega, by simp, OwnL.nil _ _ _, Below.refl _ _, by omega, Lib.hid HR.out⟩
  case round =>
    obtain ⟨k, n, out, A, c, rfl, rfl, hk, ho30, hown, hbel, hn, heq⟩ := hrel
    obtain ⟨m, rfl⟩ : ∃ m, n = m + 1 := ⟨n - 1, by omega⟩
    have hbs := hbel.size
    have hM2 := hM.keep hbel
    obtain ⟨rest, hrest⟩ : ∃ rest, s.drop k = rest := ⟨_, rfl⟩
    rw [hrest] at heq
    have hrl : rest.length + k ≤ s.length ∧ s.length ≤ rest.length + k := by rw [← hrest, List.length_drop]; omega
    obtain ⟨hrl1, hrl2⟩ := hrl
    have hext : List.take (s.length - k) (List.drop k s) = rest := by rw [hrest]; exact List.take_of_length_le (by omega)
    have Hrest := Lib.hid hrest
    clear hrest
    have hc := fun w hM => w_Cut rest [13, 10] (by omega) w hM
    rcases index_cases rest [13, 10] with h | ⟨i, h, hi⟩
    · have hle := line_none h 1100
      rw [cut_none h] at hc
      by_cases hb : 1101 < rest.length
      · have Hq := Lib.hid (show R = .error 2 from by rw [← heq.out]; exact fp_err (by rw [hle, if_pos (by omega)]))
        clear hle heq h
        go_wp2_with (go_at_call 75; refine (hc _ hM2).mono ?_; rintro e w1 ⟨rfl, hb1⟩)
        go_ret3
        exact fpPost_err Hq (hbel.trans (hb1.mono hbs))
      · have Hq := Lib.hid (show R = .error 8 from by rw [← heq.out]; exact fp_err (by rw [hle, if_neg (by omega)]))
        clear hle heq h
        go_wp2_with (go_at_call 75; refine (hc _ hM2).mono ?_; rintro e w1 ⟨rfl, hb1⟩)
        go_ret3
        exact fpPost_err Hq (hbel.trans (hb1.mono hbs))
    · have hle := line_at h 1100
      rw [cut_at h] at hc
      simp only [List.length_cons, List.length_nil] at hi
      obtain ⟨l, hl⟩ : ∃ l, rest.take i = l := ⟨_, rfl⟩
      have hll : l.length = i := by rw [← hl, List.length_take]; omega
      rw [hl] at hc hle
      obtain rfl := hll
      have Hl := Lib.hid hl
      clear h hl
      generalize rest.drop (l.length + ([13, 10] : List UInt8).length) = rr at hc
      by_cases hbig : 1100 < l.length
      · have Hq := Lib.hid (show R = .error 2 from by rw [← heq.out]; exact fp_err (by rw [hle, if_pos hbig]))
        have hem : l.isEmpty = false := by cases l with
          | nil => simp at hbig
          | cons a l => rfl
        clear hle heq
        go_wp2_with (go_at_call 75; refine (hc _ hM2).mono ?_; rintro e w1 ⟨rfl, hb1⟩)
        go_ret3
        exact fpPost_err Hq (hbel.trans (hb1.mono hbs))
      · rw [if_neg hbig] at hle
        cases l with
        | nil =>
          have Hq := Lib.hid (show R = .ok (out, k + 2) from by rw [← heq.out]; exact fp_end hle)
          clear hle heq
          go_wp2_with (go_at_call 75; refine (hc _ hM2).mono ?_; rintro e w1 ⟨rfl, hb1⟩)
          go_ret3
          exact fpPost_ok Hq (by simp) (hown.below hb1 (Nat.le_refl _)) (hbel.trans (hb1.mono hbs))
        | cons a0 l0 =>
          have hem : (a0 :: l0).isEmpty = false := rfl
          have hne : ¬ a0 :: l0 = [] := by simp
          generalize a0 :: l0 = l at *
          by_cases ho : out.length = 30
          · have Hq := Lib.hid (show R = .error 2 from by rw [← heq.out]; exact fp_full hle hem ho)
            have hoz : ((out.length : Int) == 30) = true := by simp; omega
            clear hle heq
            have Ho := Lib.hid ho
            clear ho
            go_wp2_with (go_at_call 75; refine (hc _ hM2).mono ?_; rintro e w1 ⟨rfl, hb1⟩)
            go_ret3
            exact fpPost_err Hq (hbel.trans (hb1.mono hbs))
          · have hoz : ((out.length : Int) == 30) = false := by simp; omega
            have hc2 := fun w => c1_Cut l 58 (by omega) w
            have hcl := cut1_len 58 l
            cases htk : ((cut1 58 l).2.2 && isTok (cut1 58 l).1)
            · have Hq := Lib.hid (show R = .error 3 from by rw [← heq.out]; exact fp_syn hle hem ho htk)
              clear hle heq
              generalize cut1 58 l = ct at hc2 hcl htk
              obtain ⟨nm, v, en⟩ := ct
              simp only at hc2 hcl htk
              have hit := fun w => fc_IsToken nm (by omega) w
              cases en
              · clear htk
                go_wp2_with fail
                refine (hc _ hM2).mono ?_
                rintro e w1 ⟨rfl, hb1⟩
                go_wp2_with (first
                  | (go_at_call 75; refine (hc2 _).mono ?_; rintro e w2 ⟨rfl, hb2⟩))
                go_ret3
                exact fpPost_err Hq ((hbel.trans (hb1.mono hbs)).trans (hb2.mono (Nat.le_trans hbs hb1.size)))
              · rw [Bool.true_and] at htk
                simp only [htk] at hit
                clear htk
                go_wp2_with fail
                refine (hc _ hM2).mono ?_
                rintro e w1 ⟨rfl, hb1⟩
                go_wp2_with (first
                  | (go_at_call 75; refine (hc2 _).mono ?_; rintro e w2 ⟨rfl, hb2⟩)
                  | (go_at_call 56; refine (hit _).mono ?_; rintro e w' ⟨rfl, rfl⟩))
                go_ret3
                exact fpPost_err Hq ((hbel.trans (hb1.mono hbs)).trans (hb2.mono (Nat.le_trans hbs hb1.size)))
            · have hst := fun hk => fp_step (m := m) (k := k) (out := out) hle hem ho htk hk
              have hck := fun hk => fp_chk (m := m) (k := k) (out := out) hle hem ho htk hk
              clear hle
              generalize cut1 58 l = ct at hc2 hcl htk hst hck
              obtain ⟨nm, v, en⟩ := ct
              simp only at hc2 hcl htk hst hck
              rw [Bool.and_eq_true] at htk
              obtain ⟨rfl, htk⟩ := htk
              have hit := fun w => fc_IsToken nm (by omega) w
              simp only [htk] at hit
              have htr := fun w => w_Trim v (by omega) w
              have htl := trim_lenF v
              generalize trim v = tv at htr hst hck htl
              have hch := fun w => w_check nm tv (by omega) (by omega) w
              simp only [chkF_eq] at hch
              cases hz : (chkF nm tv == 0)
              · have hz1 : ¬ chkF nm tv = 0 := by simpa using hz
                have Hq := Lib.hid (show R = .error (chkF nm tv) from by rw [← heq.out]; exact hck hz1)
                generalize chkF nm tv = en at hch hz Hq
                clear hst hck heq htk hz1
                go_wp2_with fail
                refine (hc _ hM2).mono ?_
                rintro e w1 ⟨rfl, hb1⟩
                go_wp2_with (first
                  | (go_at_call 75; refine (hc2 _).mono ?_; rintro e w2 ⟨rfl, hb2⟩)
                  | (go_at_call 56; refine (hit _).mono ?_; rintro e w' ⟨rfl, rfl⟩)
                  | (go_at_call 77; refine (htr _).mono ?_; rintro e w3 ⟨rfl, hb3⟩)
                  | (go_at_call 78; refine (hch _).mono ?_; rintro e w4 ⟨rfl, hb4⟩))
                go_ret3
                have hB2 := (hbel.trans (hb1.mono hbs)).trans (hb2.mono (Nat.le_trans hbs hb1.size))
                have hB3 := (hB2.trans (hb3.mono hB2.size)).alloc (Nat.le_trans hB2.size hb3.size) (.cells #[S nm, S tv] 55)
                exact fpPost_err Hq (hB3.trans (hb4.mono hB3.size))
              · have hz1 : chkF nm tv = 0 := by simpa using hz
                have Heq := Lib.hid ((hst hz1).symm.trans heq.out)
                simp only [hz1] at hch
                clear hst hck heq htk hz1 hz
                go_wp2_with fail
                refine (hc _ hM2).mono ?_
                rintro e w1 ⟨rfl, hb1⟩
                go_wp2_with (first
                  | (go_at_call 75; refine (hc2 _).mono ?_; rintro e w2 ⟨rfl, hb2⟩)
                  | (go_at_call 56; refine (hit _).mono ?_; rintro e w' ⟨rfl, rfl⟩)
                  | (go_at_call 77; refine (htr _).mono ?_; rintro e w3 ⟨rfl, hb3⟩
                     have hB2 := (hbel.trans (hb1.mono hbs)).trans (hb2.mono (Nat.le_trans hbs hb1.size))
                     have hB3 := (hB2.trans (hb3.mono hB2.size)).alloc (Nat.le_trans hB2.size hb3.size) (.cells #[S nm, S tv] 55)
                     have hown3 := (((hown.below hb1 (Nat.le_refl _)).below hb2 (Nat.le_refl _)).below hb3 (Nat.le_refl _)).alloc (.cells #[S nm, S tv] 55)
                     have bx3 := BoxAt.new w3 [S nm, S tv] 55)
                  | (go_at_call 78; refine (hch _).mono ?_; rintro e w4 ⟨rfl, hb4⟩
                     have hB4 := hB3.trans (hb4.mono hB3.size)
                     have hown4 := hown3.below hb4 (Nat.le_refl _)
                     have bx4 := bx3.keep hb4
                     have q0 := bx4.cell (j := 0) rfl
                     have q1 := bx4.cell (j := 1) rfl)
                  | (at_builtin; refine wpList_app encF sl_F [(nm, tv)] rfl _ _ rfl rfl hown4 #[S nm, S tv] rfl 0 rfl rfl (by omega) (by simp only [maxLen]; omega) hB4.size ?_; intro g c'' w5 hown5 hg5 hb5 hbg))
                go_roundw
                case rel => exact ⟨k + l.length + 2, m, out ++ [(nm, tv)], _, _, by go_num, by simp, by omega, by simp; omega, hown5, hB4.trans hb5, by omega, Lib.hid (by rw [← Heq.out, ← Hrest.out, List.drop_drop, Nat.add_assoc])⟩
                case measure => simp [intOf]; omega
end Go.Proofs.YtfgjbflddabdcaaGreatDoor
