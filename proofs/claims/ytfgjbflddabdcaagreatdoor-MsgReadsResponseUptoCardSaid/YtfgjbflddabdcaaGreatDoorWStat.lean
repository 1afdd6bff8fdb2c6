/- Walks: status lines: the program's, the reference's. -/
import Derived.Test.YtfgjbflddabdcaaGreatDoorSpecs
import Derived.Test.YtfgjbflddabdcaaGreatDoorWSplN
import Derived.Test.YtfgjbflddabdcaaGreatDoorWReq
import Derived.Test.YtfgjbflddabdcaaGreatDoorWAtoi
import Derived.Test.YtfgjbflddabdcaaGreatDoorWItoa
import Derived.Test.YtfgjbflddabdcaaGreatDoorWNum
import Derived.Test.YtfgjbflddabdcaaGreatDoorFlat
import Derived.Deep.RegionWith
namespace Go.Proofs.YtfgjbflddabdcaaGreatDoor
open Go.RowKit Go.Larder
set_option linter.unusedVariables false
set_option linter.unusedSimpArgs false
theorem flat9_len (l : List UInt8) : (l.flatMap fun x => if x = 9 then [] else [x]).length ≤ l.length := by
  induction l with
  | nil => simp
  | cons a l ih =>
    rw [List.flatMap_cons, List.length_append]
    split <;> simp at * <;> omega
theorem w_isReason (r : List UInt8) (w : World) (hM : ML w) :
    Calls Tryz.prog 41 #[S r] w fun e w' => e = .returned (.bool (rsnOK r)) ∧ Below w.heap.size w w' := by
  by_cases hl : r.length ≤ 100
  · have h1 := w_Rep9 r (by omega) w hM
    have h3 := flat9_len r
    have h2 := fun W => w_within (r.flatMap fun x => if x = 9 then [] else [x]) (by omega) 32 126 W
    have h4 := all_filter9 r
    have hR : rsnOK r = r.all isPl := by unfold rsnOK; rw [decide_eq_true hl, Bool.true_and]
    rw [hR, ← h4]
    clear hR h4
    have h5 : ((r.flatMap fun x => if x = 9 then [] else [x]).all fun c => decide (((32 : UInt8).toNat : Int) ≤ c.toNat) && decide ((c.toNat : Int) ≤ (126 : UInt8).toNat)) = ((r.flatMap fun x => if x = 9 then [] else [x]).all fun c => decide ((32 : Int) ≤ c.toNat) && decide ((c.toNat : Int) ≤ 126)) := rfl
    rw [h5] at h2
    generalize ((r.flatMap fun x => if x = 9 then [] else [x]).all fun c => decide ((32 : Int) ≤ c.toNat) && decide ((c.toNat : Int) ≤ 126)) = B at *
    generalize (r.flatMap fun x => if x = 9 then [] else [x]) = t at *
    clear h5
    go_enter Tryz.func41, Tryz.ntmps41
    go_wp2_with fail
    refine h1.mono ?_
    rintro e w1 ⟨rfl, hb1⟩
    go_wp2_with fail
    refine (h2 _).mono ?_
    rintro e w' ⟨rfl, rfl⟩
    go_wp2_with fail
    go_ret
    exact ⟨rfl, hb1⟩
  · have hR : rsnOK r = false := by unfold rsnOK; rw [decide_eq_false hl, Bool.false_and]
    rw [hR]
    go_enter Tryz.func41, Tryz.ntmps41
    go_wp2_with fail
    go_ret
    exact ⟨rfl, Below.refl _ _⟩
theorem statE_arg {c : Int} {r : List UInt8} (h : c < 100 ∨ 599 < c) : statE c r = .error 1 := by unfold statE; rw [if_pos h]
theorem statE_bad {c : Int} {r : List UInt8} (h : ¬ (c < 100 ∨ 599 < c)) (hr : rsnOK r = false) : statE c r = .error 3 := by unfold statE; rw [if_neg h, if_neg (by simp [hr])]
theorem statE_ok {c : Int} {r : List UInt8} (h : ¬ (c < 100 ∨ 599 < c)) (hr : rsnOK r = true) : statE c r = .ok (statL c r ++ [13, 10]) := by unfold statE; rw [if_neg h, if_pos hr]
theorem rsn_len {r : List UInt8} (h : rsnOK r = true) : r.length ≤ 100 ∧ r.all isPl = true := by unfold rsnOK at h; simp only [Bool.and_eq_true, decide_eq_true_eq] at h; exact h
set_option maxHeartbeats 1000000 in
theorem w_PrintStatus (c : Int) (r : List UInt8) (w : World) (hM : ML w) (hP : PW w) :
    Calls Tryz.prog 21 #[.int .i64 c, S r] w (StPost w (statE c r)) := by
  by_cases h : c < 100 ∨ 599 < c
  · rw [statE_arg h]
    rcases h with h | h
    · go_enter Tryz.func21, Tryz.ntmps21
      go_wp2_with fail
      go_ret2
      exact ⟨rfl, Below.refl _ _⟩
    · have h' : ¬ c < 100 := by omega
      go_enter Tryz.func21, Tryz.ntmps21
      go_wp2_with fail
      go_ret2
      exact ⟨rfl, Below.refl _ _⟩
  · have ha : ¬ c < 100 := by omega
    have hb : ¬ 599 < c := by omega
    have h1 := w_isReason r w hM
    cases hr : rsnOK r
    · rw [hr] at h1
      rw [statE_bad h hr]
      clear hr h
      go_enter Tryz.func21, Tryz.ntmps21
      go_wp2_with fail
      refine h1.mono ?_
      rintro e w1 ⟨rfl, hb1⟩
      go_wp2_with fail
      go_ret2
      exact ⟨rfl, hb1⟩
    · rw [hr] at h1
      rw [statE_ok h hr]
      obtain ⟨hl, _⟩ := rsn_len hr
      have h2 := fun W hPW => w_Itoa c (by omega) W hPW
      rw [itoa_nn (by omega)] at h2
      have hd := dec3 (n := c.toNat) (by omega) (by omega)
      unfold statL
      generalize Lib.decDigits c.toNat = d at *
      have hd2 : d.length ≤ 1000 := by omega
      clear hr h hd
      go_enter Tryz.func21, Tryz.ntmps21
      go_wp2_with fail
      refine h1.mono ?_
      rintro e w1 ⟨rfl, hb1⟩
      have hP1 := hP.keep hb1
      go_wp2_with fail
      refine (h2 _ hP1).mono ?_
      rintro e w2 ⟨rfl, hb2⟩
      go_wp2_with fail
      go_ret2
      exact ⟨by simp [verL], hb1.trans (hb2.mono hb1.size)⟩
set_option maxHeartbeats 1000000 in
theorem w_LineStatus (c : Int) (r : List UInt8) (hr63 : r.length ≤ 140737488351232) (w : World) :
    Calls Tryz.prog 22 #[.int .i64 c, S r] w (StPost w (statE c r)) := by
  have h0 := fun W => fc_outside c 100 599 W
  by_cases h : c < 100 ∨ 599 < c
  · rw [statE_arg h]
    have ho : (decide (c < 100) || decide (599 < c)) = true := by simp; omega
    rw [ho] at h0
    clear ho h
    go_enter Tryz.func22, Tryz.ntmps22
    go_wp2_with fail
    refine (h0 _).mono ?_
    rintro e w' ⟨rfl, rfl⟩
    go_wp2_with fail
    go_ret2
    exact ⟨rfl, Below.refl _ _⟩
  · have ho : (decide (c < 100) || decide (599 < c)) = false := by simp; omega
    have hc0 : 100 ≤ c := by omega
    have hc1 : c ≤ 599 := by omega
    rw [ho] at h0
    have h1 := fun W => fc_plainR r hr63 W
    cases hr : rsnOK r
    · rw [statE_bad h hr]
      by_cases hl : r.length ≤ 100
      · have hp : r.all isPl = false := by
          unfold rsnOK at hr; rw [decide_eq_true hl, Bool.true_and] at hr; exact hr
        rw [hp] at h1
        clear hr h ho hp
        go_enter Tryz.func22, Tryz.ntmps22
        go_wp2_with fail
        refine (h0 _).mono ?_
        rintro e w' ⟨rfl, rfl⟩
        go_wp2_with fail
        refine (h1 _).mono ?_
        rintro e w' ⟨rfl, rfl⟩
        go_wp2_with fail
        go_ret2
        exact ⟨rfl, Below.refl _ _⟩
      · clear hr h ho
        go_enter Tryz.func22, Tryz.ntmps22
        go_wp2_with fail
        refine (h0 _).mono ?_
        rintro e w' ⟨rfl, rfl⟩
        go_wp2_with fail
        go_ret2
        exact ⟨rfl, Below.refl _ _⟩
    · rw [statE_ok h hr]
      obtain ⟨hl, hp⟩ := rsn_len hr
      rw [hp] at h1
      have h2 := fun W => w_Dig c (by omega) (by omega) W
      have hd := dec3 (n := c.toNat) (by omega) (by omega)
      unfold statL
      generalize Lib.decDigits c.toNat = d at *
      have hd2 : d.length ≤ 1000 := by omega
      clear hr h hd ho hp
      go_enter Tryz.func22, Tryz.ntmps22
      go_wp2_with fail
      refine (h0 _).mono ?_
      rintro e w' ⟨rfl, rfl⟩
      go_wp2_with fail
      refine (h1 _).mono ?_
      rintro e w' ⟨rfl, rfl⟩
      go_wp2_with fail
      refine (h2 _).mono ?_
      rintro e w2 ⟨rfl, hb2⟩
      go_wp2_with fail
      go_ret2
      exact ⟨by simp [verL], hb2⟩
end Go.Proofs.YtfgjbflddabdcaaGreatDoor
