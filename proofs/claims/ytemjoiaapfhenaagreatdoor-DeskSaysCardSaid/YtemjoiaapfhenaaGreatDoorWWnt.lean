/- Walk: span.want. -/
import Derived.Test.YtemjoiaapfhenaaGreatDoorGd00
import Derived.Test.YtemjoiaapfhenaaGreatDoorGd01
import Derived.Test.YtemjoiaapfhenaaGreatDoorGd19
import Derived.Test.YtemjoiaapfhenaaGreatDoorGd03
import Derived.Test.YtemjoiaapfhenaaGreatDoorGd11
import Derived.Test.YtemjoiaapfhenaaGreatDoorGd02
import Derived.Deep.RegionWith
import Derived.Deep.DeepCutAuto
namespace Go.Proofs.YtemjoiaapfhenaaGreatDoor
open Go.RowKit Go.Larder
set_option linter.unusedVariables false
set_option linter.unusedSimpArgs false
theorem side_nil : Side [] (-1) true := ⟨fun _ => ⟨by omega, by omega, sgn_neg.symm⟩, fun m h0 h1 h => ⟨rfl, by have := sgn_nil h.symm; omega⟩⟩
theorem side_num {s : List UInt8} {n : Int} {ok : Bool} (hne : ¬ s = []) (h : IsNum s n ok) : Side s n ok := by
  refine ⟨fun hk => ?_, fun m h0 h1 hs => ?_⟩
  · obtain ⟨a, b, c⟩ := h.yes hk
    exact ⟨by omega, b, by rw [c, sgn_dL a]⟩
  · have hm : 0 ≤ m := by
      rcases Int.lt_or_le m 0 with h2 | h2
      · exfalso; apply hne; rw [hs]; unfold sgnL; rw [if_pos h2]
      · exact h2
    rw [sgn_dL hm] at hs
    have hk := h.all m hm h1 hs
    obtain ⟨a, b, c⟩ := h.yes hk
    have := dec_inj (c.symm.trans hs)
    exact ⟨hk, by omega⟩
/-- What span.want answers. -/
def WantOut (W : World) (t : List UInt8) (e : Ending) (W' : World) : Prop := ∃ a b good, e = .returned (.tuple #[.agg #[.int .i64 a, .int .i64 b], .bool good]) ∧ good = (wOf (trim t)).isSome ∧ (∀ p, wOf (trim t) = some p → p = (a, b)) ∧ Below W.heap.size W W'
theorem wantOut_of {W W' : World} {t f l : List UInt8} {is : Bool} (hc : cut1 45 (trim t) = (f, l, is)) {a b : Int} {k1 k2 good : Bool} (h1 : Side f a k1) (h2 : Side l b k2) (hg : good = (is && k1 && k2 && isWant (a, b))) (hb : Below W.heap.size W W') :
    WantOut W t (.returned (.tuple #[.agg #[.int .i64 a, .int .i64 b], .bool good])) W' := by
  obtain ⟨q1, q2⟩ := want_law hc h1 h2
  exact ⟨a, b, good, rfl, by rw [hg, q1], q2, hb⟩
theorem gd_eq {f l : List UInt8} {a b : Int} {k1 k2 is : Bool} (h1 : Side f a k1) (h2 : Side l b k2) : ((((is && !(f ++ l).isEmpty) && k1) && k2) && isWant (a, b)) = (is && k1 && k2 && isWant (a, b)) := by
  by_cases h : f ++ l = []
  · obtain ⟨rfl, rfl⟩ := List.append_eq_nil_iff.1 h
    have e1 := (h1.all (-1) (by omega) (by omega) sgn_neg.symm).2
    have e2 := (h2.all (-1) (by omega) (by omega) sgn_neg.symm).2
    subst e1 e2
    have : isWant (-1, -1) = false := by decide
    rw [this]; simp
  · have : (f ++ l).isEmpty = false := by cases hq : f ++ l with
      | nil => exact absurd hq h
      | cons _ _ => rfl
    rw [this]; simp
set_option maxHeartbeats 8000000 in
set_option maxRecDepth 100000 in
theorem w_want (t : List UInt8) (ht : t.length ≤ 1048576) (w : World) (hE : EV w) (hP : PW w) :
    Calls Tryz.prog 172 #[S t] w (WantOut w t) := by
  have hb0 : Below w.heap.size w (w.alloc (.cells #[.int .i64 0, .int .i64 0] 109)) := (Below.refl _ _).alloc (Nat.le_refl _) _
  have bx0 := BoxAt.new w [.int .i64 0, .int .i64 0] 109
  have htr := w_Trim t (by omega)
  have htl := trim_lenF t
  have hcu := fun W => c1_Cut (trim t) 45 (by omega) W
  have hcl := cut1_len 45 (trim t)
  obtain ⟨T3, hT3⟩ : ∃ T3, cut1 45 (trim t) = T3 := ⟨_, rfl⟩
  rw [hT3] at hcu hcl
  obtain ⟨f, l, is⟩ := T3
  simp only at hcu hcl
  have hfin := fun (W' : World) (a b : Int) (k1 k2 good : Bool) h1 h2 hg hb => wantOut_of (W := w) (W' := W') hT3 (a := a) (b := b) (k1 := k1) (k2 := k2) (good := good) h1 h2 hg hb
  have Hfin := Lib.hid hfin
  clear hfin hT3
  go_enter Tryz.func172, Tryz.ntmps172
  go_wp2_with fail
  refine (htr _).mono ?_
  rintro e w1 ⟨rfl, hb1⟩
  go_wp2_with fail
  refine (hcu _).mono ?_
  rintro e w2 ⟨rfl, hb2⟩
  have hB1 := hb0.trans (hb1.mono hb0.size)
  have hB2 := hB1.trans (hb2.mono hB1.size)
  have bx2 := (bx0.keep hb1).keep hb2
  have hb3 : Below w2.heap.size w2 (w2.alloc (.cells #[.int .i64 (-1), .int .i64 (-1)] 109)) := (Below.refl _ _).alloc (Nat.le_refl _) _
  have bxw := BoxAt.new w2 [.int .i64 (-1), .int .i64 (-1)] 109
  have bx3 := bx2.keep hb3
  have hB3 := hB2.trans (hb3.mono hB2.size)
  have hg01 := bx2.lt
  have hgw : w.heap.size ≤ w2.heap.size := hB2.size
  clear bx0 bx2 hb0 hb1 hb2 hB1 hB2 htr hcu
  go_upto_region 3 with fail
  generalize hg1 : w2.heap.size = g1 at *
  generalize hW3 : w2.alloc (.cells #[.int .i64 (-1), .int .i64 (-1)] 109) = w3 at *
  have hAll : ∀ W', Below w.heap.size w W' → EV W' ∧ PW W' := fun W' h => ⟨hE.keep h, hP.keep h⟩
  clear hW3 hg1 hb3 hE hP
  have cat : ∀ w, (Op.stringOp .add ⟨f.toArray⟩ ⟨l.toArray⟩).run Tryz.prog w = .ok (.string ⟨(f ++ l).toArray⟩) w := fun w => run_cat f l (by omega) (by omega) w
  go_cut [8] (fun g' wx => g' = .bool (is && !(f ++ l).isEmpty) ∧ w3 = wx)
  case first =>
    cases is
    · go_wp2_with fail
      go_meet
      case rel => exact ⟨by simp, rfl⟩
    · generalize f ++ l = fl at *
      cases hfl : fl.isEmpty
      all_goals
        go_wp2_with fail
        go_meet
        case rel => exact ⟨by simp [hfl], rfl⟩
  case rest =>
    obtain ⟨hs8, rfl⟩ := hcut
    obtain ⟨gd, hgd⟩ : ∃ gd, (is && !(f ++ l).isEmpty) = gd := ⟨_, rfl⟩
    rw [hgd] at hs8
    subst hs8
    have Hgd := Lib.hid hgd
    clear hgd cat
    go_upto_if 25 with fail
    go_cut [6, 8] (fun i' g' wx => ∃ (i1 : Bool) (a : Int) (k1 : Bool), i' = .bool i1 ∧ g' = .bool (gd && k1) ∧ Side f a k1 ∧ BoxAt wx g1 109 [.int .i64 a, .int .i64 (-1)] ∧ BoxAt wx w.heap.size 109 [.int .i64 0, .int .i64 0] ∧ Below w.heap.size w wx)
    case first =>
      by_cases hf : f = []
      · subst hf
        go_wp2_with fail
        go_meet
        case rel => exact ⟨is, -1, true, rfl, by simp, side_nil, bxw, bx3, hB3⟩
      · have hfe : f.isEmpty = false := by cases f with
          | nil => exact absurd rfl hf
          | cons _ _ => rfl
        simp only [hfe, Bool.not_false]
        have hsn := w_snumber f (by omega) w3 (hAll _ hB3).1 (hAll _ hB3).2
        go_wp2_with fail
        refine hsn.mono ?_
        rintro e w4 ⟨n, ok, rfl, hi, hb4⟩
        have bxw4 := bxw.keep hb4
        have bx4 := bx3.keep hb4
        have c0 := bxw4.cell (j := 0) rfl
        have f0 := bxw4.free 0
        have hB4 := hB3.trans (hb4.mono hB3.size)
        have hsd := side_num hf hi
        clear hsn bxw bx3 hB3 hi hb4
        have hB5 := hB4.setCell (p := ⟨g1, 0, none⟩) hgw (.int .i64 n)
        have bxw5 : BoxAt (w4.setCell ⟨g1, 0, none⟩ (.int .i64 n)) g1 109 [.int .i64 n, .int .i64 (-1)] := by simpa using bxw4.set 0 (.int .i64 n)
        have bx5 := bx4.setOther ⟨g1, 0, none⟩ (by show w.heap.size ≠ g1; omega) (.int .i64 n)
        cases gd
        · go_wp2_with fail
          go_meet
          case rel => exact ⟨ok, n, ok, rfl, rfl, hsd, bxw5, bx5, hB5⟩
        · go_wp2_with fail
          go_meet
          case rel => exact ⟨ok, n, ok, rfl, by simp, hsd, bxw5, bx5, hB5⟩
    case rest =>
      obtain ⟨i1, a, k1, rfl, hs8, hsa, bxw4, bx4, hB4⟩ := hcut
      obtain ⟨g2, hg2⟩ : ∃ g2, (gd && k1) = g2 := ⟨_, rfl⟩
      rw [hg2] at hs8
      subst hs8
      have Hg2 := Lib.hid hg2
      clear hg2 bxw bx3 hB3
      go_upto_if 37 with fail
      go_cut [6, 8] (fun i' g' wx => ∃ (i1 : Bool) (b : Int) (k2 : Bool), i' = .bool i1 ∧ g' = .bool (g2 && k2) ∧ Side l b k2 ∧ BoxAt wx g1 109 [.int .i64 a, .int .i64 b] ∧ BoxAt wx w.heap.size 109 [.int .i64 0, .int .i64 0] ∧ Below w.heap.size w wx)
      case first =>
        by_cases hf : l = []
        · subst hf
          go_wp2_with fail
          go_meet
          case rel => exact ⟨i1, -1, true, rfl, by simp, side_nil, bxw4, bx4, hB4⟩
        · have hfe : l.isEmpty = false := by cases l with
            | nil => exact absurd rfl hf
            | cons _ _ => rfl
          simp only [hfe, Bool.not_false]
          have hsn := fun W hEW hPW => w_snumber l (by omega) W hEW hPW
          go_wp2_with fail
          refine (hsn _ (hAll _ hB4).1 (hAll _ hB4).2).mono ?_
          rintro e w5 ⟨n, ok, rfl, hi, hb5⟩
          have bxw5 := bxw4.keep hb5
          have bx5 := bx4.keep hb5
          have c1 := bxw5.cell (j := 1) rfl
          have f1 := bxw5.free 1
          have hB5 := hB4.trans (hb5.mono hB4.size)
          have hsd := side_num hf hi
          have hB6 := hB5.setCell (p := ⟨g1, 1, none⟩) hgw (.int .i64 n)
          have bxw6 : BoxAt (w5.setCell ⟨g1, 1, none⟩ (.int .i64 n)) g1 109 [.int .i64 a, .int .i64 n] := by simpa using bxw5.set 1 (.int .i64 n)
          have bx6 := bx5.setOther ⟨g1, 1, none⟩ (by show w.heap.size ≠ g1; omega) (.int .i64 n)
          clear hsn hi hb5 bxw4 bx4 hB4
          cases g2
          · go_wp2_with fail
            go_meet
            case rel => exact ⟨ok, n, ok, rfl, rfl, hsd, bxw6, bx6, hB6⟩
          · go_wp2_with fail
            go_meet
            case rel => exact ⟨ok, n, ok, rfl, by simp, hsd, bxw6, bx6, hB6⟩
      case rest =>
        obtain ⟨i2, b, k2, rfl, hs8, hsb, bxw5, bx5, hB5⟩ := hcut
        obtain ⟨g3, hg3⟩ : ∃ g3, (g2 && k2) = g3 := ⟨_, rfl⟩
        rw [hg3] at hs8
        subst hs8
        have Hall := Lib.hid (show (g3 && isWant (a, b)) = (is && k1 && k2 && isWant (a, b)) from by rw [← gd_eq hsa hsb, Hgd.out, Hg2.out, hg3])
        have hiw := fun W => w_isWant a b W
        clear hg3 Hgd Hg2 bxw4 bx4 hB4 hAll
        have d0 := bxw5.cell (j := 0) rfl
        have d1 := bxw5.cell (j := 1) rfl
        have hz0 := hB5.size
        cases g3
        · have HG := Lib.hid (show false = (is && k1 && k2 && isWant (a, b)) from by rw [← Hall.out]; rfl)
          clear hiw Hall
          have q0 := bx5.cell (j := 0) rfl
          have q1 := bx5.cell (j := 1) rfl
          have f0 := bx5.free 0
          have f1 := bx5.free 1
          go_wp2_with fail
          go_region
          all_goals go_wp2_with fail
          all_goals
            refine bodyPost_ret (results_box2 (by rfl) _ _ w.heap.size [.int .i64 a, .int .i64 b] _ (by rfl) (BoxAt.drew ((bx5.set 0 (.int .i64 a)).set 1 (.int .i64 b))).all Tryz.underlying109 (by rfl) (by kernel_rfl)) rfl ?_
            exact Hfin.out _ a b k1 k2 false hsa hsb HG.out (Below.drew ((hB5.setCell (p := ⟨w.heap.size, 0, none⟩) (Nat.le_refl _) _).setCell (p := ⟨w.heap.size, 1, none⟩) (Nat.le_refl _) _))
        · obtain ⟨iw, hiw2⟩ : ∃ iw, isWant (a, b) = iw := ⟨_, rfl⟩
          have HG := Lib.hid (show iw = (is && k1 && k2 && isWant (a, b)) from by rw [← Hall.out, hiw2]; simp)
          rw [hiw2] at hiw
          clear Hall hiw2
          go_wp2_with fail
          go_region_with (go_at_call 209; refine (hiw _).mono ?_; rintro e w6 ⟨rfl, hb6⟩; have bx6 := bx5.drew.keep hb6; have q0 := bx6.cell (j := 0) rfl; have q1 := bx6.cell (j := 1) rfl; have f0 := bx6.free 0; have f1 := bx6.free 1; have e0 := (bxw5.drew.keep hb6).cell (j := 0) rfl; have e1 := (bxw5.drew.keep hb6).cell (j := 1) rfl; have hB6 := hB5.drew.trans (hb6.mono hz0))
          all_goals go_wp2_with fail
          all_goals
            refine bodyPost_ret (results_box2 (by rfl) _ _ w.heap.size [.int .i64 a, .int .i64 b] _ (by rfl) ((bx6.set 0 (.int .i64 a)).set 1 (.int .i64 b)).all Tryz.underlying109 (by rfl) (by kernel_rfl)) rfl ?_
            exact Hfin.out _ a b k1 k2 iw hsa hsb HG.out ((hB6.setCell (p := ⟨w.heap.size, 0, none⟩) (Nat.le_refl _) _).setCell (p := ⟨w.heap.size, 1, none⟩) (Nat.le_refl _) _)
end Go.Proofs.YtemjoiaapfhenaaGreatDoor
