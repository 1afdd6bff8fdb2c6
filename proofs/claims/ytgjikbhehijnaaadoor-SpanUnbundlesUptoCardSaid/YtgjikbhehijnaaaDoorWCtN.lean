/- Walk: span.ParseContent. -/
import Derived.Test.YtgjikbhehijnaaaDoorWCt
import Derived.Test.YtgjikbhehijnaaaDoorWSnum
import Derived.Test.YtgjikbhehijnaaaDoorWLib
import Derived.Test.YtgjikbhehijnaaaDoorWCutOne
namespace Go.Proofs.YtgjikbhehijnaaaDoor
open Go.RowKit Go.Larder
set_option linter.unusedVariables false
set_option linter.unusedSimpArgs false
/-- What reading a part that is told answers. -/
def CtOut (w : World) (s : List UInt8) (e : Ending) (w' : World) : Prop :=
  ((∃ a b z, isCt a b z s ∧ e = .returned (.tuple #[.agg #[.int .i64 a, .int .i64 b], .int .i64 z, .int .i64 0])) ∨ (e = .returned (.tuple #[.agg #[.int .i64 0, .int .i64 0], .int .i64 0, .int .i64 3]) ∧ ∀ a b z, ¬ isCt a b z s)) ∧ Below w.heap.size w w'
theorem CtOut.no {w w' : World} {s : List UInt8} (h : ∀ a b z, ¬ isCt a b z s) (hb : Below w.heap.size w w') : CtOut w s (.returned (.tuple #[.agg #[.int .i64 0, .int .i64 0], .int .i64 0, .int .i64 3])) w' := ⟨.inr ⟨rfl, h⟩, hb⟩
theorem CtOut.yes {w w' : World} {s : List UInt8} {a b z : Int} (h : isCt a b z s) (hb : Below w.heap.size w w') : CtOut w s (.returned (.tuple #[.agg #[.int .i64 a, .int .i64 b], .int .i64 z, .int .i64 0])) w' := ⟨.inl ⟨a, b, z, h, rfl⟩, hb⟩
theorem pre_app (p r : List UInt8) : Lib.hasPrefix (p ++ r) p = true ∧ Lib.trimPrefix (p ++ r) p = r := by
  have h : Lib.hasPrefix (p ++ r) p = true := by unfold Lib.hasPrefix; rw [List.isPrefixOf_iff_prefix]; exact List.prefix_append _ _
  exact ⟨h, by unfold Lib.trimPrefix; rw [if_pos h, List.drop_left]⟩
theorem pre_yes {s p : List UInt8} (h : Lib.hasPrefix s p = true) : s = p ++ Lib.trimPrefix s p := by
  unfold Lib.trimPrefix
  rw [if_pos h]
  unfold Lib.hasPrefix at h
  rw [List.isPrefixOf_iff_prefix] at h
  obtain ⟨t, rfl⟩ := h
  rw [List.drop_left]
/-- all that the program asks holds of a part that is told .. -/
theorem ct_all {a b z n1 n2 n3 : Int} {s : List UInt8} {o1 o2 o3 : Bool} (h : isCt a b z s) (h1 : IsNum (cut1 45 (cut1 47 (Lib.trimPrefix s ctPre)).1).1 n1 o1) (h2 : IsNum (cut1 45 (cut1 47 (Lib.trimPrefix s ctPre)).1).2.1 n2 o2) (h3 : IsNum (cut1 47 (Lib.trimPrefix s ctPre)).2.1 n3 o3) :
    (Lib.hasPrefix s ctPre && (cut1 47 (Lib.trimPrefix s ctPre)).2.2 && (cut1 45 (cut1 47 (Lib.trimPrefix s ctPre)).1).2.2 && o1 && o2 && o3) = true ∧ ctOK n1 (n2 + 1) n3 = true := by
  obtain ⟨r, rfl, c1, c2⟩ := ct_cuts h
  have hk := ctOK_iff.1 h.1
  rw [(pre_app ctPre r).2, c1, c2] at h1 h2
  rw [(pre_app ctPre r).2, c1] at h3
  simp only at h1 h2 h3
  have g1 := h1.all a (by omega) (by omega) rfl
  have g2 := h2.all (b - 1) (by omega) (by omega) rfl
  have g3 := h3.all z (by omega) (by omega) rfl
  obtain ⟨p1, q1, e1⟩ := h1.yes g1
  obtain ⟨p2, q2, e2⟩ := h2.yes g2
  obtain ⟨p3, q3, e3⟩ := h3.yes g3
  have i1 := dec_inj e1
  have i2 := dec_inj e2
  have i3 := dec_inj e3
  rw [(pre_app ctPre r).1, (pre_app ctPre r).2, c1, c2, g1, g2, g3]
  exact ⟨rfl, ctOK_iff.2 (by omega)⟩
/-- .. and of nothing else. -/
theorem ct_back {n1 n2 n3 : Int} {s : List UInt8} {o1 o2 o3 : Bool} (h1 : IsNum (cut1 45 (cut1 47 (Lib.trimPrefix s ctPre)).1).1 n1 o1) (h2 : IsNum (cut1 45 (cut1 47 (Lib.trimPrefix s ctPre)).1).2.1 n2 o2) (h3 : IsNum (cut1 47 (Lib.trimPrefix s ctPre)).2.1 n3 o3)
    (hF : (Lib.hasPrefix s ctPre && (cut1 47 (Lib.trimPrefix s ctPre)).2.2 && (cut1 45 (cut1 47 (Lib.trimPrefix s ctPre)).1).2.2 && o1 && o2 && o3) = true) (hk : ctOK n1 (n2 + 1) n3 = true) : isCt n1 (n2 + 1) n3 s := by
  simp only [Bool.and_eq_true] at hF
  obtain ⟨⟨⟨⟨⟨f1, f2⟩, f3⟩, f4⟩, f5⟩, f6⟩ := hF
  refine ⟨hk, ?_⟩
  have e0 := pre_yes f1
  have e1 := (cut1_true f2).1
  have e2 := (cut1_true f3).1
  obtain ⟨_, _, g1⟩ := h1.yes f4
  obtain ⟨_, _, g2⟩ := h2.yes f5
  obtain ⟨_, _, g3⟩ := h3.yes f6
  rw [g1, g2] at e2
  rw [e2, g3] at e1
  rw [e0, e1]
  unfold ctL
  rw [show n2 + 1 - 1 = n2 from by omega]
  simp [List.append_assoc]
set_option maxHeartbeats 4000000 in
set_option maxRecDepth 100000 in
theorem w_PcParse (s : List UInt8) (hl : s.length ≤ 140737488351232) (w : World) (hE : EV w) (hP : PW w) :
    Calls Tryd.prog 53 #[S s] w (CtOut w s) := by
  have hcp : ∀ w, Calls Tryd.prog 51 #[S s, .string ⟨#[98, 121, 116, 101, 115, 32]⟩] w fun e w' => e = .returned (.tuple #[S (Lib.trimPrefix s ctPre), .bool (Lib.hasPrefix s ctPre)]) ∧ Below w.heap.size w w' := fun w => w_CutPre s ctPre w
  have htl : (Lib.trimPrefix s ctPre).length ≤ s.length := by unfold Lib.trimPrefix; split <;> simp
  have c1l := cut1_len 47 (Lib.trimPrefix s ctPre)
  have c2l := cut1_len 45 (cut1 47 (Lib.trimPrefix s ctPre)).1
  have hc1 := fun w => c1_Cut (Lib.trimPrefix s ctPre) 47 (by omega) w
  have hc2 := fun w => c1_Cut (cut1 47 (Lib.trimPrefix s ctPre)).1 45 (by omega) w
  have hn1 := fun w hE hP => w_snumber (cut1 45 (cut1 47 (Lib.trimPrefix s ctPre)).1).1 (by omega) w hE hP
  have hn2 := fun w hE hP => w_snumber (cut1 45 (cut1 47 (Lib.trimPrefix s ctPre)).1).2.1 (by omega) w hE hP
  have hn3 := fun w hE hP => w_snumber (cut1 47 (Lib.trimPrefix s ctPre)).2.1 (by omega) w hE hP
  have Hall := Lib.hid (fun a b z n1 n2 n3 o1 o2 o3 h h1 h2 h3 => ct_all (a := a) (b := b) (z := z) (n1 := n1) (n2 := n2) (n3 := n3) (s := s) (o1 := o1) (o2 := o2) (o3 := o3) h h1 h2 h3)
  have Hback := Lib.hid (fun n1 n2 n3 o1 o2 o3 h1 h2 h3 hF hk => ct_back (n1 := n1) (n2 := n2) (n3 := n3) (s := s) (o1 := o1) (o2 := o2) (o3 := o3) h1 h2 h3 hF hk)
  generalize Lib.trimPrefix s ctPre = rest at *
  generalize Lib.hasPrefix s ctPre = is at *
  generalize (cut1 47 rest).2.1 = zs at *
  generalize (cut1 47 rest).2.2 = slash at *
  generalize (cut1 47 rest).1 = r1 at *
  generalize (cut1 45 r1).1 = sa at *
  generalize (cut1 45 r1).2.1 = sb at *
  generalize (cut1 45 r1).2.2 = dash at *
  have hB0 := (Below.refl w.heap.size w).alloc (Nat.le_refl _) (.cells #[.int .i64 0, .int .i64 0] 61)
  have bxr := BoxAt.new w [.int .i64 0, .int .i64 0] 61
  have hE0 := hE.keep hB0
  have hP0 := hP.keep hB0
  go_enter Tryd.func53, Tryd.ntmps53
  go_wp2_with fail
  refine (hcp _).mono ?_
  rintro e w1 ⟨rfl, hb1⟩
  have hB1 := hB0.trans (hb1.mono hB0.size)
  have bx1 := bxr.keep hb1
  have hE1 := hE0.keep hb1
  have hP1 := hP0.keep hb1
  go_wp2_with fail
  refine (hc1 _).mono ?_
  rintro e w2 ⟨rfl, hb2⟩
  have hB2 := hB1.trans (hb2.mono hB1.size)
  have bx2 := bx1.keep hb2
  have hE2 := hE1.keep hb2
  have hP2 := hP1.keep hb2
  go_wp2_with fail
  refine (hc2 _).mono ?_
  rintro e w3 ⟨rfl, hb3⟩
  have hB3 := hB2.trans (hb3.mono hB2.size)
  have bx3 := bx2.keep hb3
  have hE3 := hE2.keep hb3
  have hP3 := hP2.keep hb3
  go_wp2_with fail
  refine (hn1 _ hE3 hP3).mono ?_
  rintro e w4 ⟨n1, o1, rfl, hi1, hb4⟩
  have hB4 := hB3.trans (hb4.mono hB3.size)
  have bx4 := bx3.keep hb4
  have hE4 := hE3.keep hb4
  have hP4 := hP3.keep hb4
  go_wp2_with fail
  refine (hn2 _ hE4 hP4).mono ?_
  rintro e w5 ⟨n2, o2, rfl, hi2, hb5⟩
  have hB5 := hB4.trans (hb5.mono hB4.size)
  have bx5 := bx4.keep hb5
  have hE5 := hE4.keep hb5
  have hP5 := hP4.keep hb5
  go_wp2_with fail
  refine (hn3 _ hE5 hP5).mono ?_
  rintro e w6 ⟨n3, o3, rfl, hi3, hb6⟩
  have hB6 := hB5.trans (hb6.mono hB5.size)
  have bx6 := bx5.keep hb6
  clear bxr bx1 bx2 bx3 bx4 bx5 hb1 hb2 hb3 hb4 hb5 hb6 hE0 hE1 hE2 hE3 hE4 hE5 hP0 hP1 hP2 hP3 hP4 hP5 hc1 hc2 hn1 hn2 hn3 hcp hB0 hB1 hB2 hB3 hB4 hB5
  cases hF : (is && slash && dash && o1 && o2 && o3)
  · have Hn := Lib.hid (show ∀ a b z, ¬ isCt a b z s from fun a b z h => by
      have := (Hall.out a b z n1 n2 n3 o1 o2 o3 h hi1 hi2 hi3).1
      rw [hF] at this; cases this)
    have bx7 := bx6.alloc (.cells #[.int .i64 n1, .int .i64 (wrap64 (n2 + 1))] 61)
    have hB7 := hB6.alloc hB6.size (.cells #[.int .i64 n1, .int .i64 (wrap64 (n2 + 1))] 61)
    have q0 := bx7.cell (j := 0) rfl
    have q1 := bx7.cell (j := 1) rfl
    have f0 := bx7.free 0
    have f1 := bx7.free 1
    have bx8 := (bx7.set 0 (.int .i64 0)).set 1 (.int .i64 0)
    have hB8 := (hB7.setCell (p := ⟨w.heap.size, 0, none⟩) (Nat.le_refl _) (.int .i64 0)).setCell (p := ⟨w.heap.size, 1, none⟩) (Nat.le_refl _) (.int .i64 0)
    have hG : is = false ∨ (is = true ∧ slash = false) ∨ (is = true ∧ slash = true ∧ dash = false) ∨ (is = true ∧ slash = true ∧ dash = true ∧ o1 = false) ∨ (is = true ∧ slash = true ∧ dash = true ∧ o1 = true ∧ o2 = false) ∨ (is = true ∧ slash = true ∧ dash = true ∧ o1 = true ∧ o2 = true ∧ o3 = false) := by
      cases is <;> cases slash <;> cases dash <;> cases o1 <;> cases o2 <;> cases o3 <;> simp at hF ⊢
    clear hi1 hi2 hi3 hF Hall Hback
    rcases hG with rfl | ⟨rfl, rfl⟩ | ⟨rfl, rfl, rfl⟩ | ⟨rfl, rfl, rfl, rfl⟩ | ⟨rfl, rfl, rfl, rfl, rfl⟩ | ⟨rfl, rfl, rfl, rfl, rfl, rfl⟩
    all_goals
      go_wp2_with fail
      refine bodyPost_ret (results_box3 (by rfl) _ _ w.heap.size [.int .i64 0, .int .i64 0] _ (by rfl) bx8.all Tryd.underlying61 (by rfl) (by kernel_rfl)) rfl ?_
      exact CtOut.no Hn.out hB8
  · have hF2 := hF
    simp only [Bool.and_eq_true] at hF2
    obtain ⟨⟨⟨⟨⟨rfl, rfl⟩, rfl⟩, rfl⟩, rfl⟩, rfl⟩ := hF2
    have y2 := (hi2.yes rfl)
    obtain ⟨y20, y21, -⟩ := y2
    have e2 : IntKind.i64.wrap (n2 + 1) = n2 + 1 := IntWalk.i64_in _ ⟨by omega, by omega⟩
    have bxx := BoxAt.new w6 [.int .i64 n1, .int .i64 (n2 + 1)] 61
    have bx7 := bx6.alloc (.cells #[.int .i64 n1, .int .i64 (n2 + 1)] 61)
    have hB7 := hB6.alloc hB6.size (.cells #[.int .i64 n1, .int .i64 (n2 + 1)] 61)
    have hic := fun w => w_isContent n1 (n2 + 1) n3 w
    cases hk : ctOK n1 (n2 + 1) n3
    · have Hn := Lib.hid (show ∀ a b z, ¬ isCt a b z s from fun a b z h => by
        have := (Hall.out a b z n1 n2 n3 true true true h hi1 hi2 hi3).2
        rw [hk] at this; cases this)
      rw [hk] at hic
      clear hi1 hi2 hi3 hF hk Hall Hback
      go_wp2_with (go_at_call 80; refine (hic _).mono ?_; rintro e w7 ⟨rfl, hb7⟩
                   have bx8 := bx7.keep hb7
                   have q0 := bx8.cell (j := 0) rfl
                   have q1 := bx8.cell (j := 1) rfl
                   have f0 := bx8.free 0
                   have f1 := bx8.free 1
                   have hB8 := hB7.trans (hb7.mono hB7.size))
      refine bodyPost_ret (results_box3 (by rfl) _ _ w.heap.size [.int .i64 0, .int .i64 0] _ (by rfl) ((bx8.set 0 (.int .i64 0)).set 1 (.int .i64 0)).all Tryd.underlying61 (by rfl) (by kernel_rfl)) rfl ?_
      exact CtOut.no Hn.out ((hB8.setCell (p := ⟨w.heap.size, 0, none⟩) (Nat.le_refl _) _).setCell (p := ⟨w.heap.size, 1, none⟩) (Nat.le_refl _) _)
    · have Hy := Lib.hid (Hback.out n1 n2 n3 true true true hi1 hi2 hi3 hF hk)
      rw [hk] at hic
      clear hi1 hi2 hi3 hF hk Hall Hback
      go_wp2_with (go_at_call 80; refine (hic _).mono ?_; rintro e w7 ⟨rfl, hb7⟩
                   have bx8 := bx7.keep hb7
                   have bxx8 := bxx.keep hb7
                   have q0 := bx8.cell (j := 0) rfl
                   have q1 := bx8.cell (j := 1) rfl
                   have f0 := bx8.free 0
                   have f1 := bx8.free 1
                   have x0 := bxx8.cell (j := 0) rfl
                   have x1 := bxx8.cell (j := 1) rfl
                   have hB8 := hB7.trans (hb7.mono hB7.size))
      refine bodyPost_ret (results_box3 (by rfl) _ _ w.heap.size [.int .i64 n1, .int .i64 (n2 + 1)] _ (by rfl) ((bx8.set 0 (.int .i64 n1)).set 1 (.int .i64 (n2 + 1))).all Tryd.underlying61 (by rfl) (by kernel_rfl)) rfl ?_
      exact CtOut.yes Hy.out ((hB8.setCell (p := ⟨w.heap.size, 0, none⟩) (Nat.le_refl _) _).setCell (p := ⟨w.heap.size, 1, none⟩) (Nat.le_refl _) _)
end Go.Proofs.YtgjikbhehijnaaaDoor
