/- Walks: a tag at a text's head; a tag, parsed. -/
import Derived.Test.YtcoghpokkhjhgaaGreatDoorWTag
namespace Go.Proofs.YtcoghpokkhjhgaaGreatDoor
open Go.RowKit Go.Larder
set_option linter.unusedVariables false
set_option linter.unusedSimpArgs false

/-- What etag.first hands back. -/
def FstPost (w : World) (r : Option (Bool × List UInt8 × List UInt8)) (e : Ending) (w' : World) : Prop := (match r with
  | none => e = .returned (.tuple #[.agg #[.bool false, S []], S [], .bool false])
  | some (wk, t, r) => e = .returned (.tuple #[.agg #[.bool wk, S t], S r, .bool true])) ∧ Below w.heap.size w w'

set_option maxHeartbeats 2000000 in
theorem w_tfirst (s : List UInt8) (hs : s.length ≤ 140737488351232) (w : World) :
    Calls Tryz.prog 29 #[S s] w (FstPost w (firstE s)) := by
  have hc1 := fun w => w_CutPre s wkL w
  have hc2 := fun w => w_CutPre (Lib.trimPrefix s wkL) [34] w
  have hl1 := trimPre_len s wkL
  have hl2 := trimPre_len (Lib.trimPrefix s wkL) [34]
  have hc3 := fun w => c1_Cut (Lib.trimPrefix (Lib.trimPrefix s wkL) [34]) 34 (by omega) w
  have hF : firstE s = if (Lib.hasPrefix (Lib.trimPrefix s wkL) [34] && (cut1 34 (Lib.trimPrefix (Lib.trimPrefix s wkL) [34])).2.2 && tagOK (cut1 34 (Lib.trimPrefix (Lib.trimPrefix s wkL) [34])).1) = true then some (Lib.hasPrefix s wkL, (cut1 34 (Lib.trimPrefix (Lib.trimPrefix s wkL) [34])).1, (cut1 34 (Lib.trimPrefix (Lib.trimPrefix s wkL) [34])).2.1) else none := rfl
  generalize cut1 34 (Lib.trimPrefix (Lib.trimPrefix s wkL) [34]) = ct at hc3 hF
  obtain ⟨t, r, en⟩ := ct
  simp only at hc3 hF
  generalize Lib.hasPrefix (Lib.trimPrefix s wkL) [34] = is at hc2 hF
  generalize Lib.trimPrefix (Lib.trimPrefix s wkL) [34] = s2 at hc2 hc3 hl2
  generalize Lib.hasPrefix s wkL = wk at hc1 hF
  generalize Lib.trimPrefix s wkL = s1 at hc1 hc2 hl1 hl2
  obtain ⟨R, hR⟩ : ∃ R, firstE s = R := ⟨_, rfl⟩
  rw [hR]
  rw [hR] at hF
  have HR := Lib.hid hF
  clear hF hR hl1 hl2
  have hP := fun w => w_TagPrint_any wk t w
  have b0 := (BoxAt.new w [.bool false, S []] 34).alloc (.cells #[.bool false, S []] 34)
  have c0 := BoxAt.new (w.alloc (.cells #[.bool false, S []] 34)) [.bool false, S []] 34
  rw [show (w.alloc (.cells #[.bool false, S []] 34)).heap.size = w.heap.size + 1 from by simp] at c0
  have hB0 : Below w.heap.size w ((w.alloc (.cells #[.bool false, S []] 34)).alloc (.cells #[.bool false, S []] 34)) := ((Below.refl w.heap.size w).alloc (Nat.le_refl _) _).alloc (by simp) _
  go_enter Tryz.func29, Tryz.ntmps29
  go_wp2_with fail
  refine (hc1 _).mono ?_
  rintro e w1 ⟨rfl, hb1⟩
  have hB1 := hB0.trans (hb1.mono (by simp; omega))
  have b1 := b0.keep hb1
  have c1 := c0.keep hb1
  have q1 := c1.cell (j := 0) rfl
  have f1 := c1.free 0
  clear hb1 b0 c0 hB0 hc1
  go_wp2_with fail
  have b2 := b1.setOther ⟨w.heap.size + 1, 0, none⟩ (by simp) (.bool wk)
  have c2 := c1.set 0 (.bool wk)
  have hB2 := hB1.setCell (p := ⟨w.heap.size + 1, 0, none⟩) (by simp) (.bool wk)
  clear b1 c1 q1 f1 hB1
  generalize w1.setCell ⟨w.heap.size + 1, 0, none⟩ (.bool wk) = w2 at b2 c2 hB2 ⊢
  refine (hc2 _).mono ?_
  rintro e w3 ⟨rfl, hb3⟩
  have hB3 := hB2.trans (hb3.mono hB2.size)
  have b3 := b2.keep hb3
  have c3 := c2.keep hb3
  clear b2 c2 hB2 hb3 hc2
  go_wp2_with fail
  refine (hc3 _).mono ?_
  rintro e w4 ⟨rfl, hb4⟩
  have hB4 := hB3.trans (hb4.mono hB3.size)
  have b4 := b3.keep hb4
  have c4 := c3.keep hb4
  have q4 := c4.cell (j := 0) rfl
  have q41 := c4.cell (j := 1) rfl
  have f4 := c4.free 1
  clear b3 c3 hB3 hb4 hc3
  go_wp2_with fail
  have b5 := b4.setOther ⟨w.heap.size + 1, 1, none⟩ (by simp) (S t)
  have c5 := c4.set 1 (S t)
  have hB5 := hB4.setCell (p := ⟨w.heap.size + 1, 1, none⟩) (by simp) (S t)
  clear b4 c4 q4 q41 f4 hB4
  generalize w4.setCell ⟨w.heap.size + 1, 1, none⟩ (S t) = w5 at b5 c5 hB5 ⊢
  refine (hP _).mono ?_
  rintro e w6 ⟨⟨a, n, rfl, hn⟩, hb6⟩
  have hB6 := hB5.trans (hb6.mono hB5.size)
  have b6 := b5.keep hb6
  have c6 := c5.keep hb6
  have q6 := c6.cell (j := 0) rfl
  have q61 := c6.cell (j := 1) rfl
  have p6 := b6.cell (j := 0) rfl
  have p61 := b6.cell (j := 1) rfl
  have g6 := b6.free 0
  have g61 := b6.free 1
  clear b5 c5 hB5 hb6 hP hs
  obtain ⟨ok, hok⟩ : ∃ ok, tagOK t = ok := ⟨_, rfl⟩
  rw [hok] at hn
  have Hok := Lib.hid hok
  clear hok
  have fin : ∀ x y, BoxAt ((w6.setCell ⟨w.heap.size, 0, none⟩ x).setCell ⟨w.heap.size, 1, none⟩ y) w.heap.size 34 [x, y] := fun x y => (b6.set 0 x).set 1 y
  have finB : ∀ x y, Below w.heap.size w ((w6.setCell ⟨w.heap.size, 0, none⟩ x).setCell ⟨w.heap.size, 1, none⟩ y) := fun x y => (hB6.setCell (p := ⟨w.heap.size, 0, none⟩) (by simp) x).setCell (p := ⟨w.heap.size, 1, none⟩) (by simp) y
  have endN : R = none → ∀ w', Below w.heap.size w w' → FstPost w R (.returned (.tuple #[.agg #[.bool false, S []], S [], .bool false])) w' := fun h w' hb => by rw [h]; exact ⟨rfl, hb⟩
  have endS : R = some (wk, t, r) → ∀ w', Below w.heap.size w w' → FstPost w R (.returned (.tuple #[.agg #[.bool wk, S t], S r, .bool true])) w' := fun h w' hb => by rw [h]; exact ⟨rfl, hb⟩
  have EndN := Lib.hid endN
  have EndS := Lib.hid endS
  clear endN endS
  cases is
  · have Hn := Lib.hid hn
    clear hn
    go_wp2_with fail
    refine bodyPost_ret (results_box3 (by rfl) _ _ w.heap.size [.bool false, S []] _ (by rfl) (fin _ _).all Tryz.underlying34 (by rfl) (by kernel_rfl)) rfl ?_
    exact EndN.out (by rw [HR.out]; simp) _ (finB _ _)
  · cases en
    · have Hn := Lib.hid hn
      clear hn
      go_wp2_with fail
      refine bodyPost_ret (results_box3 (by rfl) _ _ w.heap.size [.bool false, S []] _ (by rfl) (fin _ _).all Tryz.underlying34 (by rfl) (by kernel_rfl)) rfl ?_
      exact EndN.out (by rw [HR.out]; simp) _ (finB _ _)
    · cases ok
      · go_wp2_with fail
        refine bodyPost_ret (results_box3 (by rfl) _ _ w.heap.size [.bool false, S []] _ (by rfl) (fin _ _).all Tryz.underlying34 (by rfl) (by kernel_rfl)) rfl ?_
        exact EndN.out (by rw [HR.out, Hok.out]; simp) _ (finB _ _)
      · go_wp2_with fail
        refine bodyPost_ret (results_box3 (by rfl) _ _ w.heap.size [.bool wk, S t] _ (by rfl) (fin _ _).all Tryz.underlying34 (by rfl) (by kernel_rfl)) rfl ?_
        exact EndS.out (by rw [HR.out, Hok.out]; simp) _ (finB _ _)
end Go.Proofs.YtcoghpokkhjhgaaGreatDoor
