/- Walks: a tag, parsed: the program's, the reference's; the two comparisons. -/
import Derived.Test.YtcoghpokkhjhgaaGreatDoorWTagF
namespace Go.Proofs.YtcoghpokkhjhgaaGreatDoor
open Go.RowKit Go.Larder
set_option linter.unusedVariables false
set_option linter.unusedSimpArgs false

def TPost (w : World) (r : Option (Bool × List UInt8)) (e : Ending) (w' : World) : Prop := (match r with
  | none => e = .returned (.tuple #[.agg #[.bool false, S []], .int .i64 3])
  | some (wk, t) => e = .returned (.tuple #[.agg #[.bool wk, S t], .int .i64 0])) ∧ Below w.heap.size w w'

set_option maxHeartbeats 2000000 in
theorem w_tparse (s : List UInt8) (hs : s.length ≤ 140737488351232) (w : World) :
    Calls Tryz.prog 9 #[S s] w (TPost w (parseT s)) := by
  have hf := fun w => w_tfirst s hs w
  have b0 := BoxAt.new w [.bool false, S []] 34
  have hB0 : Below w.heap.size w (w.alloc (.cells #[.bool false, S []] 34)) := (Below.refl w.heap.size w).alloc (Nat.le_refl _) _
  unfold parseT
  cases hfe : firstE s with
  | none =>
    simp only [hfe] at hf
    clear hfe
    go_enter Tryz.func9, Tryz.ntmps9
    go_wp2_with fail
    refine (hf _).mono ?_
    rintro e w1 ⟨rfl, hb1⟩
    have hB1 := hB0.trans (hb1.mono (by simp))
    have b1 := b0.keep hb1
    have hsz : w.heap.size ≤ w1.heap.size := hB1.size
    have p6 := (b0.keep hb1).cell (j := 0) rfl
    have p61 := (b0.keep hb1).cell (j := 1) rfl
    have g6 := (b0.keep hb1).free 0
    have g61 := (b0.keep hb1).free 1
    have hlt := (b0.keep hb1).lt
    have fin : ∀ x y, BoxAt (((w1.setCell ⟨w.heap.size, 0, none⟩ x).setCell ⟨w.heap.size, 1, none⟩ y).alloc (.cells #[.bool false, S []] 34)) w.heap.size 34 [x, y] := fun x y => ((b1.set 0 x).set 1 y).alloc _
    have finB : ∀ x y, Below w.heap.size w (((w1.setCell ⟨w.heap.size, 0, none⟩ x).setCell ⟨w.heap.size, 1, none⟩ y).alloc (.cells #[.bool false, S []] 34)) := fun x y => ((hB1.setCell (p := ⟨w.heap.size, 0, none⟩) (by simp) x).setCell (p := ⟨w.heap.size, 1, none⟩) (by simp) y).alloc (by simpa using hsz) _
    go_wp2_with fail
    refine bodyPost_ret (results_box2 (by rfl) _ _ w.heap.size [.bool false, S []] _ (by rfl) (fin _ _).all Tryz.underlying34 (by rfl) (by kernel_rfl)) rfl ?_
    exact ⟨rfl, finB _ _⟩
  | some x =>
    obtain ⟨wk, t, r⟩ := x
    simp only [hfe] at hf
    clear hfe
    cases r with
    | nil =>
      go_enter Tryz.func9, Tryz.ntmps9
      go_wp2_with fail
      refine (hf _).mono ?_
      rintro e w1 ⟨rfl, hb1⟩
      have hB1 := hB0.trans (hb1.mono (by simp))
      have b1 := b0.keep hb1
      have hsz : w.heap.size ≤ w1.heap.size := hB1.size
      have p6 := (b0.keep hb1).cell (j := 0) rfl
      have p61 := (b0.keep hb1).cell (j := 1) rfl
      have g6 := (b0.keep hb1).free 0
      have g61 := (b0.keep hb1).free 1
      have hlt := (b0.keep hb1).lt
      have fin : ∀ x y, BoxAt (((w1.setCell ⟨w.heap.size, 0, none⟩ x).setCell ⟨w.heap.size, 1, none⟩ y).alloc (.cells #[.bool wk, S t] 34)) w.heap.size 34 [x, y] := fun x y => ((b1.set 0 x).set 1 y).alloc _
      have finB : ∀ x y, Below w.heap.size w (((w1.setCell ⟨w.heap.size, 0, none⟩ x).setCell ⟨w.heap.size, 1, none⟩ y).alloc (.cells #[.bool wk, S t] 34)) := fun x y => ((hB1.setCell (p := ⟨w.heap.size, 0, none⟩) (by simp) x).setCell (p := ⟨w.heap.size, 1, none⟩) (by simp) y).alloc (by simpa using hsz) _
      go_wp2_with fail
      refine bodyPost_ret (results_box2 (by rfl) _ _ w.heap.size [.bool wk, S t] _ (by rfl) (fin _ _).all Tryz.underlying34 (by rfl) (by kernel_rfl)) rfl ?_
      exact ⟨rfl, finB _ _⟩
    | cons a r =>
      go_enter Tryz.func9, Tryz.ntmps9
      go_wp2_with fail
      refine (hf _).mono ?_
      rintro e w1 ⟨rfl, hb1⟩
      have hB1 := hB0.trans (hb1.mono (by simp))
      have b1 := b0.keep hb1
      have hsz : w.heap.size ≤ w1.heap.size := hB1.size
      have p6 := (b0.keep hb1).cell (j := 0) rfl
      have p61 := (b0.keep hb1).cell (j := 1) rfl
      have g6 := (b0.keep hb1).free 0
      have g61 := (b0.keep hb1).free 1
      have hlt := (b0.keep hb1).lt
      have fin : ∀ x y, BoxAt (((w1.setCell ⟨w.heap.size, 0, none⟩ x).setCell ⟨w.heap.size, 1, none⟩ y).alloc (.cells #[.bool wk, S t] 34)) w.heap.size 34 [x, y] := fun x y => ((b1.set 0 x).set 1 y).alloc _
      have finB : ∀ x y, Below w.heap.size w (((w1.setCell ⟨w.heap.size, 0, none⟩ x).setCell ⟨w.heap.size, 1, none⟩ y).alloc (.cells #[.bool wk, S t] 34)) := fun x y => ((hB1.setCell (p := ⟨w.heap.size, 0, none⟩) (by simp) x).setCell (p := ⟨w.heap.size, 1, none⟩) (by simp) y).alloc (by simpa using hsz) _
      go_wp2_with fail
      refine bodyPost_ret (results_box2 (by rfl) _ _ w.heap.size [.bool false, S []] _ (by rfl) (fin _ _).all Tryz.underlying34 (by rfl) (by kernel_rfl)) rfl ?_
      exact ⟨rfl, finB _ _⟩
set_option maxHeartbeats 4000000 in
theorem w_tparseR (s : List UInt8) (hs : s.length ≤ 140737488351232) (w : World) :
    Calls Tryz.prog 37 #[S s] w (TPost w (parseTR s)) := by
  have h1 := fun w => w_HasPre s wkL w
  have h2 := fun w => w_TrimPre s wkL w
  have hl := trimPre_len s wkL
  unfold parseTR
  generalize Lib.hasPrefix s wkL = wk at h1 ⊢
  generalize Lib.trimPrefix s wkL = rest at h2 hl ⊢
  have hsub : ((rest.length : Int) - 1).toNat = rest.length - 1 := by omega
  obtain ⟨X, hX⟩ : ∃ X, midL rest = X := ⟨_, rfl⟩
  rw [hX]
  have hms : 1 < rest.length → List.take (rest.length - 1 - 1) rest.tail = X := fun h => by rw [← hX]; unfold midL; rw [if_pos h]; simp
  have hmn : ¬ 1 < rest.length → X = [] := fun h => by rw [← hX]; unfold midL; rw [if_neg h]
  clear hX
  have b0 : BoxAt ((w.alloc (.cells #[.bool false, S []] 34)).alloc (.cells #[.bool wk, S X] 34)) w.heap.size 34 [.bool false, S []] := (BoxAt.new w [.bool false, S []] 34).alloc _
  have c0 : BoxAt ((w.alloc (.cells #[.bool false, S []] 34)).alloc (.cells #[.bool wk, S X] 34)) (w.heap.size + 1) 34 [.bool wk, S X] := by
    have := BoxAt.new (w.alloc (.cells #[.bool false, S []] 34)) [.bool wk, S X] 34
    rwa [show (w.alloc (.cells #[.bool false, S []] 34)).heap.size = w.heap.size + 1 from by simp] at this
  have hB0 : Below w.heap.size w ((w.alloc (.cells #[.bool false, S []] 34)).alloc (.cells #[.bool wk, S X] 34)) := ((Below.refl w.heap.size w).alloc (Nat.le_refl _) _).alloc (by simp) _
  have hP := fun w => w_TagPrintR wk X w
  cases hk : tagOK X
  · rw [Bool.false_and, if_neg (by simp)]
    obtain ⟨n, hn, hn0⟩ := tagE_bad (wk := wk) hk
    rw [hn] at hP
    clear hk hn
    by_cases hlen : 1 < rest.length
    · have hXe := hms hlen
      clear hms hmn
      go_enter Tryz.func37, Tryz.ntmps37
      go_wp2_with (first
        | (go_at_call 65; refine (h1 _).mono ?_; rintro e w' ⟨rfl, rfl⟩)
        | (go_at_call 66; refine (h2 _).mono ?_; rintro e w' ⟨rfl, rfl⟩))
      refine (hP _).mono ?_
      rintro e w1 ⟨rfl, hb1⟩
      have hB1 := hB0.trans (hb1.mono (by simp; omega))
      have b1 := b0.keep hb1
      have c1 := c0.keep hb1
      have q6 := c1.cell (j := 0) rfl
      have q61 := c1.cell (j := 1) rfl
      have p6 := b1.cell (j := 0) rfl
      have p61 := b1.cell (j := 1) rfl
      have g6 := b1.free 0
      have g61 := b1.free 1
      have fin : ∀ x y, BoxAt ((w1.setCell ⟨w.heap.size, 0, none⟩ x).setCell ⟨w.heap.size, 1, none⟩ y) w.heap.size 34 [x, y] := fun x y => (b1.set 0 x).set 1 y
      have finB : ∀ x y, Below w.heap.size w ((w1.setCell ⟨w.heap.size, 0, none⟩ x).setCell ⟨w.heap.size, 1, none⟩ y) := fun x y => (hB1.setCell (p := ⟨w.heap.size, 0, none⟩) (by simp) x).setCell (p := ⟨w.heap.size, 1, none⟩) (by simp) y
      clear b0 c0 hB0 hb1 hB1 b1 c1
      go_wp2_with fail
      refine bodyPost_ret (results_box2 (by rfl) _ _ w.heap.size [.bool false, S []] _ (by rfl) (fin _ _).all Tryz.underlying34 (by rfl) (by kernel_rfl)) rfl ?_
      exact ⟨rfl, finB _ _⟩
    · have hX0 := hmn hlen
      subst hX0
      clear hms hmn
      go_enter Tryz.func37, Tryz.ntmps37
      go_wp2_with (first
        | (go_at_call 65; refine (h1 _).mono ?_; rintro e w' ⟨rfl, rfl⟩)
        | (go_at_call 66; refine (h2 _).mono ?_; rintro e w' ⟨rfl, rfl⟩))
      refine (hP _).mono ?_
      rintro e w1 ⟨rfl, hb1⟩
      have hB1 := hB0.trans (hb1.mono (by simp; omega))
      have b1 := b0.keep hb1
      have c1 := c0.keep hb1
      have q6 := c1.cell (j := 0) rfl
      have q61 := c1.cell (j := 1) rfl
      have p6 := b1.cell (j := 0) rfl
      have p61 := b1.cell (j := 1) rfl
      have g6 := b1.free 0
      have g61 := b1.free 1
      have fin : ∀ x y, BoxAt ((w1.setCell ⟨w.heap.size, 0, none⟩ x).setCell ⟨w.heap.size, 1, none⟩ y) w.heap.size 34 [x, y] := fun x y => (b1.set 0 x).set 1 y
      have finB : ∀ x y, Below w.heap.size w ((w1.setCell ⟨w.heap.size, 0, none⟩ x).setCell ⟨w.heap.size, 1, none⟩ y) := fun x y => (hB1.setCell (p := ⟨w.heap.size, 0, none⟩) (by simp) x).setCell (p := ⟨w.heap.size, 1, none⟩) (by simp) y
      clear b0 c0 hB0 hb1 hB1 b1 c1
      go_wp2_with fail
      refine bodyPost_ret (results_box2 (by rfl) _ _ w.heap.size [.bool false, S []] _ (by rfl) (fin _ _).all Tryz.underlying34 (by rfl) (by kernel_rfl)) rfl ?_
      exact ⟨rfl, finB _ _⟩
  · rw [tagE_ok hk] at hP
    rw [Bool.true_and]
    cases hq : (tagL wk X == s)
    · rw [if_neg (by simp)]
      clear hk
      by_cases hlen : 1 < rest.length
      · have hXe := hms hlen
        clear hms hmn
        generalize tagL wk X = u at hP hq
        go_enter Tryz.func37, Tryz.ntmps37
        go_wp2_with (first
          | (go_at_call 65; refine (h1 _).mono ?_; rintro e w' ⟨rfl, rfl⟩)
          | (go_at_call 66; refine (h2 _).mono ?_; rintro e w' ⟨rfl, rfl⟩))
        refine (hP _).mono ?_
        rintro e w1 ⟨rfl, hb1⟩
        have hB1 := hB0.trans (hb1.mono (by simp; omega))
        have b1 := b0.keep hb1
        have c1 := c0.keep hb1
        have q6 := c1.cell (j := 0) rfl
        have q61 := c1.cell (j := 1) rfl
        have p6 := b1.cell (j := 0) rfl
        have p61 := b1.cell (j := 1) rfl
        have g6 := b1.free 0
        have g61 := b1.free 1
        have fin : ∀ x y, BoxAt ((w1.setCell ⟨w.heap.size, 0, none⟩ x).setCell ⟨w.heap.size, 1, none⟩ y) w.heap.size 34 [x, y] := fun x y => (b1.set 0 x).set 1 y
        have finB : ∀ x y, Below w.heap.size w ((w1.setCell ⟨w.heap.size, 0, none⟩ x).setCell ⟨w.heap.size, 1, none⟩ y) := fun x y => (hB1.setCell (p := ⟨w.heap.size, 0, none⟩) (by simp) x).setCell (p := ⟨w.heap.size, 1, none⟩) (by simp) y
        clear b0 c0 hB0 hb1 hB1 b1 c1
        go_wp2_with fail
        refine bodyPost_ret (results_box2 (by rfl) _ _ w.heap.size [.bool false, S []] _ (by rfl) (fin _ _).all Tryz.underlying34 (by rfl) (by kernel_rfl)) rfl ?_
        exact ⟨rfl, finB _ _⟩
      · have hX0 := hmn hlen
        subst hX0
        clear hms hmn
        generalize tagL wk [] = u at hP hq
        go_enter Tryz.func37, Tryz.ntmps37
        go_wp2_with (first
          | (go_at_call 65; refine (h1 _).mono ?_; rintro e w' ⟨rfl, rfl⟩)
          | (go_at_call 66; refine (h2 _).mono ?_; rintro e w' ⟨rfl, rfl⟩))
        refine (hP _).mono ?_
        rintro e w1 ⟨rfl, hb1⟩
        have hB1 := hB0.trans (hb1.mono (by simp; omega))
        have b1 := b0.keep hb1
        have c1 := c0.keep hb1
        have q6 := c1.cell (j := 0) rfl
        have q61 := c1.cell (j := 1) rfl
        have p6 := b1.cell (j := 0) rfl
        have p61 := b1.cell (j := 1) rfl
        have g6 := b1.free 0
        have g61 := b1.free 1
        have fin : ∀ x y, BoxAt ((w1.setCell ⟨w.heap.size, 0, none⟩ x).setCell ⟨w.heap.size, 1, none⟩ y) w.heap.size 34 [x, y] := fun x y => (b1.set 0 x).set 1 y
        have finB : ∀ x y, Below w.heap.size w ((w1.setCell ⟨w.heap.size, 0, none⟩ x).setCell ⟨w.heap.size, 1, none⟩ y) := fun x y => (hB1.setCell (p := ⟨w.heap.size, 0, none⟩) (by simp) x).setCell (p := ⟨w.heap.size, 1, none⟩) (by simp) y
        clear b0 c0 hB0 hb1 hB1 b1 c1
        go_wp2_with fail
        refine bodyPost_ret (results_box2 (by rfl) _ _ w.heap.size [.bool false, S []] _ (by rfl) (fin _ _).all Tryz.underlying34 (by rfl) (by kernel_rfl)) rfl ?_
        exact ⟨rfl, finB _ _⟩
    · rw [if_pos rfl]
      have hq2 : tagL wk X = s := by simpa using hq
      rw [hq2] at hP
      clear hk hq hq2
      by_cases hlen : 1 < rest.length
      · have hXe := hms hlen
        clear hms hmn
        go_enter Tryz.func37, Tryz.ntmps37
        go_wp2_with (first
          | (go_at_call 65; refine (h1 _).mono ?_; rintro e w' ⟨rfl, rfl⟩)
          | (go_at_call 66; refine (h2 _).mono ?_; rintro e w' ⟨rfl, rfl⟩))
        refine (hP _).mono ?_
        rintro e w1 ⟨rfl, hb1⟩
        have hB1 := hB0.trans (hb1.mono (by simp; omega))
        have b1 := b0.keep hb1
        have c1 := c0.keep hb1
        have q6 := c1.cell (j := 0) rfl
        have q61 := c1.cell (j := 1) rfl
        have p6 := b1.cell (j := 0) rfl
        have p61 := b1.cell (j := 1) rfl
        have g6 := b1.free 0
        have g61 := b1.free 1
        have fin : ∀ x y, BoxAt ((w1.setCell ⟨w.heap.size, 0, none⟩ x).setCell ⟨w.heap.size, 1, none⟩ y) w.heap.size 34 [x, y] := fun x y => (b1.set 0 x).set 1 y
        have finB : ∀ x y, Below w.heap.size w ((w1.setCell ⟨w.heap.size, 0, none⟩ x).setCell ⟨w.heap.size, 1, none⟩ y) := fun x y => (hB1.setCell (p := ⟨w.heap.size, 0, none⟩) (by simp) x).setCell (p := ⟨w.heap.size, 1, none⟩) (by simp) y
        clear b0 c0 hB0 hb1 hB1 b1 c1
        go_wp2_with fail
        refine bodyPost_ret (results_box2 (by rfl) _ _ w.heap.size [.bool wk, S X] _ (by rfl) (fin _ _).all Tryz.underlying34 (by rfl) (by kernel_rfl)) rfl ?_
        exact ⟨rfl, finB _ _⟩
      · have hX0 := hmn hlen
        subst hX0
        clear hms hmn
        go_enter Tryz.func37, Tryz.ntmps37
        go_wp2_with (first
          | (go_at_call 65; refine (h1 _).mono ?_; rintro e w' ⟨rfl, rfl⟩)
          | (go_at_call 66; refine (h2 _).mono ?_; rintro e w' ⟨rfl, rfl⟩))
        refine (hP _).mono ?_
        rintro e w1 ⟨rfl, hb1⟩
        have hB1 := hB0.trans (hb1.mono (by simp; omega))
        have b1 := b0.keep hb1
        have c1 := c0.keep hb1
        have q6 := c1.cell (j := 0) rfl
        have q61 := c1.cell (j := 1) rfl
        have p6 := b1.cell (j := 0) rfl
        have p61 := b1.cell (j := 1) rfl
        have g6 := b1.free 0
        have g61 := b1.free 1
        have fin : ∀ x y, BoxAt ((w1.setCell ⟨w.heap.size, 0, none⟩ x).setCell ⟨w.heap.size, 1, none⟩ y) w.heap.size 34 [x, y] := fun x y => (b1.set 0 x).set 1 y
        have finB : ∀ x y, Below w.heap.size w ((w1.setCell ⟨w.heap.size, 0, none⟩ x).setCell ⟨w.heap.size, 1, none⟩ y) := fun x y => (hB1.setCell (p := ⟨w.heap.size, 0, none⟩) (by simp) x).setCell (p := ⟨w.heap.size, 1, none⟩) (by simp) y
        clear b0 c0 hB0 hb1 hB1 b1 c1
        go_wp2_with fail
        refine bodyPost_ret (results_box2 (by rfl) _ _ w.heap.size [.bool wk, S []] _ (by rfl) (fin _ _).all Tryz.underlying34 (by rfl) (by kernel_rfl)) rfl ?_
        exact ⟨rfl, finB _ _⟩

end Go.Proofs.YtcoghpokkhjhgaaGreatDoor
