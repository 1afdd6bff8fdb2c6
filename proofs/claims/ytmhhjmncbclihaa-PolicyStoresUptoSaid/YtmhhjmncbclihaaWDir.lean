/- Walks: one directive; the program's. -/
import Derived.Test.YtmhhjmncbclihaaWCut1
import Derived.Test.YtmhhjmncbclihaaEncD
import Derived.Test.YtmhhjmncbclihaaBox
import Derived.Test.YtmhhjmncbclihaaWSplit
import Derived.Test.YtmhhjmncbclihaaWNamed
import Derived.Deep.RegionWith
namespace Go.Proofs.Ytmhhjmncbclihaa
open Go.RowKit Go.Larder
set_option linter.unusedVariables false
set_option linter.unusedSimpArgs false

abbrev dirV2 (d : Dir) : Value := .agg #[S d.1, .bool d.2.1, S d.2.2]

set_option maxHeartbeats 4000000 in
theorem w_dir_no (t : List UInt8) (ht : t.length ≤ 1000) (h : Lib.indexByte t 61 = -1) (w : World) :
    Calls Try.prog 132 #[S t] w fun e w' => e = .returned (.tuple #[dirV2 (lowL t, false, []), .bool (isTok t)]) ∧ Below w.heap.size w w' := by
  go_enter Try.func132, Try.ntmps132
  go_wp2_with (first
    | (go_at_call 154; refine (w_Cut_no t 61 h _).mono ?_; rintro e w' ⟨rfl, rfl⟩)
    | (go_at_call 79; refine (w_Lower t (by omega) _).mono ?_; rintro e w1 ⟨rfl, hb1⟩
       have hbx := box_kept hb1
       have hs1 := hb1.size
       have hlt0 : w.heap.size < w1.heap.size := by simp at hs1; omega
       have q0 : w1.cell? ⟨w.heap.size, 0, none⟩ = some (S []) := by rw [Lib.cell_of_heap hbx]; rfl
       have r0 : w1.frozen? ⟨w.heap.size, 0, none⟩ = false := Lib.frozen_of_heap hbx 0
       have q1 : w1.cell? ⟨w.heap.size, 1, none⟩ = some (.bool false) := by rw [Lib.cell_of_heap hbx]; rfl
       have r1 : w1.frozen? ⟨w.heap.size, 1, none⟩ = false := Lib.frozen_of_heap hbx 1
       have q2 : w1.cell? ⟨w.heap.size, 2, none⟩ = some (S []) := by rw [Lib.cell_of_heap hbx]; rfl
       have r2 : w1.frozen? ⟨w.heap.size, 2, none⟩ = false := Lib.frozen_of_heap hbx 2))
  go_region_with (go_at_call 78; refine (w_IsToken t (by omega) _).mono ?_; rintro e w' ⟨rfl, rfl⟩)
  all_goals go_wp2
  all_goals
    refine bodyPost_ret (results_box2 (by rfl) _ _ w.heap.size [S (lowL t), .bool false, S []] _ (by rfl) (fun j v hv => (World.cell?_alloc_lt _ _ _ (by simpa using hlt0)).trans (stored3 q0 q1 q2 j v hv)) Try.underlying166 (by rfl) (by kernel_rfl)) rfl ?_
    refine ⟨rfl, Below.drew ((below_stored3 (((Below.refl _ _).alloc (Nat.le_refl _) _).trans (hb1.mono (by simp))) (Nat.le_refl _)).alloc (by simp; omega) _)⟩

set_option maxHeartbeats 4000000 in
theorem w_dir_tok (t : List UInt8) (ht : t.length ≤ 1000) (k : Nat) (h : Lib.indexByte t 61 = (k : Int)) (hk : k < t.length) (ha : isTok (t.drop (k + 1)) = true) (w : World) :
    Calls Try.prog 132 #[S t] w fun e w' => e = .returned (.tuple #[dirV2 (lowL (t.take k), true, t.drop (k + 1)), .bool (isTok (t.take k))]) ∧ Below w.heap.size w w' := by
  have hcut := fun w => w_Cut_at t 61 k h hk (by omega) w
  have hn : (t.take k).length ≤ 1000 := by rw [List.length_take]; omega
  have hg : (t.drop (k + 1)).length ≤ 1000 := by rw [List.length_drop]; omega
  generalize t.take k = n at hcut hn ⊢
  generalize t.drop (k + 1) = g at hcut hg ha ⊢
  have htok := w_IsToken g (by omega)
  rw [ha] at htok
  go_enter Try.func132, Try.ntmps132
  go_wp2_with (first
    | (go_at_call 154; refine (hcut _).mono ?_; rintro e w0 ⟨rfl, hb0⟩
       have hbx0 := box_kept hb0
       have hs0 := hb0.size
       have hlt00 : w.heap.size < w0.heap.size := by simp at hs0; omega)
    | (go_at_call 78; refine (htok _).mono ?_; rintro e w' ⟨rfl, rfl⟩)
    | (go_at_call 79; refine (w_Lower n (by omega) _).mono ?_; rintro e w1 ⟨rfl, hb1⟩
       have hbx := (hb1.block _ hlt00).trans hbx0
       have hs1 := hb1.size
       have hlt0 : w.heap.size < w1.heap.size := by omega
       have q0 : w1.cell? ⟨w.heap.size, 0, none⟩ = some (S []) := by rw [Lib.cell_of_heap hbx]; rfl
       have r0 : w1.frozen? ⟨w.heap.size, 0, none⟩ = false := Lib.frozen_of_heap hbx 0
       have q1 : w1.cell? ⟨w.heap.size, 1, none⟩ = some (.bool false) := by rw [Lib.cell_of_heap hbx]; rfl
       have r1 : w1.frozen? ⟨w.heap.size, 1, none⟩ = false := Lib.frozen_of_heap hbx 1
       have q2 : w1.cell? ⟨w.heap.size, 2, none⟩ = some (S []) := by rw [Lib.cell_of_heap hbx]; rfl
       have r2 : w1.frozen? ⟨w.heap.size, 2, none⟩ = false := Lib.frozen_of_heap hbx 2))
  go_region_with (go_at_call 78; refine (w_IsToken n (by omega) _).mono ?_; rintro e w' ⟨rfl, rfl⟩)
  all_goals go_wp2
  all_goals
    refine bodyPost_ret (results_box2 (by rfl) _ _ w.heap.size [S (lowL n), .bool true, S g] _ (by rfl) (fun j v hv => (World.cell?_alloc_lt _ _ _ (by simpa using hlt0)).trans (stored3 q0 q1 q2 j v hv)) Try.underlying166 (by rfl) (by kernel_rfl)) rfl ?_
    refine ⟨rfl, Below.drew ((below_stored3 ((((Below.refl w.heap.size w).alloc (Nat.le_refl _) _).trans (hb0.mono (by simp))).trans (hb1.mono (by omega))) (Nat.le_refl _)).alloc (by simp; omega) _)⟩

set_option maxHeartbeats 4000000 in
theorem w_dir_unq (t : List UInt8) (ht : t.length ≤ 1000) (k : Nat) (h : Lib.indexByte t 61 = (k : Int)) (hk : k < t.length) (ha : isTok (t.drop (k + 1)) = false) (hu : (unqAll (t.drop (k + 1))).2 = 0) (w : World) :
    Calls Try.prog 132 #[S t] w fun e w' => e = .returned (.tuple #[dirV2 (lowL (t.take k), true, (unqAll (t.drop (k + 1))).1), .bool (isTok (t.take k))]) ∧ Below w.heap.size w w' := by
  have hcut := fun w => w_Cut_at t 61 k h hk (by omega) w
  have hn : (t.take k).length ≤ 1000 := by rw [List.length_take]; omega
  have hg : (t.drop (k + 1)).length ≤ 1000 := by rw [List.length_drop]; omega
  generalize t.take k = n at hcut hn ⊢
  generalize t.drop (k + 1) = g at hcut hg ha hu ⊢
  have htok := w_IsToken g (by omega)
  rw [ha] at htok
  have hunq := w_UnqA g (by omega)
  have hul := unqAll_len g
  generalize unqAll g = u at hunq hu hul ⊢
  obtain ⟨u1, u2⟩ := u
  have hu : u2 = 0 := hu
  subst hu
  go_enter Try.func132, Try.ntmps132
  go_wp2_with (first
    | (go_at_call 154; refine (hcut _).mono ?_; rintro e w0 ⟨rfl, hb0⟩
       have hbx0 := box_kept hb0
       have hs0 := hb0.size
       have hlt00 : w.heap.size < w0.heap.size := by simp at hs0; omega)
    | (go_at_call 78; refine (htok _).mono ?_; rintro e w' ⟨rfl, rfl⟩)
    | (go_at_call 79; refine (w_Lower n (by omega) _).mono ?_; rintro e w1 ⟨rfl, hb1⟩
       have hbx := (hb1.block _ hlt00).trans hbx0
       have hs1 := hb1.size
       have hlt0 : w.heap.size < w1.heap.size := by omega
       have q0 : w1.cell? ⟨w.heap.size, 0, none⟩ = some (S []) := by rw [Lib.cell_of_heap hbx]; rfl
       have r0 : w1.frozen? ⟨w.heap.size, 0, none⟩ = false := Lib.frozen_of_heap hbx 0
       have q1 : w1.cell? ⟨w.heap.size, 1, none⟩ = some (.bool false) := by rw [Lib.cell_of_heap hbx]; rfl
       have r1 : w1.frozen? ⟨w.heap.size, 1, none⟩ = false := Lib.frozen_of_heap hbx 1
       have q2 : w1.cell? ⟨w.heap.size, 2, none⟩ = some (S []) := by rw [Lib.cell_of_heap hbx]; rfl
       have r2 : w1.frozen? ⟨w.heap.size, 2, none⟩ = false := Lib.frozen_of_heap hbx 2)
    | (go_at_call 155; refine (hunq _).mono ?_; rintro e w2 ⟨rfl, hb2⟩
       have hbxA : (w1.alloc (.cells #[S (lowL n), .bool true, S g] 166)).heap[w.heap.size]? = some (.cells #[S [], .bool false, S []] 166 (0, 0)) := (Below.heap_alloc _ _ _ hlt0).trans hbx
       have hbx2 := (hb2.block _ (by simp; omega)).trans hbxA
       have hbx3 := box_kept hb2
       have hs2 := hb2.size
       have hlt2 : w1.heap.size < w2.heap.size := by simp at hs2; omega
       have hlt3 : w.heap.size < w2.heap.size := by omega
       have qa0 : w2.cell? ⟨w.heap.size, 0, none⟩ = some (S []) := by rw [Lib.cell_of_heap hbx2]; rfl
       have ra0 : w2.frozen? ⟨w.heap.size, 0, none⟩ = false := Lib.frozen_of_heap hbx2 0
       have qa1 : w2.cell? ⟨w.heap.size, 1, none⟩ = some (.bool false) := by rw [Lib.cell_of_heap hbx2]; rfl
       have ra1 : w2.frozen? ⟨w.heap.size, 1, none⟩ = false := Lib.frozen_of_heap hbx2 1
       have qa2 : w2.cell? ⟨w.heap.size, 2, none⟩ = some (S []) := by rw [Lib.cell_of_heap hbx2]; rfl
       have ra2 : w2.frozen? ⟨w.heap.size, 2, none⟩ = false := Lib.frozen_of_heap hbx2 2
       have qb0 : w2.cell? ⟨w1.heap.size, 0, none⟩ = some (S (lowL n)) := by rw [Lib.cell_of_heap hbx3]; rfl
       have rb0 : w2.frozen? ⟨w1.heap.size, 0, none⟩ = false := Lib.frozen_of_heap hbx3 0
       have qb1 : w2.cell? ⟨w1.heap.size, 1, none⟩ = some (.bool true) := by rw [Lib.cell_of_heap hbx3]; rfl
       have rb1 : w2.frozen? ⟨w1.heap.size, 1, none⟩ = false := Lib.frozen_of_heap hbx3 1
       have qb2 : w2.cell? ⟨w1.heap.size, 2, none⟩ = some (S g) := by rw [Lib.cell_of_heap hbx3]; rfl
       have rb2 : w2.frozen? ⟨w1.heap.size, 2, none⟩ = false := Lib.frozen_of_heap hbx3 2))
  go_region_with (go_at_call 78; refine (w_IsToken n (by omega) _).mono ?_; rintro e w' ⟨rfl, rfl⟩)
  all_goals go_wp2
  all_goals
    have hq0 : (w2.setCell ⟨w1.heap.size, 2, none⟩ (S u1)).cell? ⟨w.heap.size, 0, none⟩ = some (S []) := by rw [World.cell?_setCell_other _ _ _ _ (by simp <;> omega)]; exact qa0
    have hq1 : (w2.setCell ⟨w1.heap.size, 2, none⟩ (S u1)).cell? ⟨w.heap.size, 1, none⟩ = some (.bool false) := by rw [World.cell?_setCell_other _ _ _ _ (by simp <;> omega)]; exact qa1
    have hq2 : (w2.setCell ⟨w1.heap.size, 2, none⟩ (S u1)).cell? ⟨w.heap.size, 2, none⟩ = some (S []) := by rw [World.cell?_setCell_other _ _ _ _ (by simp <;> omega)]; exact qa2
    refine bodyPost_ret (results_box2 (by rfl) _ _ w.heap.size [S (lowL n), .bool true, S u1] _ (by rfl) (stored3 hq0 hq1 hq2) Try.underlying166 (by rfl) (by kernel_rfl)) rfl ?_
    refine ⟨rfl, Below.drew (below_stored3 (((((((Below.refl w.heap.size w).alloc (Nat.le_refl _) _).trans (hb0.mono (by simp))).trans (hb1.mono (by omega))).alloc (by omega) _).trans (hb2.mono (by simp; omega))).setCell (p := ⟨w1.heap.size, 2, none⟩) (by show w.heap.size ≤ w1.heap.size; omega) _) (Nat.le_refl _))⟩

set_option maxHeartbeats 4000000 in
theorem w_dir_bad (t : List UInt8) (ht : t.length ≤ 1000) (k : Nat) (h : Lib.indexByte t 61 = (k : Int)) (hk : k < t.length) (ha : isTok (t.drop (k + 1)) = false) (hu : (unqAll (t.drop (k + 1))).2 ≠ 0) (w : World) :
    Calls Try.prog 132 #[S t] w fun e w' => e = .returned (.tuple #[dirV2 (lowL (t.take k), true, t.drop (k + 1)), .bool (false)]) ∧ Below w.heap.size w w' := by
  have hcut := fun w => w_Cut_at t 61 k h hk (by omega) w
  have hn : (t.take k).length ≤ 1000 := by rw [List.length_take]; omega
  have hg : (t.drop (k + 1)).length ≤ 1000 := by rw [List.length_drop]; omega
  generalize t.take k = n at hcut hn ⊢
  generalize t.drop (k + 1) = g at hcut hg ha hu ⊢
  have htok := w_IsToken g (by omega)
  rw [ha] at htok
  have hunq := w_UnqA g (by omega)
  have hul := unqAll_len g
  generalize unqAll g = u at hunq hu hul ⊢
  obtain ⟨u1, u2⟩ := u
  have hu : u2 ≠ 0 := hu
  have hu2 : (u2 == 0) = false := by simpa using hu
  go_enter Try.func132, Try.ntmps132
  go_wp2_with (first
    | (go_at_call 154; refine (hcut _).mono ?_; rintro e w0 ⟨rfl, hb0⟩
       have hbx0 := box_kept hb0
       have hs0 := hb0.size
       have hlt00 : w.heap.size < w0.heap.size := by simp at hs0; omega)
    | (go_at_call 78; refine (htok _).mono ?_; rintro e w' ⟨rfl, rfl⟩)
    | (go_at_call 79; refine (w_Lower n (by omega) _).mono ?_; rintro e w1 ⟨rfl, hb1⟩
       have hbx := (hb1.block _ hlt00).trans hbx0
       have hs1 := hb1.size
       have hlt0 : w.heap.size < w1.heap.size := by omega
       have q0 : w1.cell? ⟨w.heap.size, 0, none⟩ = some (S []) := by rw [Lib.cell_of_heap hbx]; rfl
       have r0 : w1.frozen? ⟨w.heap.size, 0, none⟩ = false := Lib.frozen_of_heap hbx 0
       have q1 : w1.cell? ⟨w.heap.size, 1, none⟩ = some (.bool false) := by rw [Lib.cell_of_heap hbx]; rfl
       have r1 : w1.frozen? ⟨w.heap.size, 1, none⟩ = false := Lib.frozen_of_heap hbx 1
       have q2 : w1.cell? ⟨w.heap.size, 2, none⟩ = some (S []) := by rw [Lib.cell_of_heap hbx]; rfl
       have r2 : w1.frozen? ⟨w.heap.size, 2, none⟩ = false := Lib.frozen_of_heap hbx 2)
    | (go_at_call 155; refine (hunq _).mono ?_; rintro e w2 ⟨rfl, hb2⟩
       have hbxA : (w1.alloc (.cells #[S (lowL n), .bool true, S g] 166)).heap[w.heap.size]? = some (.cells #[S [], .bool false, S []] 166 (0, 0)) := (Below.heap_alloc _ _ _ hlt0).trans hbx
       have hbx2 := (hb2.block _ (by simp; omega)).trans hbxA
       have hbx3 := box_kept hb2
       have hs2 := hb2.size
       have hlt2 : w1.heap.size < w2.heap.size := by simp at hs2; omega
       have hlt3 : w.heap.size < w2.heap.size := by omega
       have qa0 : w2.cell? ⟨w.heap.size, 0, none⟩ = some (S []) := by rw [Lib.cell_of_heap hbx2]; rfl
       have ra0 : w2.frozen? ⟨w.heap.size, 0, none⟩ = false := Lib.frozen_of_heap hbx2 0
       have qa1 : w2.cell? ⟨w.heap.size, 1, none⟩ = some (.bool false) := by rw [Lib.cell_of_heap hbx2]; rfl
       have ra1 : w2.frozen? ⟨w.heap.size, 1, none⟩ = false := Lib.frozen_of_heap hbx2 1
       have qa2 : w2.cell? ⟨w.heap.size, 2, none⟩ = some (S []) := by rw [Lib.cell_of_heap hbx2]; rfl
       have ra2 : w2.frozen? ⟨w.heap.size, 2, none⟩ = false := Lib.frozen_of_heap hbx2 2
       have qb0 : w2.cell? ⟨w1.heap.size, 0, none⟩ = some (S (lowL n)) := by rw [Lib.cell_of_heap hbx3]; rfl
       have rb0 : w2.frozen? ⟨w1.heap.size, 0, none⟩ = false := Lib.frozen_of_heap hbx3 0
       have qb1 : w2.cell? ⟨w1.heap.size, 1, none⟩ = some (.bool true) := by rw [Lib.cell_of_heap hbx3]; rfl
       have rb1 : w2.frozen? ⟨w1.heap.size, 1, none⟩ = false := Lib.frozen_of_heap hbx3 1
       have qb2 : w2.cell? ⟨w1.heap.size, 2, none⟩ = some (S g) := by rw [Lib.cell_of_heap hbx3]; rfl
       have rb2 : w2.frozen? ⟨w1.heap.size, 2, none⟩ = false := Lib.frozen_of_heap hbx3 2))
  refine bodyPost_ret (results_box2 (by rfl) _ _ w.heap.size [S (lowL n), .bool true, S g] _ (by rfl) (stored3 qa0 qa1 qa2) Try.underlying166 (by rfl) (by kernel_rfl)) rfl ?_

  refine ⟨rfl, below_stored3 ((((((Below.refl w.heap.size w).alloc (Nat.le_refl _) _).trans (hb0.mono (by simp))).trans (hb1.mono (by omega))).alloc (by omega) _).trans (hb2.mono (by simp; omega))) (Nat.le_refl _)⟩


theorem w_dir (t : List UInt8) (ht : t.length ≤ 1000) (w : World) :
    Calls Try.prog 132 #[S t] w fun e w' => e = .returned (.tuple #[dirV2 (dirR t).1, .bool (dirR t).2]) ∧ Below w.heap.size w w' := by
  rcases ixb t 61 with h | ⟨k, h, hk⟩
  · rw [dirR_no h]
    exact w_dir_no t ht h w
  · rw [dirR_at h]
    unfold dirAt
    cases ha : isTok (t.drop (k + 1))
    · by_cases hu : (unqAll (t.drop (k + 1))).2 = 0
      · rw [if_neg (by simp), if_pos hu]
        exact w_dir_unq t ht k h hk ha hu w
      · rw [if_neg (by simp), if_neg hu]
        exact w_dir_bad t ht k h hk ha hu w
    · rw [if_pos rfl]
      exact w_dir_tok t ht k h hk ha w
end Go.Proofs.Ytmhhjmncbclihaa
