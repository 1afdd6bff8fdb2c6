/- WDir, WCtlP -/
import Derived.Test.YtemjoiaapfhenaaGreatDoorGd07
import Derived.Test.YtemjoiaapfhenaaGreatDoorGd02
import Derived.Test.YtemjoiaapfhenaaGreatDoorGd00
import Derived.Deep.RegionWith
import Derived.Deep.QuietTactic
import Derived.BigQuiet

/- WDir -/
section
namespace Go.Proofs.YtemjoiaapfhenaaGreatDoor
open Go.RowKit Go.Larder
set_option linter.unusedVariables false
set_option linter.unusedSimpArgs false

abbrev dirV2 (d : Dir) : Value := .agg #[S d.1, .bool d.2.1, S d.2.2]

set_option maxHeartbeats 4000000 in
theorem w_dir_no (t : List UInt8) (ht : t.length ≤ 1000) (h : Lib.indexByte t 61 = -1) (w : World) :
    Calls Tryz.prog 119 #[S t] w fun e w' => e = .returned (.tuple #[dirV2 (lowL t, false, []), .bool (isTok t)]) ∧ Below w.heap.size w w' := by
  go_enter Tryz.func119, Tryz.ntmps119
  go_wp2_with (first
    | (go_at_call 117; refine (w_Cut_no t 61 h _).mono ?_; rintro e w' ⟨rfl, rfl⟩)
    | (go_at_call 168; refine (w_Lower t (by omega) _).mono ?_; rintro e w1 ⟨rfl, hb1⟩
       have hbx := box_kept hb1
       have hs1 := hb1.size
       have hlt0 : w.heap.size < w1.heap.size := by simp at hs1; omega
       have q0 : w1.cell? ⟨w.heap.size, 0, none⟩ = some (S []) := by rw [Lib.cell_of_heap hbx]; rfl
       have r0 : w1.frozen? ⟨w.heap.size, 0, none⟩ = false := Lib.frozen_of_heap hbx 0
       have q1 : w1.cell? ⟨w.heap.size, 1, none⟩ = some (.bool false) := by rw [Lib.cell_of_heap hbx]; rfl
       have r1 : w1.frozen? ⟨w.heap.size, 1, none⟩ = false := Lib.frozen_of_heap hbx 1
       have q2 : w1.cell? ⟨w.heap.size, 2, none⟩ = some (S []) := by rw [Lib.cell_of_heap hbx]; rfl
       have r2 : w1.frozen? ⟨w.heap.size, 2, none⟩ = false := Lib.frozen_of_heap hbx 2))
  go_region_with (go_at_call 169; refine (w_IsToken t (by omega) _).mono ?_; rintro e w' ⟨rfl, rfl⟩)
  all_goals go_wp2
  all_goals
    refine bodyPost_ret (results_box2 (by rfl) _ _ w.heap.size [S (lowL t), .bool false, S []] _ (by rfl) (fun j v hv => (World.cell?_alloc_lt _ _ _ (by simpa using hlt0)).trans (stored3 q0 q1 q2 j v hv)) Tryz.underlying95 (by rfl) (by kernel_rfl)) rfl ?_
    refine ⟨rfl, Below.drew ((below_stored3 (((Below.refl _ _).alloc (Nat.le_refl _) _).trans (hb1.mono (by simp))) (Nat.le_refl _)).alloc (by simp; omega) _)⟩

set_option maxHeartbeats 4000000 in
theorem w_dir_tok (t : List UInt8) (ht : t.length ≤ 1000) (k : Nat) (h : Lib.indexByte t 61 = (k : Int)) (hk : k < t.length) (ha : isTok (t.drop (k + 1)) = true) (w : World) :
    Calls Tryz.prog 119 #[S t] w fun e w' => e = .returned (.tuple #[dirV2 (lowL (t.take k), true, t.drop (k + 1)), .bool (isTok (t.take k))]) ∧ Below w.heap.size w w' := by
  have hcut := fun w => w_Cut_at t 61 k h hk (by omega) w
  have hn : (t.take k).length ≤ 1000 := by rw [List.length_take]; omega
  have hg : (t.drop (k + 1)).length ≤ 1000 := by rw [List.length_drop]; omega
  generalize t.take k = n at hcut hn ⊢
  generalize t.drop (k + 1) = g at hcut hg ha ⊢
  have htok := w_IsToken g (by omega)
  rw [ha] at htok
  go_enter Tryz.func119, Tryz.ntmps119
  go_wp2_with (first
    | (go_at_call 117; refine (hcut _).mono ?_; rintro e w0 ⟨rfl, hb0⟩
       have hbx0 := box_kept hb0
       have hs0 := hb0.size
       have hlt00 : w.heap.size < w0.heap.size := by simp at hs0; omega)
    | (go_at_call 169; refine (htok _).mono ?_; rintro e w' ⟨rfl, rfl⟩)
    | (go_at_call 168; refine (w_Lower n (by omega) _).mono ?_; rintro e w1 ⟨rfl, hb1⟩
       have hbx := (hb1.block _ hlt00).trans hbx0
       have hs1 := hb1.size
       have hlt0 : w.heap.size < w1.heap.size := by omega
       have q0 : w1.cell? ⟨w.heap.size, 0, none⟩ = some (S []) := by rw [Lib.cell_of_heap hbx]; rfl
       have r0 : w1.frozen? ⟨w.heap.size, 0, none⟩ = false := Lib.frozen_of_heap hbx 0
       have q1 : w1.cell? ⟨w.heap.size, 1, none⟩ = some (.bool false) := by rw [Lib.cell_of_heap hbx]; rfl
       have r1 : w1.frozen? ⟨w.heap.size, 1, none⟩ = false := Lib.frozen_of_heap hbx 1
       have q2 : w1.cell? ⟨w.heap.size, 2, none⟩ = some (S []) := by rw [Lib.cell_of_heap hbx]; rfl
       have r2 : w1.frozen? ⟨w.heap.size, 2, none⟩ = false := Lib.frozen_of_heap hbx 2))
  go_region_with (go_at_call 169; refine (w_IsToken n (by omega) _).mono ?_; rintro e w' ⟨rfl, rfl⟩)
  all_goals go_wp2
  all_goals
    refine bodyPost_ret (results_box2 (by rfl) _ _ w.heap.size [S (lowL n), .bool true, S g] _ (by rfl) (fun j v hv => (World.cell?_alloc_lt _ _ _ (by simpa using hlt0)).trans (stored3 q0 q1 q2 j v hv)) Tryz.underlying95 (by rfl) (by kernel_rfl)) rfl ?_
    refine ⟨rfl, Below.drew ((below_stored3 ((((Below.refl w.heap.size w).alloc (Nat.le_refl _) _).trans (hb0.mono (by simp))).trans (hb1.mono (by omega))) (Nat.le_refl _)).alloc (by simp; omega) _)⟩

set_option maxHeartbeats 4000000 in
theorem w_dir_unq (t : List UInt8) (ht : t.length ≤ 1000) (k : Nat) (h : Lib.indexByte t 61 = (k : Int)) (hk : k < t.length) (ha : isTok (t.drop (k + 1)) = false) (hu : (unqAll (t.drop (k + 1))).2 = 0) (w : World) :
    Calls Tryz.prog 119 #[S t] w fun e w' => e = .returned (.tuple #[dirV2 (lowL (t.take k), true, (unqAll (t.drop (k + 1))).1), .bool (isTok (t.take k))]) ∧ Below w.heap.size w w' := by
  have hcut := fun w => w_Cut_at t 61 k h hk (by omega) w
  have hn : (t.take k).length ≤ 1000 := by rw [List.length_take]; omega
  have hg : (t.drop (k + 1)).length ≤ 1000 := by rw [List.length_drop]; omega
  generalize t.take k = n at hcut hn ⊢
  generalize t.drop (k + 1) = g at hcut hg ha hu ⊢
  have htok := w_IsToken g (by omega)
  rw [ha] at htok
  have hunq := w_UnqA g (by omega)
  have hul := unqAll_len g
  generalize unqAll g = u at hunq hu hul ⊢
  obtain ⟨u1, u2⟩ := u
  have hu : u2 = 0 := hu
  subst hu
  go_enter Tryz.func119, Tryz.ntmps119
  go_wp2_with (first
    | (go_at_call 117; refine (hcut _).mono ?_; rintro e w0 ⟨rfl, hb0⟩
       have hbx0 := box_kept hb0
       have hs0 := hb0.size
       have hlt00 : w.heap.size < w0.heap.size := by simp at hs0; omega)
    | (go_at_call 169; refine (htok _).mono ?_; rintro e w' ⟨rfl, rfl⟩)
    | (go_at_call 168; refine (w_Lower n (by omega) _).mono ?_; rintro e w1 ⟨rfl, hb1⟩
       have hbx := (hb1.block _ hlt00).trans hbx0
       have hs1 := hb1.size
       have hlt0 : w.heap.size < w1.heap.size := by omega
       have q0 : w1.cell? ⟨w.heap.size, 0, none⟩ = some (S []) := by rw [Lib.cell_of_heap hbx]; rfl
       have r0 : w1.frozen? ⟨w.heap.size, 0, none⟩ = false := Lib.frozen_of_heap hbx 0
       have q1 : w1.cell? ⟨w.heap.size, 1, none⟩ = some (.bool false) := by rw [Lib.cell_of_heap hbx]; rfl
       have r1 : w1.frozen? ⟨w.heap.size, 1, none⟩ = false := Lib.frozen_of_heap hbx 1
       have q2 : w1.cell? ⟨w.heap.size, 2, none⟩ = some (S []) := by rw [Lib.cell_of_heap hbx]; rfl
       have r2 : w1.frozen? ⟨w.heap.size, 2, none⟩ = false := Lib.frozen_of_heap hbx 2)
    | (go_at_call 43; refine (hunq _).mono ?_; rintro e w2 ⟨rfl, hb2⟩
       have hbxA : (w1.alloc (.cells #[S (lowL n), .bool true, S g] 95)).heap[w.heap.size]? = some (.cells #[S [], .bool false, S []] 95 (0, 0)) := (Below.heap_alloc _ _ _ hlt0).trans hbx
       have hbx2 := (hb2.block _ (by simp; omega)).trans hbxA
       have hbx3 := box_kept hb2
       have hs2 := hb2.size
       have hlt2 : w1.heap.size < w2.heap.size := by simp at hs2; omega
       have hlt3 : w.heap.size < w2.heap.size := by omega
       have qa0 : w2.cell? ⟨w.heap.size, 0, none⟩ = some (S []) := by rw [Lib.cell_of_heap hbx2]; rfl
       have ra0 : w2.frozen? ⟨w.heap.size, 0, none⟩ = false := Lib.frozen_of_heap hbx2 0
       have qa1 : w2.cell? ⟨w.heap.size, 1, none⟩ = some (.bool false) := by rw [Lib.cell_of_heap hbx2]; rfl
       have ra1 : w2.frozen? ⟨w.heap.size, 1, none⟩ = false := Lib.frozen_of_heap hbx2 1
       have qa2 : w2.cell? ⟨w.heap.size, 2, none⟩ = some (S []) := by rw [Lib.cell_of_heap hbx2]; rfl
       have ra2 : w2.frozen? ⟨w.heap.size, 2, none⟩ = false := Lib.frozen_of_heap hbx2 2
       have qb0 : w2.cell? ⟨w1.heap.size, 0, none⟩ = some (S (lowL n)) := by rw [Lib.cell_of_heap hbx3]; rfl
       have rb0 : w2.frozen? ⟨w1.heap.size, 0, none⟩ = false := Lib.frozen_of_heap hbx3 0
       have qb1 : w2.cell? ⟨w1.heap.size, 1, none⟩ = some (.bool true) := by rw [Lib.cell_of_heap hbx3]; rfl
       have rb1 : w2.frozen? ⟨w1.heap.size, 1, none⟩ = false := Lib.frozen_of_heap hbx3 1
       have qb2 : w2.cell? ⟨w1.heap.size, 2, none⟩ = some (S g) := by rw [Lib.cell_of_heap hbx3]; rfl
       have rb2 : w2.frozen? ⟨w1.heap.size, 2, none⟩ = false := Lib.frozen_of_heap hbx3 2))
  go_region_with (go_at_call 169; refine (w_IsToken n (by omega) _).mono ?_; rintro e w' ⟨rfl, rfl⟩)
  all_goals go_wp2
  all_goals
    have hq0 : (w2.setCell ⟨w1.heap.size, 2, none⟩ (S u1)).cell? ⟨w.heap.size, 0, none⟩ = some (S []) := by rw [World.cell?_setCell_other _ _ _ _ (by simp <;> omega)]; exact qa0
    have hq1 : (w2.setCell ⟨w1.heap.size, 2, none⟩ (S u1)).cell? ⟨w.heap.size, 1, none⟩ = some (.bool false) := by rw [World.cell?_setCell_other _ _ _ _ (by simp <;> omega)]; exact qa1
    have hq2 : (w2.setCell ⟨w1.heap.size, 2, none⟩ (S u1)).cell? ⟨w.heap.size, 2, none⟩ = some (S []) := by rw [World.cell?_setCell_other _ _ _ _ (by simp <;> omega)]; exact qa2
    refine bodyPost_ret (results_box2 (by rfl) _ _ w.heap.size [S (lowL n), .bool true, S u1] _ (by rfl) (stored3 hq0 hq1 hq2) Tryz.underlying95 (by rfl) (by kernel_rfl)) rfl ?_
    refine ⟨rfl, Below.drew (below_stored3 (((((((Below.refl w.heap.size w).alloc (Nat.le_refl _) _).trans (hb0.mono (by simp))).trans (hb1.mono (by omega))).alloc (by omega) _).trans (hb2.mono (by simp; omega))).setCell (p := ⟨w1.heap.size, 2, none⟩) (by show w.heap.size ≤ w1.heap.size; omega) _) (Nat.le_refl _))⟩

set_option maxHeartbeats 4000000 in
theorem w_dir_bad (t : List UInt8) (ht : t.length ≤ 1000) (k : Nat) (h : Lib.indexByte t 61 = (k : Int)) (hk : k < t.length) (ha : isTok (t.drop (k + 1)) = false) (hu : (unqAll (t.drop (k + 1))).2 ≠ 0) (w : World) :
    Calls Tryz.prog 119 #[S t] w fun e w' => e = .returned (.tuple #[dirV2 (lowL (t.take k), true, t.drop (k + 1)), .bool (false)]) ∧ Below w.heap.size w w' := by
  have hcut := fun w => w_Cut_at t 61 k h hk (by omega) w
  have hn : (t.take k).length ≤ 1000 := by rw [List.length_take]; omega
  have hg : (t.drop (k + 1)).length ≤ 1000 := by rw [List.length_drop]; omega
  generalize t.take k = n at hcut hn ⊢
  generalize t.drop (k + 1) = g at hcut hg ha hu ⊢
  have htok := w_IsToken g (by omega)
  rw [ha] at htok
  have hunq := w_UnqA g (by omega)
  have hul := unqAll_len g
  generalize unqAll g = u at hunq hu hul ⊢
  obtain ⟨u1, u2⟩ := u
  have hu : u2 ≠ 0 := hu
  have hu2 : (u2 == 0) = false := by simpa using hu
  go_enter Tryz.func119, Tryz.ntmps119
  go_wp2_with (first
    | (go_at_call 117; refine (hcut _).mono ?_; rintro e w0 ⟨rfl, hb0⟩
       have hbx0 := box_kept hb0
       have hs0 := hb0.size
       have hlt00 : w.heap.size < w0.heap.size := by simp at hs0; omega)
    | (go_at_call 169; refine (htok _).mono ?_; rintro e w' ⟨rfl, rfl⟩)
    | (go_at_call 168; refine (w_Lower n (by omega) _).mono ?_; rintro e w1 ⟨rfl, hb1⟩
       have hbx := (hb1.block _ hlt00).trans hbx0
       have hs1 := hb1.size
       have hlt0 : w.heap.size < w1.heap.size := by omega
       have q0 : w1.cell? ⟨w.heap.size, 0, none⟩ = some (S []) := by rw [Lib.cell_of_heap hbx]; rfl
       have r0 : w1.frozen? ⟨w.heap.size, 0, none⟩ = false := Lib.frozen_of_heap hbx 0
       have q1 : w1.cell? ⟨w.heap.size, 1, none⟩ = some (.bool false) := by rw [Lib.cell_of_heap hbx]; rfl
       have r1 : w1.frozen? ⟨w.heap.size, 1, none⟩ = false := Lib.frozen_of_heap hbx 1
       have q2 : w1.cell? ⟨w.heap.size, 2, none⟩ = some (S []) := by rw [Lib.cell_of_heap hbx]; rfl
       have r2 : w1.frozen? ⟨w.heap.size, 2, none⟩ = false := Lib.frozen_of_heap hbx 2)
    | (go_at_call 43; refine (hunq _).mono ?_; rintro e w2 ⟨rfl, hb2⟩
       have hbxA : (w1.alloc (.cells #[S (lowL n), .bool true, S g] 95)).heap[w.heap.size]? = some (.cells #[S [], .bool false, S []] 95 (0, 0)) := (Below.heap_alloc _ _ _ hlt0).trans hbx
       have hbx2 := (hb2.block _ (by simp; omega)).trans hbxA
       have hbx3 := box_kept hb2
       have hs2 := hb2.size
       have hlt2 : w1.heap.size < w2.heap.size := by simp at hs2; omega
       have hlt3 : w.heap.size < w2.heap.size := by omega
       have qa0 : w2.cell? ⟨w.heap.size, 0, none⟩ = some (S []) := by rw [Lib.cell_of_heap hbx2]; rfl
       have ra0 : w2.frozen? ⟨w.heap.size, 0, none⟩ = false := Lib.frozen_of_heap hbx2 0
       have qa1 : w2.cell? ⟨w.heap.size, 1, none⟩ = some (.bool false) := by rw [Lib.cell_of_heap hbx2]; rfl
       have ra1 : w2.frozen? ⟨w.heap.size, 1, none⟩ = false := Lib.frozen_of_heap hbx2 1
       have qa2 : w2.cell? ⟨w.heap.size, 2, none⟩ = some (S []) := by rw [Lib.cell_of_heap hbx2]; rfl
       have ra2 : w2.frozen? ⟨w.heap.size, 2, none⟩ = false := Lib.frozen_of_heap hbx2 2
       have qb0 : w2.cell? ⟨w1.heap.size, 0, none⟩ = some (S (lowL n)) := by rw [Lib.cell_of_heap hbx3]; rfl
       have rb0 : w2.frozen? ⟨w1.heap.size, 0, none⟩ = false := Lib.frozen_of_heap hbx3 0
       have qb1 : w2.cell? ⟨w1.heap.size, 1, none⟩ = some (.bool true) := by rw [Lib.cell_of_heap hbx3]; rfl
       have rb1 : w2.frozen? ⟨w1.heap.size, 1, none⟩ = false := Lib.frozen_of_heap hbx3 1
       have qb2 : w2.cell? ⟨w1.heap.size, 2, none⟩ = some (S g) := by rw [Lib.cell_of_heap hbx3]; rfl
       have rb2 : w2.frozen? ⟨w1.heap.size, 2, none⟩ = false := Lib.frozen_of_heap hbx3 2))
  refine bodyPost_ret (results_box2 (by rfl) _ _ w.heap.size [S (lowL n), .bool true, S g] _ (by rfl) (stored3 qa0 qa1 qa2) Tryz.underlying95 (by rfl) (by kernel_rfl)) rfl ?_

  refine ⟨rfl, below_stored3 ((((((Below.refl w.heap.size w).alloc (Nat.le_refl _) _).trans (hb0.mono (by simp))).trans (hb1.mono (by omega))).alloc (by omega) _).trans (hb2.mono (by simp; omega))) (Nat.le_refl _)⟩


theorem w_dir (t : List UInt8) (ht : t.length ≤ 1000) (w : World) :
    Calls Tryz.prog 119 #[S t] w fun e w' => e = .returned (.tuple #[dirV2 (dirR t).1, .bool (dirR t).2]) ∧ Below w.heap.size w w' := by
  rcases ixb t 61 with h | ⟨k, h, hk⟩
  · rw [dirR_no h]
    exact w_dir_no t ht h w
  · rw [dirR_at h]
    unfold dirAt
    cases ha : isTok (t.drop (k + 1))
    · by_cases hu : (unqAll (t.drop (k + 1))).2 = 0
      · rw [if_neg (by simp), if_pos hu]
        exact w_dir_unq t ht k h hk ha hu w
      · rw [if_neg (by simp), if_neg hu]
        exact w_dir_bad t ht k h hk ha hu w
    · rw [if_pos rfl]
      exact w_dir_tok t ht k h hk ha w
end Go.Proofs.YtemjoiaapfhenaaGreatDoor
end

/- WCtlP -/
section
namespace Go.Proofs.YtemjoiaapfhenaaGreatDoor
open Go.RowKit Go.Larder
set_option linter.unusedVariables false
set_option linter.unusedSimpArgs false

theorem splitE_ne {s : List UInt8} {n : Int} (h : splitE s = .error n) : n ≠ 0 := by
  unfold splitE at h
  split at h
  · injection h with h; omega
  · split at h
    · rename_i m hm
      injection h with h
      have := cutE_err 44 s m hm
      omega
    · split at h
      · injection h with h; omega
      · cases h
theorem sl_dir : SlT Tryz.prog 52 95 3 40 := SlT.mk' (z := .agg #[.string ByteArray.empty, .bool false, .string ByteArray.empty]) Tryz.underlying52 (by kernel_rfl) rfl

set_option maxHeartbeats 4000000 in
theorem w_CtlParse (s : List UInt8) (hs : s.length ≤ 140737488351232) (w : World) :
    Calls Tryz.prog 55 #[S s] w (SlPost encD 95 w (ctlE s)) := by
  obtain ⟨R, hR⟩ : ∃ R, R = ctlE s := ⟨_, rfl⟩
  rw [← hR]
  have HR := Lib.hid hR
  clear hR
  cases hsp : splitE s with
  | error n =>
    have hn : n ≠ 0 := splitE_ne hsp
    have hn2 : (n == 0) = false := by simpa using hn
    have HR2 := Lib.hid (show R = .error n from by rw [HR.out]; exact ctlE_err hsp)
    go_enter Tryz.func55, Tryz.ntmps55
    go_wp2_with fail
    refine (wt_Split s hs _).mono ?_
    intro e w1 hp1
    obtain ⟨rfl, hb1⟩ := hp1.err hsp
    go_wp2_with fail
    go_ret2
    rw [HR2.out]
    exact ⟨rfl, hb1⟩
  | ok l =>
    have hl20 := splitE_ok hsp
    have htx := splitE_text hsp
    go_enter Tryz.func55, Tryz.ntmps55
    go_wp2_with fail
    refine (wt_Split s hs _).mono ?_
    intro e w1 hp1
    obtain ⟨AL, cL, rfl, hownL, hb1⟩ := hp1.ok_ hsp
    have hs1 := hb1.size
    have Hread := Lib.hid (hownL.read)
    clear hownL
    go_wp2_with fail
    go_loopw [6, 21] (fun o i' wr => ∃ (k : Nat) (acc : List Dir) (A : Option Addr) (c : Nat), i' = .int .i64 k ∧ o = .slice A acc.length c ∧ k ≤ l.length ∧ acc.length ≤ k ∧
          OwnL encD wr w1.heap.size 95 A c acc ∧ Below w1.heap.size w1 wr ∧ dirsGo (l.drop k) acc = dirsGo l []) (fun _ i' _ => l.length - (intOf i').toNat)
    case atStart => exact ⟨0, [], none, 0, rfl, rfl, by omega, by simp, OwnL.nil _ _ _, Below.refl _ _, rfl⟩
    case round =>
      obtain ⟨k, acc, A, c, rfl, rfl, hk, hak, hown, hbel, heq⟩ := hrel
      have hbs := hbel.size
      by_cases hlt : k < l.length
      · obtain ⟨t, hx, hst⟩ := drop_step hlt
        have htl := htx t (List.mem_of_getElem? hx)
        obtain ⟨b, off, rfl, hbb, hcell⟩ := (Hread.out.below hbel (Nat.le_refl _)).at_S hx
        rw [hst, dirsGo] at heq
        have hdir := w_dir t htl
        generalize dirR t = d at hdir heq
        obtain ⟨⟨d1, d2, d3⟩, ok⟩ := d
        cases ok with
        | false =>
          rw [if_neg (by simp)] at heq
          have HR2 := Lib.hid (show R = .error 3 from by rw [HR.out]; exact ctlE_none hsp heq.symm)
          clear heq hx hst
          go_wp2_with (go_at_call 119; refine (hdir _).mono ?_; rintro e w2 ⟨rfl, hb2⟩)
          go_ret2
          rw [HR2.out]
          exact ⟨rfl, (hb1.trans (hbel.mono hs1)).trans ((hb2.mono (by omega)).alloc (by have := hb2.size; omega) _)⟩
        | true =>
          rw [if_pos rfl] at heq
          have Heq := Lib.hid heq
          clear heq hx hst
          go_wp2_with (first
            | (go_at_call 119; refine (hdir _).mono ?_; rintro e w2 ⟨rfl, hb2⟩
               have hs2 := hb2.size
               have hownB := (hown.below hb2 (Nat.le_refl _)).alloc (.cells #[S d1, .bool d2, S d3] 95))
            | (at_builtin; refine wpList_app encD sl_dir [(d1, d2, d3)] rfl _ _ rfl rfl hownB #[S d1, .bool d2, S d3] rfl 0 rfl (by first | rfl | (simp [go_sem]; done)) (by omega) (by simp only [maxLen]; omega) (by simp; omega) ?_; intro g' c'' w3 hown3 hg3 hb3 hbg))
          go_roundw
          case rel => exact ⟨k + 1, acc ++ [(d1, d2, d3)], some ⟨g', 0, none⟩, c'', by go_num, by simp, by omega, by simp; omega, hown3, ((hbel.trans (hb2.mono hbs)).alloc (by omega) _).trans hb3, Heq.out⟩
          case measure => simp [intOf]; omega
      · rw [drop_end hlt, dirsGo] at heq
        have HR2 := Lib.hid (show R = .ok acc from by rw [HR.out]; exact ctlE_some hsp heq.symm)
        clear heq
        go_wp2_with fail
        go_ret2
        rw [HR2.out]
        exact ⟨A, c, rfl, hown.base_le hs1, hb1.trans (hbel.mono hs1)⟩
end Go.Proofs.YtemjoiaapfhenaaGreatDoor
end
