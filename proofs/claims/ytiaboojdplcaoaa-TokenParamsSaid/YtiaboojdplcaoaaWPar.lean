/- Walk: one parameter. -/
import Derived.Test.YtiaboojdplcaoaaWCut1
import Derived.Test.YtiaboojdplcaoaaBox
import Derived.Test.YtiaboojdplcaoaaWSplit
import Derived.Test.YtiaboojdplcaoaaWNamed
import Derived.Test.YtiaboojdplcaoaaSpecPar
namespace Go.Proofs.Ytiaboojdplcaoaa
open Go.RowKit Go.Larder
set_option linter.unusedVariables false
set_option linter.unusedSimpArgs false

theorem stored2 {w : World} {g : Nat} {x y a b : Value} (h0 : w.cell? ⟨g, 0, none⟩ = some a) (h1 : w.cell? ⟨g, 1, none⟩ = some b) :
    ∀ j v, [x, y][j]? = some v → ((w.setCell ⟨g, 0, none⟩ x).setCell ⟨g, 1, none⟩ y).cell? ⟨g, j, none⟩ = some v := by
  intro j v hv
  have hj : j < [x, y].length := (List.getElem?_eq_some_iff.1 hv).1
  have := World.cell?_setCells_in g [x, y] 0 w (fun j hj => by
    rcases j with _ | _ | j
    · simp [h0]
    · simp [h1]
    · (simp at hj; omega)) j hj
  rw [Nat.zero_add] at this
  rw [(List.getElem?_eq_some_iff.1 hv).2] at this
  exact this
theorem below_stored2 {w0 w : World} {B g : Nat} {x y : Value} (h : Below B w0 w) (hB : B ≤ g) : Below B w0 ((w.setCell ⟨g, 0, none⟩ x).setCell ⟨g, 1, none⟩ y) :=
  (h.setCell (p := ⟨g, 0, none⟩) hB _).setCell (p := ⟨g, 1, none⟩) hB _

set_option maxHeartbeats 4000000 in
theorem w_param_no (t : List UInt8) (ht : t.length ≤ 1000) (h : Lib.indexByte t 61 = -1) (w : World) :
    Calls Try.prog 73 #[S t] w fun e w' => e = .returned (.tuple #[.agg #[S [], S []], .bool false]) ∧ Below w.heap.size w w' := by
  go_enter Try.func73, Try.ntmps73
  go_wp2_with (first
    | (go_at_call 96; refine (w_Cut_no t 61 h _).mono ?_; rintro e w' ⟨rfl, rfl⟩))
  refine bodyPost_ret (results_box2 (by rfl) _ _ w.heap.size [S [], S []] _ (by rfl) (fun j v hv => by rw [cell_of_row _ _ _ _ _ (0, 0) (heap_alloc_new w _)]; simpa using hv) Try.underlying45 (by rfl) (by kernel_rfl)) rfl ?_
  exact ⟨rfl, (Below.refl w.heap.size w).alloc (Nat.le_refl _) _⟩

set_option maxHeartbeats 4000000 in
theorem w_param_name (t : List UInt8) (ht : t.length ≤ 1000) (k : Nat) (h : Lib.indexByte t 61 = (k : Int)) (hk : k < t.length) (hn : isTok (t.take k) = false) (w : World) :
    Calls Try.prog 73 #[S t] w fun e w' => e = .returned (.tuple #[.agg #[S [], S []], .bool false]) ∧ Below w.heap.size w w' := by
  have hcut := fun w => w_Cut_at t 61 k h hk (by omega) w
  have hLn : (t.take k).length ≤ 140737488351232 := by rw [List.length_take]; omega
  have hLg : (t.drop (k + 1)).length ≤ 140737488351232 := by rw [List.length_drop]; omega
  generalize t.take k = n at *
  generalize t.drop (k + 1) = g at *
  go_enter Try.func73, Try.ntmps73
  go_wp2_with (first
    | (go_at_call 96; refine (hcut _).mono ?_; rintro e w0 ⟨rfl, hb0⟩
       have hbx0 := box_kept hb0
       have hs0 := hb0.size
       have hlt00 : w.heap.size < w0.heap.size := by simp at hs0; omega
       have q0 : w0.cell? ⟨w.heap.size, 0, none⟩ = some (S []) := by rw [Lib.cell_of_heap hbx0]; rfl
       have r0 : w0.frozen? ⟨w.heap.size, 0, none⟩ = false := Lib.frozen_of_heap hbx0 0
       have q1 : w0.cell? ⟨w.heap.size, 1, none⟩ = some (S []) := by rw [Lib.cell_of_heap hbx0]; rfl
       have r1 : w0.frozen? ⟨w.heap.size, 1, none⟩ = false := Lib.frozen_of_heap hbx0 1)
    | (go_at_call 12; refine (w_IsToken _ (by first | exact hLn | exact hLg) _).mono ?_; rintro e w' ⟨rfl, rfl⟩))
  refine bodyPost_ret (results_box2 (by rfl) _ _ w.heap.size [S [], S []] _ (by rfl) (stored2 q0 q1) Try.underlying45 (by rfl) (by kernel_rfl)) rfl ?_
  exact ⟨rfl, below_stored2 (((Below.refl w.heap.size w).alloc (Nat.le_refl _) _).trans (hb0.mono (by simp))) (Nat.le_refl _)⟩

set_option maxHeartbeats 4000000 in
theorem w_param_tok (t : List UInt8) (ht : t.length ≤ 1000) (k : Nat) (h : Lib.indexByte t 61 = (k : Int)) (hk : k < t.length) (hn : isTok (t.take k) = true) (ha : isTok (t.drop (k + 1)) = true) (w : World) :
    Calls Try.prog 73 #[S t] w fun e w' => e = .returned (.tuple #[.agg #[S (lowL (t.take k)), S (t.drop (k + 1))], .bool true]) ∧ Below w.heap.size w w' := by
  have hcut := fun w => w_Cut_at t 61 k h hk (by omega) w
  have hLn : (t.take k).length ≤ 140737488351232 := by rw [List.length_take]; omega
  have hLg : (t.drop (k + 1)).length ≤ 140737488351232 := by rw [List.length_drop]; omega
  generalize t.take k = n at *
  generalize t.drop (k + 1) = g at *
  go_enter Try.func73, Try.ntmps73
  go_wp2_with (first
    | (go_at_call 96; refine (hcut _).mono ?_; rintro e w0 ⟨rfl, hb0⟩
       have hbx0 := box_kept hb0
       have hs0 := hb0.size
       have hlt00 : w.heap.size < w0.heap.size := by simp at hs0; omega
       have q0 : w0.cell? ⟨w.heap.size, 0, none⟩ = some (S []) := by rw [Lib.cell_of_heap hbx0]; rfl
       have r0 : w0.frozen? ⟨w.heap.size, 0, none⟩ = false := Lib.frozen_of_heap hbx0 0
       have q1 : w0.cell? ⟨w.heap.size, 1, none⟩ = some (S []) := by rw [Lib.cell_of_heap hbx0]; rfl
       have r1 : w0.frozen? ⟨w.heap.size, 1, none⟩ = false := Lib.frozen_of_heap hbx0 1)
    | (go_at_call 12; refine (w_IsToken _ (by first | exact hLn | exact hLg) _).mono ?_; rintro e w' ⟨rfl, rfl⟩)
    | (go_at_call 14; refine (w_Lower n hLn _).mono ?_; rintro e w3 ⟨rfl, hb3⟩
       have hbx3 := (hb3.block _ hlt00).trans hbx0
       have hs3 := hb3.size
       have hlt3 : w.heap.size < w3.heap.size := by omega
       have qb0 : w3.cell? ⟨w.heap.size, 0, none⟩ = some (S []) := by rw [Lib.cell_of_heap hbx3]; rfl
       have rb0 : w3.frozen? ⟨w.heap.size, 0, none⟩ = false := Lib.frozen_of_heap hbx3 0
       have qb1 : w3.cell? ⟨w.heap.size, 1, none⟩ = some (S []) := by rw [Lib.cell_of_heap hbx3]; rfl
       have rb1 : w3.frozen? ⟨w.heap.size, 1, none⟩ = false := Lib.frozen_of_heap hbx3 1))
  refine bodyPost_ret (results_box2 (by rfl) _ _ w.heap.size [S (lowL n), S g] _ (by rfl) (stored2 qb0 qb1) Try.underlying45 (by rfl) (by kernel_rfl)) rfl ?_
  exact ⟨rfl, below_stored2 ((((Below.refl w.heap.size w).alloc (Nat.le_refl _) _).trans (hb0.mono (by simp))).trans (hb3.mono (by omega))) (Nat.le_refl _)⟩

set_option maxHeartbeats 4000000 in
theorem w_param_unq (t : List UInt8) (ht : t.length ≤ 1000) (k : Nat) (h : Lib.indexByte t 61 = (k : Int)) (hk : k < t.length) (hn : isTok (t.take k) = true) (ha : isTok (t.drop (k + 1)) = false) (hu : (unqAll (t.drop (k + 1))).2 = 0) (w : World) :
    Calls Try.prog 73 #[S t] w fun e w' => e = .returned (.tuple #[.agg #[S (lowL (t.take k)), S (unqAll (t.drop (k + 1))).1], .bool true]) ∧ Below w.heap.size w w' := by
  have hcut := fun w => w_Cut_at t 61 k h hk (by omega) w
  have hLn : (t.take k).length ≤ 140737488351232 := by rw [List.length_take]; omega
  have hLg : (t.drop (k + 1)).length ≤ 140737488351232 := by rw [List.length_drop]; omega
  generalize t.take k = n at *
  generalize t.drop (k + 1) = g at *
  have hunq := w_UnqA g hLg
  generalize unqAll g = u at *
  obtain ⟨u1, u2⟩ := u
  have hu : u2 = 0 := hu
  subst hu
  go_enter Try.func73, Try.ntmps73
  go_wp2_with (first
    | (go_at_call 96; refine (hcut _).mono ?_; rintro e w0 ⟨rfl, hb0⟩
       have hbx0 := box_kept hb0
       have hs0 := hb0.size
       have hlt00 : w.heap.size < w0.heap.size := by simp at hs0; omega
       have q0 : w0.cell? ⟨w.heap.size, 0, none⟩ = some (S []) := by rw [Lib.cell_of_heap hbx0]; rfl
       have r0 : w0.frozen? ⟨w.heap.size, 0, none⟩ = false := Lib.frozen_of_heap hbx0 0
       have q1 : w0.cell? ⟨w.heap.size, 1, none⟩ = some (S []) := by rw [Lib.cell_of_heap hbx0]; rfl
       have r1 : w0.frozen? ⟨w.heap.size, 1, none⟩ = false := Lib.frozen_of_heap hbx0 1)
    | (go_at_call 12; refine (w_IsToken _ (by first | exact hLn | exact hLg) _).mono ?_; rintro e w' ⟨rfl, rfl⟩)
    | (go_at_call 97; refine (hunq _).mono ?_; rintro e w2 ⟨rfl, hb2⟩
       have hbx2 := (hb2.block _ hlt00).trans hbx0
       have hs2 := hb2.size
       have hlt2 : w.heap.size < w2.heap.size := by omega
       have qa0 : w2.cell? ⟨w.heap.size, 0, none⟩ = some (S []) := by rw [Lib.cell_of_heap hbx2]; rfl
       have ra0 : w2.frozen? ⟨w.heap.size, 0, none⟩ = false := Lib.frozen_of_heap hbx2 0
       have qa1 : w2.cell? ⟨w.heap.size, 1, none⟩ = some (S []) := by rw [Lib.cell_of_heap hbx2]; rfl
       have ra1 : w2.frozen? ⟨w.heap.size, 1, none⟩ = false := Lib.frozen_of_heap hbx2 1)
    | (go_at_call 14; refine (w_Lower n hLn _).mono ?_; rintro e w3 ⟨rfl, hb3⟩
       have hbx3 := (hb3.block _ hlt2).trans hbx2
       have hs3 := hb3.size
       have hlt3 : w.heap.size < w3.heap.size := by omega
       have qb0 : w3.cell? ⟨w.heap.size, 0, none⟩ = some (S []) := by rw [Lib.cell_of_heap hbx3]; rfl
       have rb0 : w3.frozen? ⟨w.heap.size, 0, none⟩ = false := Lib.frozen_of_heap hbx3 0
       have qb1 : w3.cell? ⟨w.heap.size, 1, none⟩ = some (S []) := by rw [Lib.cell_of_heap hbx3]; rfl
       have rb1 : w3.frozen? ⟨w.heap.size, 1, none⟩ = false := Lib.frozen_of_heap hbx3 1))
  refine bodyPost_ret (results_box2 (by rfl) _ _ w.heap.size [S (lowL n), S u1] _ (by rfl) (stored2 qb0 qb1) Try.underlying45 (by rfl) (by kernel_rfl)) rfl ?_
  exact ⟨rfl, below_stored2 (((((Below.refl w.heap.size w).alloc (Nat.le_refl _) _).trans (hb0.mono (by simp))).trans (hb2.mono (by omega))).trans (hb3.mono (by omega))) (Nat.le_refl _)⟩

set_option maxHeartbeats 4000000 in
theorem w_param_bad (t : List UInt8) (ht : t.length ≤ 1000) (k : Nat) (h : Lib.indexByte t 61 = (k : Int)) (hk : k < t.length) (hn : isTok (t.take k) = true) (ha : isTok (t.drop (k + 1)) = false) (hu : (unqAll (t.drop (k + 1))).2 ≠ 0) (w : World) :
    Calls Try.prog 73 #[S t] w fun e w' => e = .returned (.tuple #[.agg #[S [], S []], .bool false]) ∧ Below w.heap.size w w' := by
  have hcut := fun w => w_Cut_at t 61 k h hk (by omega) w
  have hLn : (t.take k).length ≤ 140737488351232 := by rw [List.length_take]; omega
  have hLg : (t.drop (k + 1)).length ≤ 140737488351232 := by rw [List.length_drop]; omega
  generalize t.take k = n at *
  generalize t.drop (k + 1) = g at *
  have hunq := w_UnqA g hLg
  generalize unqAll g = u at *
  obtain ⟨u1, u2⟩ := u
  have hu : u2 ≠ 0 := hu
  have hu2 : (u2 == 0) = false := by simpa using hu
  go_enter Try.func73, Try.ntmps73
  go_wp2_with (first
    | (go_at_call 96; refine (hcut _).mono ?_; rintro e w0 ⟨rfl, hb0⟩
       have hbx0 := box_kept hb0
       have hs0 := hb0.size
       have hlt00 : w.heap.size < w0.heap.size := by simp at hs0; omega
       have q0 : w0.cell? ⟨w.heap.size, 0, none⟩ = some (S []) := by rw [Lib.cell_of_heap hbx0]; rfl
       have r0 : w0.frozen? ⟨w.heap.size, 0, none⟩ = false := Lib.frozen_of_heap hbx0 0
       have q1 : w0.cell? ⟨w.heap.size, 1, none⟩ = some (S []) := by rw [Lib.cell_of_heap hbx0]; rfl
       have r1 : w0.frozen? ⟨w.heap.size, 1, none⟩ = false := Lib.frozen_of_heap hbx0 1)
    | (go_at_call 12; refine (w_IsToken _ (by first | exact hLn | exact hLg) _).mono ?_; rintro e w' ⟨rfl, rfl⟩)
    | (go_at_call 97; refine (hunq _).mono ?_; rintro e w2 ⟨rfl, hb2⟩
       have hbx2 := (hb2.block _ hlt00).trans hbx0
       have hs2 := hb2.size
       have hlt2 : w.heap.size < w2.heap.size := by omega
       have qa0 : w2.cell? ⟨w.heap.size, 0, none⟩ = some (S []) := by rw [Lib.cell_of_heap hbx2]; rfl
       have ra0 : w2.frozen? ⟨w.heap.size, 0, none⟩ = false := Lib.frozen_of_heap hbx2 0
       have qa1 : w2.cell? ⟨w.heap.size, 1, none⟩ = some (S []) := by rw [Lib.cell_of_heap hbx2]; rfl
       have ra1 : w2.frozen? ⟨w.heap.size, 1, none⟩ = false := Lib.frozen_of_heap hbx2 1))
  refine bodyPost_ret (results_box2 (by rfl) _ _ w.heap.size [S [], S []] _ (by rfl) (stored2 qa0 qa1) Try.underlying45 (by rfl) (by kernel_rfl)) rfl ?_
  exact ⟨rfl, below_stored2 ((((Below.refl w.heap.size w).alloc (Nat.le_refl _) _).trans (hb0.mono (by simp))).trans (hb2.mono (by omega))) (Nat.le_refl _)⟩

def parV : Option Par → Value
  | none => .tuple #[.agg #[S [], S []], .bool false]
  | some p => .tuple #[.agg #[S p.1, S p.2], .bool true]
theorem w_param (t : List UInt8) (ht : t.length ≤ 1000) (w : World) :
    Calls Try.prog 73 #[S t] w fun e w' => e = .returned (parV (parR t)) ∧ Below w.heap.size w w' := by
  rcases ixb t 61 with h | ⟨k, h, hk⟩
  · rw [parR_no h]
    exact w_param_no t ht h w
  · rw [parR_at h]
    unfold parAt
    cases hn : isTok (t.take k)
    · rw [if_neg (by simp)]
      exact w_param_name t ht k h hk hn w
    · rw [if_pos rfl]
      cases ha : isTok (t.drop (k + 1))
      · rw [if_neg (by simp)]
        by_cases hu : (unqAll (t.drop (k + 1))).2 = 0
        · rw [if_pos hu]
          exact w_param_unq t ht k h hk hn ha hu w
        · rw [if_neg hu]
          exact w_param_bad t ht k h hk hn ha hu w
      · rw [if_pos rfl]
        exact w_param_tok t ht k h hk hn ha w
end Go.Proofs.Ytiaboojdplcaoaa
