/- Walks: cmp.Or at two numbers; the order of the ranges. -/
import Derived.Test.YtldlbfdfaigkcaaWMrgD
import Derived.Test.YtldlbfdfaigkcaaShelf
import Derived.Sort.Grow
import Derived.Lib.Small
import Derived.StillTailTactics
namespace Go.Larder
open Go.RowKit
set_option linter.unusedVariables false
set_option linter.unusedSimpArgs false
def cmpIv (x y : Iv) : Int := if Lib.compareInt x.1 y.1 = 0 then Lib.compareInt x.2 y.2 else Lib.compareInt x.1 y.1
theorem new_cell {W : World} {cs : Array Value} {e : TypeId} {n j : Nat} {v : Value} (hn : W.heap.size = n) (h : cs[j]? = some v) : (W.alloc (.cells cs e)).drew.cell? ⟨n, j, none⟩ = some v := by
  subst hn
  show (W.alloc (.cells cs e)).cell? _ = _
  rw [Lib.cell_of_heap (heap_alloc_new W (.cells cs e))]
  exact h
theorem new_cell2 {W : World} {cs : Array Value} {e : TypeId} {n j : Nat} {v : Value} (hn : W.heap.size = n) (h : cs[j]? = some v) : (W.alloc (.cells cs e)).cell? ⟨n, j, none⟩ = some v := by
  subst hn
  rw [Lib.cell_of_heap (heap_alloc_new W (.cells cs e))]
  exact h
end Go.Larder
namespace Go.Proofs.Ytldlbfdfaigkcaa
open Go.RowKit Go.Larder
set_option linter.unusedVariables false
set_option linter.unusedSimpArgs false
theorem w_cmpOr (a b : Int) (g : Nat) (w : World) (h0 : w.cell? ⟨g, 0, none⟩ = some (.int .i64 a)) (h1 : w.cell? ⟨g, 1, none⟩ = some (.int .i64 b)) :
    Calls Try.prog 35 #[.slice (some ⟨g, 0, none⟩) 2 2] w fun e w' => e = .returned (.int .i64 (if a = 0 then b else a)) ∧ w' = w := by
  go_enter Try.func35, Try.ntmps35
  go_wp2_with fail
  go_loopw [8] (fun i' wr => ∃ i : Nat, i' = .int .i64 i ∧ i ≤ 2 ∧ wr = w ∧ (0 < i → a = 0) ∧ (1 < i → b = 0)) (fun i' _ => 2 - (intOf i').toNat)
  case atStart => exact ⟨0, rfl, by omega, by trivial, by omega, by omega⟩
  case round =>
    obtain ⟨i, rfl, hi, rfl, ha0, hb0⟩ := hrel
    rcases (show i = 0 ∨ i = 1 ∨ i = 2 by omega) with rfl | rfl | rfl
    · by_cases ha : a = 0
      · go_wp2_with fail
        go_roundw
        case rel => exact ⟨1, by go_num, by omega, by trivial, fun _ => ha, by omega⟩
        case measure => simp [intOf]
      · have hq : (a == 0) = false := by simp [ha]
        go_wp2_with fail
        go_ret
        exact ⟨by simp [ha], by trivial⟩
    · have ha := ha0 (by omega)
      by_cases hb : b = 0
      · go_wp2_with fail
        go_roundw
        case rel => exact ⟨2, by go_num, by omega, by trivial, fun _ => ha, fun _ => hb⟩
        case measure => simp [intOf]
      · have hq : (b == 0) = false := by simp [hb]
        go_wp2_with fail
        go_ret
        exact ⟨by simp [ha], by trivial⟩
    · have ha := ha0 (by omega)
      have hb := hb0 (by omega)
      go_wp2_with fail
      go_ret
      exact ⟨by simp [ha, hb], by trivial⟩
set_option maxHeartbeats 400000 in
set_option maxRecDepth 20000 in
/-- The compare function: two boxes, a row of two: the world grows. -/
theorem w_m2 (x y : Iv) (w : World) : Calls Try.prog 34 #[.agg #[.int .i64 x.1, .int .i64 x.2], .agg #[.int .i64 y.1, .int .i64 y.2]] w fun e w' => e = .returned (.int .i64 (cmpIv x y)) ∧ ∃ q os', w' = Go.Sort.grow (w.drewN q) os' := by
  obtain ⟨r1, hr1⟩ : ∃ r, Lib.compareInt x.1 y.1 = r := ⟨_, rfl⟩
  obtain ⟨r2, hr2⟩ : ∃ r, Lib.compareInt x.2 y.2 = r := ⟨_, rfl⟩
  have c1 : ∀ W, Calls Try.prog 36 #[.int .i64 x.1, .int .i64 y.1] W fun e w' => e = .returned (.int .i64 r1) ∧ w' = W := fun W => by rw [← hr1]; exact Try.cmp_Compare_int x.1 y.1 W
  have c2 : ∀ W, Calls Try.prog 36 #[.int .i64 x.2, .int .i64 y.2] W fun e w' => e = .returned (.int .i64 r2) ∧ w' = W := fun W => by rw [← hr2]; exact Try.cmp_Compare_int x.2 y.2 W
  have hc : cmpIv x y = if r1 = 0 then r2 else r1 := by unfold cmpIv; rw [hr1, hr2]
  obtain ⟨r3, hr3⟩ : ∃ r, (if r1 = 0 then r2 else r1) = r := ⟨_, rfl⟩
  rw [hc, hr3]
  have c3 : ∀ g W, W.cell? ⟨g, 0, none⟩ = some (.int .i64 r1) → W.cell? ⟨g, 1, none⟩ = some (.int .i64 r2) → Calls Try.prog 35 #[.slice (some ⟨g, 0, none⟩) 2 2] W fun e w' => e = .returned (.int .i64 r3) ∧ w' = W := fun g W a b => by rw [← hr3]; exact w_cmpOr r1 r2 g W a b
  clear hc hr1 hr2 hr3
  obtain ⟨x1, x2⟩ := x
  obtain ⟨y1, y2⟩ := y
  simp only at c1 c2
  go_enter Try.func34, Try.ntmps34
  go_wp2_with fail
  have hs0 : w.heap.size + 1 = (w.alloc (.cells #[.int .i64 x1, .int .i64 x2] 52)).heap.size := by simp
  have k0 : ((w.alloc (.cells #[.int .i64 x1, .int .i64 x2] 52)).alloc (.cells #[.int .i64 y1, .int .i64 y2] 52)).cell? ⟨w.heap.size, 0, none⟩ = some (.int .i64 x1) := (World.cell?_alloc_lt _ _ _ (by simp)).trans (new_cell2 rfl rfl)
  have k1 : ((w.alloc (.cells #[.int .i64 x1, .int .i64 x2] 52)).alloc (.cells #[.int .i64 y1, .int .i64 y2] 52)).cell? ⟨w.heap.size, 1, none⟩ = some (.int .i64 x2) := (World.cell?_alloc_lt _ _ _ (by simp)).trans (new_cell2 rfl rfl)
  have k2 : ((w.alloc (.cells #[.int .i64 x1, .int .i64 x2] 52)).alloc (.cells #[.int .i64 y1, .int .i64 y2] 52)).cell? ⟨w.heap.size + 1, 0, none⟩ = some (.int .i64 y1) := new_cell2 hs0.symm rfl
  have k3 : ((w.alloc (.cells #[.int .i64 x1, .int .i64 x2] 52)).alloc (.cells #[.int .i64 y1, .int .i64 y2] 52)).cell? ⟨w.heap.size + 1, 1, none⟩ = some (.int .i64 y2) := new_cell2 hs0.symm rfl
  have hg : ∃ os', (w.alloc (.cells #[.int .i64 x1, .int .i64 x2] 52)).alloc (.cells #[.int .i64 y1, .int .i64 y2] 52) = Go.Sort.grow w os' := ⟨_, by rw [Go.Sort.alloc_eq_grow, Go.Sort.alloc_eq_grow, Go.Sort.grow_grow]⟩
  generalize (w.alloc (.cells #[.int .i64 x1, .int .i64 x2] 52)).alloc (.cells #[.int .i64 y1, .int .i64 y2] 52) = w1 at *
  clear hs0
  generalize w.heap.size = b0 at *
  refine wp_region_still_tail 10 (by kernel_rfl) (by kernel_rfl) ?_
  change wpStill _ _ w1.drew _ _ _
  have q0 : w1.drew.cell? _ = _ := k0
  have q1 : w1.drew.cell? _ = _ := k1
  have q2 : w1.drew.cell? _ = _ := k2
  have q3 : w1.drew.cell? _ = _ := k3
  generalize hw2 : w1.drew = w2 at *
  simp only [List.take_succ_cons, List.take_zero, List.drop_succ_cons, List.drop_zero]
  refine wpStill_step (fun K hK => ?_)
  go_simp
  try (simp only [q0, q1, q2, q3]; go_simp)
  refine hK _ ?_
  clear hK K
  refine wpStill_step (fun K hK => ?_)
  go_simp
  try (simp only [q0, q1, q2, q3]; go_simp)
  refine hK _ ?_
  clear hK K
  refine wpStill_step (fun K hK => ?_)
  go_simp
  try (simp only [q0, q1, q2, q3]; go_simp)
  refine hK _ ?_
  clear hK K
  refine wpStill_step (fun K hK => ?_)
  go_simp
  try (simp only [q0, q1, q2, q3]; go_simp)
  refine hK _ ?_
  clear hK K
  still_call (c1 _)
  refine wpStill_step (fun K hK => ?_)
  go_simp
  try (simp only [q0, q1, q2, q3]; go_simp)
  refine hK _ ?_
  clear hK K
  refine wpStill_step (fun K hK => ?_)
  go_simp
  try (simp only [q0, q1, q2, q3]; go_simp)
  refine hK _ ?_
  clear hK K
  refine wpStill_step (fun K hK => ?_)
  go_simp
  try (simp only [q0, q1, q2, q3]; go_simp)
  refine hK _ ?_
  clear hK K
  refine wpStill_step (fun K hK => ?_)
  go_simp
  try (simp only [q0, q1, q2, q3]; go_simp)
  refine hK _ ?_
  clear hK K
  still_call (c2 _)
  refine wpStill_nil ?_
  change wpList _ _ _ _ _ w1.drew
  rw [hw2]
  go_wp2_with (go_at_call 35; refine Calls.mono (c3 _ _ ?_ ?_) ?_; exact new_cell2 (by simp) rfl; exact new_cell2 (by simp) rfl; rintro e w2 ⟨rfl, rfl⟩)
  go_ret
  refine ⟨rfl, ?_⟩
  obtain ⟨os', hg⟩ := hg
  rw [← hw2, hg]
  exact ⟨1, _, by rw [Go.Sort.alloc_eq_grow]; show Go.Sort.grow (Go.Sort.grow w.drew os') _ = _; rw [Go.Sort.grow_grow]; rfl⟩
end Go.Proofs.Ytldlbfdfaigkcaa
