/- Walks: directives: the first of a name; its seconds; the program's and the reference's. -/
import Derived.Test.YtmhhjmncbclihaaWIs
import Derived.Test.YtmhhjmncbclihaaEncD
import Derived.Test.YtmhhjmncbclihaaSpecs
import Derived.Test.YtmhhjmncbclihaaBox
import Derived.Deep.QuietTactic
import Derived.BigQuiet
namespace Go.Proofs.Ytmhhjmncbclihaa
open Go.RowKit Go.Larder
set_option linter.unusedVariables false
set_option linter.unusedSimpArgs false

abbrev dirV (d : Dir) : Value := .agg #[S d.1, .bool d.2.1, S d.2.2]

theorem findD_len {nm : List UInt8} : ∀ {l : List Dir}, (∀ d ∈ l, d.2.2.length ≤ 140737488351232) → (findD nm l).1.2.2.length ≤ 140737488351232
  | [], _ => by simp [findD]
  | d :: l, h => by
    unfold findD
    split
    · exact h d (by simp)
    · exact findD_len fun x hx => h x (by simp [hx])

set_option maxHeartbeats 1000000 in
theorem w_find (nm : List UInt8) (l : List Dir) (hl : l.length ≤ 140737488351232) (A : Option Addr) (c : Nat) (w : World) (hr : ReadL encD w w.heap.size A l) :
    Calls Try.prog 134 #[.slice A l.length c, S nm] w fun e w' => e = .returned (.tuple #[dirV (findD nm l).1, .bool (findD nm l).2]) ∧ Below w.heap.size w w' := by
  go_enter Try.func134, Try.ntmps134
  go_wp2_with fail
  have hres0 : (w.alloc (.cells #[S [], .bool false, S []] 166)).heap[w.heap.size]? = some (.cells #[S [], .bool false, S []] 166 (0, 0)) := by show (w.heap.push _)[w.heap.size]? = _; simp
  go_loopw [10] (fun i' wr => ∃ k : Nat, i' = .int .i64 k ∧ k ≤ l.length ∧ findD nm (l.drop k) = findD nm l ∧ Below w.heap.size w wr ∧ w.heap.size < wr.heap.size ∧ wr.heap[w.heap.size]? = some (.cells #[S [], .bool false, S []] 166 (0, 0))) (fun i' _ => l.length - (intOf i').toNat)
  case atStart => exact ⟨0, rfl, by omega, rfl, (Below.refl _ _).alloc (Nat.le_refl _) _, by simp, hres0⟩
  case round =>
    obtain ⟨k, rfl, hk, heq, hbel, hlt0, hres⟩ := hrel
    have hbs := hbel.size
    have q0 : wr.cell? ⟨w.heap.size, 0, none⟩ = some (S []) := by rw [Lib.cell_of_heap hres]; rfl
    have q1 : wr.cell? ⟨w.heap.size, 1, none⟩ = some (.bool false) := by rw [Lib.cell_of_heap hres]; rfl
    have q2 : wr.cell? ⟨w.heap.size, 2, none⟩ = some (S []) := by rw [Lib.cell_of_heap hres]; rfl
    have r0 : wr.frozen? ⟨w.heap.size, 0, none⟩ = false := Lib.frozen_of_heap hres 0
    have r1 : wr.frozen? ⟨w.heap.size, 1, none⟩ = false := Lib.frozen_of_heap hres 1
    have r2 : wr.frozen? ⟨w.heap.size, 2, none⟩ = false := Lib.frozen_of_heap hres 2
    by_cases hlt : k < l.length
    · obtain ⟨⟨n, b, a⟩, hfx, hs⟩ := drop_step hlt
      obtain ⟨g, off, rfl, hgb, hc0, hc1, hc2⟩ := (hr.below hbel (Nat.le_refl _)).at_D hfx
      rw [hs, findD] at heq
      cases hw : (n == nm)
      · rw [if_neg (by simp [hw])] at heq
        have Heq := Lib.hid heq; clear heq hs hfx
        go_wp2_with fail
        go_roundw
        case rel => exact ⟨k + 1, by go_num, by omega, Heq.out, hbel.alloc hbs _, by simp; omega, (Below.heap_alloc _ _ _ hlt0).trans hres⟩
        case measure => simp [intOf]; omega
      · rw [if_pos hw] at heq
        have Heq := Lib.hid heq; clear heq hs hfx
        go_wp2_with fail
        refine bodyPost_ret (results_box2 (by rfl) _ _ w.heap.size [S n, .bool b, S a] _ (by rfl) (fun j v hv => (World.cell?_alloc_lt _ _ _ (by simpa using hlt0)).trans (stored3 q0 q1 q2 j v hv)) Try.underlying166 (by rfl) (by kernel_rfl)) rfl ?_
        rw [← Heq.out]
        exact ⟨rfl, (below_stored3 hbel (Nat.le_refl _)).alloc (by simp; omega) _⟩
    · rw [drop_end hlt, findD] at heq
      have Heq := Lib.hid heq; clear heq
      go_wp2_with fail
      refine bodyPost_ret (results_box2 (by rfl) _ _ w.heap.size [S [], .bool false, S []] _ (by rfl) (stored3 q0 q1 q2) Try.underlying166 (by rfl) (by kernel_rfl)) rfl ?_
      rw [← Heq.out]
      exact ⟨rfl, below_stored3 hbel (Nat.le_refl _)⟩

set_option maxHeartbeats 1000000 in
theorem w_findR (nm : List UInt8) (l : List Dir) (hl : l.length ≤ 140737488351232) (A : Option Addr) (c : Nat) (w : World) (hr : ReadL encD w w.heap.size A l) :
    Calls Try.prog 118 #[.slice A l.length c, S nm] w fun e w' => e = .returned (.tuple #[dirV (findD nm l).1, .bool (findD nm l).2]) ∧ Below w.heap.size w w' := by
  go_enter Try.func118, Try.ntmps118
  go_wp2_with fail
  have hres0 : (w.alloc (.cells #[S [], .bool false, S []] 166)).heap[w.heap.size]? = some (.cells #[S [], .bool false, S []] 166 (0, 0)) := by show (w.heap.push _)[w.heap.size]? = _; simp
  go_loopw [10] (fun i' wr => ∃ k : Nat, i' = .int .i64 k ∧ k ≤ l.length ∧ findD nm (l.drop k) = findD nm l ∧ Below w.heap.size w wr ∧ w.heap.size < wr.heap.size ∧ wr.heap[w.heap.size]? = some (.cells #[S [], .bool false, S []] 166 (0, 0))) (fun i' _ => l.length - (intOf i').toNat)
  case atStart => exact ⟨0, rfl, by omega, rfl, (Below.refl _ _).alloc (Nat.le_refl _) _, by simp, hres0⟩
  case round =>
    obtain ⟨k, rfl, hk, heq, hbel, hlt0, hres⟩ := hrel
    have hbs := hbel.size
    have q0 : wr.cell? ⟨w.heap.size, 0, none⟩ = some (S []) := by rw [Lib.cell_of_heap hres]; rfl
    have q1 : wr.cell? ⟨w.heap.size, 1, none⟩ = some (.bool false) := by rw [Lib.cell_of_heap hres]; rfl
    have q2 : wr.cell? ⟨w.heap.size, 2, none⟩ = some (S []) := by rw [Lib.cell_of_heap hres]; rfl
    have r0 : wr.frozen? ⟨w.heap.size, 0, none⟩ = false := Lib.frozen_of_heap hres 0
    have r1 : wr.frozen? ⟨w.heap.size, 1, none⟩ = false := Lib.frozen_of_heap hres 1
    have r2 : wr.frozen? ⟨w.heap.size, 2, none⟩ = false := Lib.frozen_of_heap hres 2
    by_cases hlt : k < l.length
    · obtain ⟨⟨n, b, a⟩, hfx, hs⟩ := drop_step hlt
      obtain ⟨g, off, rfl, hgb, hc0, hc1, hc2⟩ := (hr.below hbel (Nat.le_refl _)).at_D hfx
      rw [hs, findD] at heq
      cases hw : (n == nm)
      · rw [if_neg (by simp [hw])] at heq
        have Heq := Lib.hid heq; clear heq hs hfx
        go_wp2_with fail
        go_roundw
        case rel => exact ⟨k + 1, by go_num, by omega, Heq.out, hbel.alloc hbs _, by simp; omega, (Below.heap_alloc _ _ _ hlt0).trans hres⟩
        case measure => simp [intOf]; omega
      · rw [if_pos hw] at heq
        have Heq := Lib.hid heq; clear heq hs hfx
        go_wp2_with fail
        refine bodyPost_ret (results_box2 (by rfl) _ _ w.heap.size [S n, .bool b, S a] _ (by rfl) (fun j v hv => (World.cell?_alloc_lt _ _ _ (by simpa using hlt0)).trans (stored3 q0 q1 q2 j v hv)) Try.underlying166 (by rfl) (by kernel_rfl)) rfl ?_
        rw [← Heq.out]
        exact ⟨rfl, (below_stored3 hbel (Nat.le_refl _)).alloc (by simp; omega) _⟩
    · rw [drop_end hlt, findD] at heq
      have Heq := Lib.hid heq; clear heq
      go_wp2_with fail
      refine bodyPost_ret (results_box2 (by rfl) _ _ w.heap.size [S [], .bool false, S []] _ (by rfl) (stored3 q0 q1 q2) Try.underlying166 (by rfl) (by kernel_rfl)) rfl ?_
      rw [← Heq.out]
      exact ⟨rfl, below_stored3 hbel (Nat.le_refl _)⟩
set_option maxHeartbeats 1000000 in
theorem w_Has (nm : List UInt8) (l : List Dir) (hl : l.length ≤ 140737488351232) (A : Option Addr) (c : Nat) (w : World) (hr : ReadL encD w w.heap.size A l) :
    Calls Try.prog 114 #[.slice A l.length c, S nm] w fun e w' => e = .returned (.bool (findD nm l).2) ∧ Below w.heap.size w w' := by
  go_enter Try.func114, Try.ntmps114
  go_wp2_with fail
  refine (w_find nm l hl A c _ hr).mono ?_
  rintro e w1 ⟨rfl, hb1⟩
  go_wp2_with fail
  go_ret
  exact ⟨rfl, hb1.alloc hb1.size _⟩

theorem digB (x : UInt8) (h : inTab tensTab x = true) : 48 ≤ x.toNat ∧ x.toNat ≤ 57 := by rw [tens_eq] at h; exact of_decide_eq_true h
theorem digN (x : UInt8) (h : inTab tensTab x = false) : ¬ (48 ≤ x.toNat ∧ x.toNat ≤ 57) := by rw [tens_eq] at h; exact of_decide_eq_false h
theorem secGo_cons (n : Int) (c : UInt8) (l : List UInt8) : secGo n (c :: l) = secGo (min (10 * n + (c.toNat - 48)) 2147483648) l := rfl

end Go.Proofs.Ytmhhjmncbclihaa
