/- Walks: a name's closure; the list's functions at it. -/
import Derived.Test.YtmhhjmncbclihaaWLow
import Derived.Deep.RegionWith
import Derived.Lib.Builder
import Derived.Deep.QuietTactic
import Derived.BigQuiet
namespace Go.Proofs.Ytmhhjmncbclihaa
open Go.RowKit Go.Larder
set_option linter.unusedVariables false
set_option linter.unusedSimpArgs false

/-- A block that was laid ahead of a call is as it was. -/
theorem box_kept {w w1 : World} {cs : Array Value} {e : TypeId} (hb : Below (w.alloc (.cells cs e)).heap.size (w.alloc (.cells cs e)) w1) :
    w1.heap[w.heap.size]? = some (.cells cs e (0, 0)) := (hb.block _ (by simp)).trans (by show (w.heap.push _)[w.heap.size]? = _; simp)

/-- The closure's value: it has captured the name's box. -/
def NamedAt (w : World) (B : Nat) (nm : List UInt8) (v : Value) : Prop := ∃ b, v = .func (.func 126) #[] #[.pointer (some ⟨b, 0, none⟩)] ∧ b < B ∧ w.cell? ⟨b, 0, none⟩ = some (S nm)

theorem NamedAt.below {w w' : World} {B B' : Nat} {nm : List UInt8} {v : Value} (h : NamedAt w B nm v) (hb : Below B' w w') (hB : B ≤ B') : NamedAt w' B nm v := by
  obtain ⟨b, h1, h2, h3⟩ := h
  exact ⟨b, h1, h2, (hb.cell (p := ⟨b, 0, none⟩) (by show b < B'; omega)).trans h3⟩

set_option maxHeartbeats 1000000 in
theorem w_named (l : List UInt8) (hl : l.length ≤ 140737488351232) (w : World) :
    Calls Try.prog 102 #[S l] w (fun e w' => (∃ b, e = .returned (.func (.func 126) #[] #[.pointer (some ⟨b, 0, none⟩)]) ∧ w.heap.size ≤ b ∧ b < w'.heap.size ∧ w'.cell? ⟨b, 0, none⟩ = some (S (lowL l))) ∧ Below w.heap.size w w') := by
  go_enter Try.func102, Try.ntmps102
  go_wp2_with (go_at_call 79; refine (w_Lower l hl _).mono ?_; rintro e w1 ⟨rfl, hb⟩
               have hbx := box_kept hb
               have hc1 : w1.cell? ⟨w.heap.size, 0, none⟩ = some (S l) := by rw [Lib.cell_of_heap hbx]; rfl
               have hf1 : w1.frozen? ⟨w.heap.size, 0, none⟩ = false := Lib.frozen_of_heap hbx 0)
  go_ret
  have hb2 := ((Below.refl w.heap.size w).alloc (Nat.le_refl _) _).trans (hb.mono (by simp))
  have hlt : w.heap.size < w1.heap.size := by have := hb.size; simp at this; omega
  exact ⟨⟨_, rfl, Nat.le_refl _, by simpa using hlt, World.cell?_setCell_same _ _ _ hc1⟩, hb2.setCell (p := ⟨w.heap.size, 0, none⟩) (Nat.le_refl _) _⟩

set_option maxHeartbeats 1000000 in
theorem w_named1 (n v nm : List UInt8) (hn : n.length ≤ 140737488351232) (b : Nat) (w : World) (hbl : b < w.heap.size) (hc : w.cell? ⟨b, 0, none⟩ = some (S nm)) :
    Calls Try.prog 126 #[.agg #[S n, S v], .pointer (some ⟨b, 0, none⟩)] w (fun e w' => e = .returned (.bool (lowL n == nm)) ∧ Below w.heap.size w w') := by
  have hq : (w.alloc (Obj.cells #[S n, S v] 152)).cell? ⟨b, 0, none⟩ = some (S nm) := (World.cell?_alloc_lt _ _ _ hbl).trans hc
  go_enter Try.func126, Try.ntmps126
  go_wp2_with fail
  go_region_with (go_at_call 79; refine (w_Lower n hn _).mono ?_; rintro e w1 ⟨rfl, hb⟩
                  have hc2 : w1.cell? ⟨b, 0, none⟩ = some (S nm) := (hb.cell (p := ⟨b, 0, none⟩) (by show b < (w.heap.push _).size; simp; omega)).trans hq)
  all_goals
    go_wp2
    go_ret
    exact ⟨rfl, ((Below.refl w.heap.size w).alloc (Nat.le_refl _) _).drew.trans (hb.mono (by show w.heap.size ≤ (w.heap.push _).size; simp))⟩
end Go.Proofs.Ytmhhjmncbclihaa
