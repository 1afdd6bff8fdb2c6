/- Walks: digests: a block of either kind; a new hash. -/
import Derived.Test.YtbchkaoocobpfaaDoorWDgB
import Derived.Test.YtbchkaoocobpfaaDoorWDgT
import Derived.Test.YtbchkaoocobpfaaDoorSpecs
namespace Go.Proofs.YtbchkaoocobpfaaDoor
open Go.RowKit Go.Larder
set_option linter.unusedVariables false
set_option linter.unusedSimpArgs false
theorem w_block (h : List Nat) (hh : OkV 8 h) (b : List UInt8) (hbl : b.length = 64) (A : Option Addr) (c : Nat) (many : Nat) (hm : many < 18446744073709551616) (last : Bool) (w : World) (hr : ReadL encB w w.heap.size A b) :
    Calls Tryd.prog 28 #[.agg (h.map U).toArray, .slice A 64 c, .int .u64 many, .bool last] w fun e w' => e = .returned (.agg ((blockN h b many last).map U).toArray) ∧ Below w.heap.size w w' := by
  cases last
  · exact w_block_false h hh b hbl A c many hm w hr
  · exact w_block_true h hh b hbl A c many hm w hr
/-- a hash that has taken 'all' in -/
structure HashAt (w : World) (gx base : Nat) (all : List UInt8) (h : List Nat) (many : Nat) (rest : List UInt8) (A : Option Addr) (c : Nat) : Prop where
  box : BoxAt w gx 63 (h.map U ++ [.slice A rest.length c, .int .u64 (many : Int)])
  own : OwnW w base 5 A c rest
  dg : DgAt all h many rest
theorem w_DNew (w : World) : Calls Tryd.prog 6 #[] w fun e w' => ∃ g, e = .returned (.pointer (some ⟨g, 0, none⟩)) ∧ w.heap.size ≤ g ∧ HashAt w' g w.heap.size [] startH 0 [] none 0 ∧ Below w.heap.size w w' := by
  have hiv : ∀ W, Calls Tryd.prog 27 #[] W fun e w' => e = .returned (.agg #[.int .u32 1779033703, .int .u32 3144134277, .int .u32 1013904242, .int .u32 2773480762, .int .u32 1359893119, .int .u32 2600822924, .int .u32 528734635, .int .u32 1541459225]) ∧ Below W.heap.size W w' := fun W => w_iv W
  have e0 : bits .xor .u32 1779033703 16842784 = 1795745351 := by decide
  go_enter Tryd.func6, Tryd.ntmps6
  go_wp2_with fail
  refine (hiv _).mono ?_
  rintro e w1 ⟨rfl, hb1⟩
  go_wp2_with fail
  go_ret
  have bx := BoxAt.new (w1.alloc (.cells #[.int .u32 1795745351, .int .u32 3144134277, .int .u32 1013904242, .int .u32 2773480762, .int .u32 1359893119, .int .u32 2600822924, .int .u32 528734635, .int .u32 1541459225] 58)) [.int .u32 1795745351, .int .u32 3144134277, .int .u32 1013904242, .int .u32 2773480762, .int .u32 1359893119, .int .u32 2600822924, .int .u32 528734635, .int .u32 1541459225, .slice none 0 0, .int .u64 0] 63
  rw [World.size_alloc] at bx
  have hB := (hb1.alloc hb1.size (.cells #[.int .u32 1795745351, .int .u32 3144134277, .int .u32 1013904242, .int .u32 2773480762, .int .u32 1359893119, .int .u32 2600822924, .int .u32 528734635, .int .u32 1541459225] 58)).alloc (by simp; have := hb1.size; omega) (.cells #[.int .u32 1795745351, .int .u32 3144134277, .int .u32 1013904242, .int .u32 2773480762, .int .u32 1359893119, .int .u32 2600822924, .int .u32 528734635, .int .u32 1541459225, .slice none 0 0, .int .u64 0] 63)
  exact ⟨w1.heap.size + 1, rfl, by have := hb1.size; omega, ⟨bx, OwnW.nil _ _ _, DgAt.start⟩, hB⟩
end Go.Proofs.YtbchkaoocobpfaaDoor
