/- Walk: digests: the reference's word of a block. -/
import Derived.Test.YtbchkaoocobpfaaDoorSpecs
import Derived.Test.YtbchkaoocobpfaaDoorWDgM
import Derived.Test.YtbchkaoocobpfaaDoorWCutOne
namespace Go.Proofs.YtbchkaoocobpfaaDoor
open Go.RowKit Go.Larder
set_option linter.unusedVariables false
set_option linter.unusedSimpArgs false
theorem run_index_S {P : Program} (t : TypeId) (ht : P.underlying t = some .string) (b : List UInt8) (i : Int) (j : Nat) (hi : i = (j : Int)) (c : UInt8) (hj : b[j]? = some c) (w : World) : (Instr.index t (.string ⟨b.toArray⟩) (.int .i64 i)).run P w = .ok (.int .u8 (c.toNat : Int)) w := by
  subst hi
  have hl : j < b.length := (List.getElem?_eq_some_iff.1 hj).1
  rw [run_index_string w t _ _ _ ht, dif_pos (by rw [ba_size]; omega)]
  simp only [ba_get, Int.toNat_natCast]
  rw [(List.getElem?_eq_some_iff.1 hj).2]
abbrev digs : List UInt8 := [48, 49, 50, 51, 52, 53, 54, 55, 56, 57, 97, 98, 99, 100, 101, 102]
def hexc (x : Nat) : UInt8 := digs.getD x 0
theorem hexc_index : ∀ x, x < 16 → Lib.indexByte digs (hexc x) = (x : Int) := by decide
set_option maxHeartbeats 2000000 in
set_option maxRecDepth 100000 in
theorem w_word (line b : List UInt8) (k x gb : Nat) (hk : line[k]? = some (hexc x)) (hx : x < 16) (hb : b.length = 64) (w : World) (hc : w.cell? ⟨gb, 0, none⟩ = some (S b)) :
    Calls Tryd.prog 34 #[S line, .int .i64 k, .pointer (some ⟨gb, 0, none⟩)] w fun e w' => e = .returned (.int .u32 (wd b x : Nat)) ∧ Below w.heap.size w w' := by
  have hlk : k < line.length := (List.getElem?_eq_some_iff.1 hk).1
  have hg : ∀ h, line[k]'h = hexc x := fun h => by rw [List.getElem?_eq_getElem h] at hk; exact Option.some.inj hk
  have hix := fun W => c1_IndexByte digs (hexc x) W
  simp only [hexc_index x hx] at hix
  generalize hexc x = cx at *
  have h0 := fun W => run_index_S (P := Tryd.prog) 9 Tryd.underlying9 b (4 * (x : Int)) (4 * x) (by omega) (b.getD (4 * x) 0) (by rw [List.getD_eq_getElem?_getD, List.getElem?_eq_getElem (by omega)]; rfl) W
  have h1 := fun W => run_index_S (P := Tryd.prog) 9 Tryd.underlying9 b (4 * (x : Int) + 1) (4 * x + 1) (by omega) (b.getD (4 * x + 1) 0) (by rw [List.getD_eq_getElem?_getD, List.getElem?_eq_getElem (by omega)]; rfl) W
  have h2 := fun W => run_index_S (P := Tryd.prog) 9 Tryd.underlying9 b (4 * (x : Int) + 2) (4 * x + 2) (by omega) (b.getD (4 * x + 2) 0) (by rw [List.getD_eq_getElem?_getD, List.getElem?_eq_getElem (by omega)]; rfl) W
  have h3 := fun W => run_index_S (P := Tryd.prog) 9 Tryd.underlying9 b (4 * (x : Int) + 3) (4 * x + 3) (by omega) (b.getD (4 * x + 3) 0) (by rw [List.getD_eq_getElem?_getD, List.getElem?_eq_getElem (by omega)]; rfl) W
  have HW := Lib.hid (show wd b x = (b.getD (4 * x) 0).toNat + (b.getD (4 * x + 1) 0).toNat * 256 + (b.getD (4 * x + 2) 0).toNat * 65536 + (b.getD (4 * x + 3) 0).toNat * 16777216 from rfl)
  generalize b.getD (4 * x) 0 = c0 at *
  generalize b.getD (4 * x + 1) 0 = c1 at *
  generalize b.getD (4 * x + 2) 0 = c2 at *
  generalize b.getD (4 * x + 3) 0 = c3 at *
  have Hb := Lib.hid hb
  have hb4 : 4 * (x : Int) + 3 < (b.length : Int) := by omega
  clear hb hk
  go_enter Tryd.func34, Tryd.ntmps34
  go_wp2_with fail
  refine (hix _).mono ?_
  rintro e w1 ⟨rfl, rfl⟩
  have hw1 : IntKind.i64.wrap (4 * (x : Int) + 1) = 4 * (x : Int) + 1 := by simp [IntKind.wrap, IntKind.bits, IntKind.signed]; omega
  have hw2 : IntKind.i64.wrap (4 * (x : Int) + 2) = 4 * (x : Int) + 2 := by simp [IntKind.wrap, IntKind.bits, IntKind.signed]; omega
  have hw3 : IntKind.i64.wrap (4 * (x : Int) + 3) = 4 * (x : Int) + 3 := by simp [IntKind.wrap, IntKind.bits, IntKind.signed]; omega
  have ht0 : (4 * (x : Int)).toNat = 4 * x := by omega
  have ht1 : (4 * (x : Int) + 1).toNat = 4 * x + 1 := by omega
  have ht2 : (4 * (x : Int) + 2).toNat = 4 * x + 2 := by omega
  have ht3 : (4 * (x : Int) + 3).toNat = 4 * x + 3 := by omega
  have hb0 : (0 : Int) ≤ 4 * (x : Int) := by omega
  have hn0 : 4 * x < b.length := by omega
  have hn1 : 4 * x + 1 < b.length := by omega
  have hn2 : 4 * x + 2 < b.length := by omega
  have hn3 : 4 * x + 3 < b.length := by omega
  have hp1 : (0 : Int) ≤ 4 * (x : Int) + 1 := by omega
  have hp2 : (0 : Int) ≤ 4 * (x : Int) + 2 := by omega
  have hp3 : (0 : Int) ≤ 4 * (x : Int) + 3 := by omega
  have hl0 := c0.toNat_lt
  have hl1 := c1.toNat_lt
  have hl2 := c2.toNat_lt
  have hl3 := c3.toNat_lt
  go_wp2_with fail
  refine wp_region_still_tail 25 (by kernel_rfl) (by kernel_rfl) ?_
  simp only [List.take_succ_cons, List.take_zero, List.drop_succ_cons, List.drop_zero]
  repeat still_step
  try refine wpStill_nil ?_
  change wpList _ _ _ _ _ w.drew
  go_wp2_with fail
  go_ret
  refine ⟨ret_int ?_, (Below.refl _ _).drew⟩
  rw [HW.out]
  have hwr : ∀ y : Int, IntKind.u32.wrap y = y % 4294967296 := fun y => by simp [IntKind.wrap, IntKind.bits, IntKind.signed]
  simp only [hwr]
  omega
end Go.Proofs.YtbchkaoocobpfaaDoor
