/- Parts of a text; texts joined. -/
import Derived.Test.YtbchkaoocobpfaaDoorChecked
import Derived.Test.YtbchkaoocobpfaaDoorSpecs
namespace Go.Proofs.YtbchkaoocobpfaaDoor
open Go.RowKit Go.Larder
set_option linter.unusedVariables false
set_option linter.unusedSimpArgs false
/-- A slice of a text, its bounds in range. -/
theorem run_sliceS {P : Program} (t : TypeId) (ht : P.underlying t = some .string) (s : List UInt8) (lo hi : Int) (h0 : 0 ≤ lo) (h1 : lo ≤ hi) (h2 : hi ≤ s.length) (w : World) :
    (Instr.slice t (.string ⟨s.toArray⟩) (some (.int .i64 lo)) (some (.int .i64 hi)) none).run P w = .ok (S ((s.drop lo.toNat).take (hi.toNat - lo.toNat))) w := by
  have hsz : (⟨s.toArray⟩ : ByteArray).size = s.length := ba_size s
  have e1 : hi.toNat ≤ s.length := by omega
  have e2 : lo ≤ (hi.toNat : Int) := by omega
  have e3 : lo ≤ max hi 0 := by omega
  simp [Instr.slice, Sem.run_bind, run_underlying ht, Instr.sliceBounds, Instr.sliceBound, asIntOf, hsz, h0, h2, show 0 ≤ hi from by omega, e2, e3, Result.andThen]
  rw [ba_extract]
/-- .. to its end. -/
theorem run_sliceT {P : Program} (t : TypeId) (ht : P.underlying t = some .string) (s : List UInt8) (lo : Int) (h0 : 0 ≤ lo) (h1 : lo ≤ s.length) (w : World) :
    (Instr.slice t (.string ⟨s.toArray⟩) (some (.int .i64 lo)) none none).run P w = .ok (S (s.drop lo.toNat)) w := by
  have hsz : (⟨s.toArray⟩ : ByteArray).size = s.length := ba_size s
  simp [Instr.slice, Sem.run_bind, run_underlying ht, Instr.sliceBounds, Instr.sliceBound, asIntOf, hsz, h0, h1, Result.andThen]
  rw [ba_extract, List.take_of_length_le (by rw [List.length_drop]; omega)]
theorem run_cat {P : Program} (a b : List UInt8) (ha : a.length ≤ 8000000) (hb : b.length ≤ 8000000) (w : World) : (Op.stringOp .add ⟨a.toArray⟩ ⟨b.toArray⟩).run P w = .ok (.string ⟨(a ++ b).toArray⟩) w := run_string_add_lists w a b (by omega) (by omega)
/-- A text up to a place. -/
theorem run_sliceU {P : Program} (t : TypeId) (ht : P.underlying t = some .string) (s : List UInt8) (hi : Int) (h0 : 0 ≤ hi) (h2 : hi ≤ s.length) (w : World) :
    (Instr.slice t (.string ⟨s.toArray⟩) none (some (.int .i64 hi)) none).run P w = .ok (S (s.take hi.toNat)) w := by
  have hsz : (⟨s.toArray⟩ : ByteArray).size = s.length := ba_size s
  simp [Instr.slice, Sem.run_bind, run_underlying ht, Instr.sliceBounds, Instr.sliceBound, asIntOf, hsz, h0, h2, Result.andThen]
  rw [ba_extract]
  simp
end Go.Proofs.YtbchkaoocobpfaaDoor
