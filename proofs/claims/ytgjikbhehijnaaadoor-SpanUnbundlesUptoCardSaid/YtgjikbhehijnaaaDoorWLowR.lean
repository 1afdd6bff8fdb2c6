/- Walks: strings.IndexByte; lower case, the reference's. -/
import Derived.Test.YtgjikbhehijnaaaDoorWLow
import Derived.Lib.Bytealg
import Derived.Laws.Externs
namespace Go.Proofs.YtgjikbhehijnaaaDoor
open Go.RowKit Go.Larder
set_option linter.unusedVariables false
set_option linter.unusedSimpArgs false

def greatL : List UInt8 := [65, 66, 67, 68, 69, 70, 71, 72, 73, 74, 75, 76, 77, 78, 79, 80, 81, 82, 83, 84, 85, 86, 87, 88, 89, 90]
def smallL : List UInt8 := [97, 98, 99, 100, 101, 102, 103, 104, 105, 106, 107, 108, 109, 110, 111, 112, 113, 114, 115, 116, 117, 118, 119, 120, 121, 122]
theorem idx_great_nat : ∀ n : Fin 256, Lib.indexByte greatL (UInt8.ofNat n.val) = if 65 ≤ n.val ∧ n.val ≤ 90 then ((n.val : Int) - 65) else -1 := by decide +kernel
theorem small_nat : ∀ n : Fin 256, 65 ≤ n.val → n.val ≤ 90 → (smallL.drop (n.val - 65)).take 1 = [lowB (UInt8.ofNat n.val)] := by decide +kernel
theorem idx_great (x : UInt8) : Lib.indexByte greatL x = if 65 ≤ x.toNat ∧ x.toNat ≤ 90 then ((x.toNat : Int) - 65) else -1 := by
  have := idx_great_nat ⟨x.toNat, x.toNat_lt⟩
  simpa using this
theorem small_at (x : UInt8) (h1 : 65 ≤ x.toNat) (h2 : x.toNat ≤ 90) : (smallL.drop (x.toNat - 65)).take 1 = [lowB x] := by
  have := small_nat ⟨x.toNat, x.toNat_lt⟩ h1 h2
  simpa using this

set_option maxHeartbeats 1000000 in
set_option maxRecDepth 100000 in
theorem lo_liteIndexByte (l : List UInt8) (c : UInt8) (w : World) :
    Calls Tryd.prog 70 #[S l, .int .u8 c.toNat] w fun e w' => e = .returned (.int .i64 (Lib.indexByte l c)) ∧ w = w' := by
  go_enter Tryd.func70, Tryd.ntmps70
  go_wp2
  rw [run_callFunc_extern Tryd.func92 (by kernel_rfl) (by kernel_rfl) (by kernel_rfl) (e := Extern.BytealgIndexByte.indexByte) (by kernel_rfl), Lib.run_indexByteString]
  simp only [Result.andThen]
  rw [Oper.upon_value]
  go_wp2
  go_ret
  exact ⟨by simp, rfl⟩

theorem lo_IndexByte (l : List UInt8) (c : UInt8) (w : World) :
    Calls Tryd.prog 39 #[S l, .int .u8 c.toNat] w fun e w' => e = .returned (.int .i64 (Lib.indexByte l c)) ∧ w = w' := by
  go_enter Tryd.func39, Tryd.ntmps39
  go_wp2_with (go_at_call 70; refine (lo_liteIndexByte l c _).mono ?_; rintro e w' ⟨rfl, rfl⟩)
  go_ret
  exact ⟨rfl, rfl⟩

end Go.Proofs.YtgjikbhehijnaaaDoor
