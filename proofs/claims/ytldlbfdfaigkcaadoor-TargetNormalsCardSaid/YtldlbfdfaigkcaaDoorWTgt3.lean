/- Walks: unescaped targets. -/
import Derived.Test.YtldlbfdfaigkcaaDoorWTgt1
import Derived.Deep.QuietTactic
import Derived.BigQuiet
namespace Go.Proofs.YtldlbfdfaigkcaaDoor
open Go.RowKit Go.Larder
set_option linter.unusedVariables false
set_option linter.unusedSimpArgs false

def encO : ElemT Bool := ⟨fun b => [.bool b], 1, fun _ => rfl, fun _ u hu => by simp at hu; subst hu; rfl, by omega⟩
theorem sl_bool : SlT Tryd.prog 98 4 1 1 := SlT.mk' (z := .bool false) Tryd.underlying98 (by kernel_rfl) rfl
set_option maxRecDepth 100000 in
theorem w_chr (n : Nat) (hn : n < 256) (w : World) :
    Calls Tryd.prog 119 #[.int .i64 n] w fun e w' => e = .returned (S [UInt8.ofNat n]) ∧ Below w.heap.size w w' := by
  have hb : ((UInt8.ofNat n).toNat : Int) = (n : Int) := by rw [UInt8.toNat_ofNat']; omega
  have e1 : IntKind.u8.wrap (n : Int) = (n : Int) := by rw [IntKind.wrap_u8]; omega
  have hlit : ReadL encB (w.alloc (.cells #[.int .u8 (n : Int)] 5)) (w.heap.size + 1) (some ⟨w.heap.size, 0, none⟩) [UInt8.ofNat n] := ReadL.lit (E := encB) w #[.int .u8 (n : Int)] _ [UInt8.ofNat n] (by show [Value.int .u8 (n : Int)] = [Value.int .u8 ((UInt8.ofNat n).toNat : Int)]; rw [hb])
  have hback := run_bytes_str (P := Tryd.prog) 66 9 Tryd.underlying66 Tryd.underlying5 Tryd.underlying9 hlit 1
  rw [show [UInt8.ofNat n].length = 1 from rfl] at hback
  generalize UInt8.ofNat n = b at *
  go_enter Tryd.func119, Tryd.ntmps119
  go_wp2_with fail
  go_ret
  exact ⟨rfl, (Below.refl _ _).alloc (Nat.le_refl _) _⟩

theorem chainW {w W w3 : World} (h1 : Below w.heap.size w W) (h2 : Below W.heap.size W w3) : Below w.heap.size w w3 := h1.trans (h2.mono h1.size)
theorem cat1 (acc : List UInt8) (b : UInt8) (h : acc.length ≤ 1000000) (w : World) : (Op.stringOp .add ⟨acc.toArray⟩ ⟨#[b]⟩).run Tryd.prog w = .ok (.string ⟨(acc ++ [b]).toArray⟩) w := run_string_add_lists w acc [b] (by omega) (by simp)
theorem chainAW {w W : World} (h1 : Below w.heap.size w W) (o : Obj) : Below w.heap.size w (W.alloc o) := h1.alloc h1.size o
theorem byteOf_eq {a b : UInt8} (ha : 0 ≤ hexv a) (hb : 0 ≤ hexv b) : ∃ n : Nat, n < 256 ∧ 16 * hexv a + hexv b = (n : Int) ∧ Larder.byteOf a b = UInt8.ofNat n := by
  have h1 := hexv_lt a
  have h2 := hexv_lt b
  exact ⟨(16 * hexv a + hexv b).toNat, by omega, by omega, rfl⟩
theorem all2 {a b : UInt8} {t : List UInt8} : [a, b].all (inTab t) = (inTab t a && inTab t b) := by simp

end Go.Proofs.YtldlbfdfaigkcaaDoor
