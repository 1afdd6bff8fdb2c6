/- Walks: each byte of a target. -/
import Derived.Test.YtldlbfdfaigkcaaDoorWTgt0
import Derived.Test.YtldlbfdfaigkcaaDoorApp
import Derived.Deep.Heap
import Derived.Deep.RegionWith
import Derived.Deep.RegionHeld3
namespace Go.Proofs.YtldlbfdfaigkcaaDoor
open Go.RowKit Go.Larder
set_option linter.unusedVariables false
set_option linter.unusedSimpArgs false

theorem own_set_lt {α : Type} {E : ElemT α} {w : World} {base : Nat} {e : TypeId} {A : Option Addr} {c : Nat} {l : List α} (h : OwnL E w base e A c l) {a : Addr} (ha : a.block < base) (v : Value) : OwnL E (w.setCell a v) base e A c l := by
  obtain ⟨h1, h2⟩ := h
  refine ⟨h1, ?_⟩
  rcases h2 with h2 | ⟨g, cap, cur, hv, hg, hh, r⟩
  · exact .inl h2
  · exact .inr ⟨g, cap, cur, hv, hg, (Go.Deep.blk_setCell_other w a v g (by omega)).trans hh, r⟩
theorem frozen_below {B : Nat} {w w' : World} (h : Below B w w') {p : Addr} (hp : p.block < B) : w'.frozen? p = w.frozen? p := by
  unfold World.frozen?
  rw [h.block _ hp]
theorem sl_u8t : SlT Tryd.prog 66 5 1 1 := SlT.mk' (z := .int .u8 0) Tryd.underlying66 (by kernel_rfl) rfl
/-- The box bb holds a row of own bytes. -/
def BoxB (w : World) (bb : Nat) (acc : List UInt8) : Prop := ∃ A c, w.cell? ⟨bb, 0, none⟩ = some (.slice A acc.length c) ∧ w.frozen? ⟨bb, 0, none⟩ = false ∧ OwnL encB w (bb + 1) 5 A c acc ∧ bb < w.heap.size
theorem byte_or_nat : ∀ p q : Fin 16, IntKind.u8.wrap (bits BinOp.or IntKind.i64 (IntKind.i64.wrap (((p.val : Nat) : Int) * 16)) ((q.val : Nat) : Int)) = ((UInt8.ofNat (16 * ((p.val : Nat) : Int) + ((q.val : Nat) : Int)).toNat).toNat : Int) := by decide +kernel
theorem byte_or {a b : UInt8} (ha : 0 ≤ hexv a) (hb : 0 ≤ hexv b) : IntKind.u8.wrap (bits BinOp.or IntKind.i64 (IntKind.i64.wrap (hexv a * 16)) (hexv b)) = ((Larder.byteOf a b).toNat : Int) := by
  have h1 := hexv_lt a
  have h2 := hexv_lt b
  have := byte_or_nat ⟨(hexv a).toNat, by omega⟩ ⟨(hexv b).toNat, by omega⟩
  simp only [Int.toNat_of_nonneg ha, Int.toNat_of_nonneg hb] at this
  exact this
end Go.Proofs.YtldlbfdfaigkcaaDoor
