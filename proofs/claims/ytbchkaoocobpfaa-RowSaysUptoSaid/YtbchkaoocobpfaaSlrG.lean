/- Slices of rows of whatever elements. No program in sight. -/
import Derived.Test.YtbchkaoocobpfaaChg
import Derived.Laws.Slices
namespace Go.Larder
open Go.RowKit
set_option linter.unusedVariables false
set_option linter.unusedSectionVars false
set_option linter.unusedSimpArgs false
theorem addr_add (b off k : Nat) : (⟨b, off, none⟩ : Addr).add k = ⟨b, off + k, none⟩ := by unfold Addr.add; split <;> simp_all
section
variable {P : Program} {α : Type} {E : ElemT α} {t e : TypeId} {bytes : Nat}
theorem slicedG {A : Option Addr} {lo hi c : Nat} (hc : hi ≤ c) : ∃ A', sliced A lo hi c E.size = .slice A' (hi - lo) (c - lo) ∧ (∀ a', A' = some a' → ∃ a, A = some a ∧ a'.block = a.block) ∧ ∀ {l : List α} {w : World} {B : Nat}, hi ≤ l.length → ReadL E w B A l → ReadL E w B A' ((l.drop lo).take (hi - lo)) := by
  refine ⟨_, rfl, ?_, ?_⟩
  · intro a' ha
    by_cases h : c = lo
    · rw [if_pos h] at ha; exact ⟨a', ha, rfl⟩
    · rw [if_neg h] at ha
      cases A with
      | none => cases ha
      | some a =>
        refine ⟨a, rfl, ?_⟩
        simp only [Option.map_some, Option.some.injEq] at ha
        rw [← ha]
        unfold Addr.add
        split <;> rfl
  · intro l w B hl h
    by_cases he : hi ≤ lo
    · rw [show hi - lo = 0 from by omega, List.take_zero]
      exact ReadL.nil
    · rw [if_neg (by omega)]
      obtain ⟨x, hx⟩ : ∃ x, l[0]? = some x := ⟨_, List.getElem?_eq_getElem (by omega)⟩
      obtain ⟨b, off, rfl, _⟩ := h.at_ hx
      have h2 := (h.drop lo).take (hi - lo)
      rw [Option.map_some, addr_add]
      exact h2
variable (hel : P.elem t = e) (T : SlT P t e E.size bytes)
include hel T
theorem sizeOfG (w : World) : (sizeOf e).run P w = .ok E.size w := by
  obtain ⟨i, z, hi, _, hs, _⟩ := T.info
  simp [sizeOf, typeInfo, hi]
  exact hs
theorem undG : P.underlying t = some (.slice (P.elem t)) := by rw [hel]; exact T.ht
theorem run_sliceLG (A : Option Addr) (n c lo : Nat) (h1 : lo ≤ n) (h2 : n ≤ c) : ∃ A', (∀ w, (Instr.slice t (.slice A n c) (some (.int .i64 (lo : Int))) none none).run P w = .ok (.slice A' (n - lo) (c - lo)) w) ∧ (∀ a', A' = some a' → ∃ a, A = some a ∧ a'.block = a.block) ∧
    ∀ {l : List α} {w : World} {B : Nat}, l.length = n → ReadL E w B A l → ReadL E w B A' (l.drop lo) := by
  obtain ⟨A', hA, hbk, hr⟩ := slicedG (E := E) (A := A) (lo := lo) h2
  refine ⟨A', fun w => ?_, hbk, ?_⟩
  · refine (run_slice_l (P := P) (w := w) (t := t) (a := A) (len := n) (cap := c) (undG hel T) .i64 (lo : Int) (by omega) (by omega)).trans ?_
    rw [hel, sizeOfG hel T]
    simp only [Result.andThen, Int.toNat_natCast, hA]
  · intro l w B hl h
    have := hr (by omega) h
    rwa [List.take_of_length_le (by rw [List.length_drop]; omega)] at this
theorem run_sliceHG (A : Option Addr) (n c hi : Nat) (h2 : hi ≤ c) : ∃ A', (∀ w, (Instr.slice t (.slice A n c) none (some (.int .i64 (hi : Int))) none).run P w = .ok (.slice A' hi c) w) ∧ (∀ a', A' = some a' → ∃ a, A = some a ∧ a'.block = a.block) ∧
    ∀ {l : List α} {w : World} {B : Nat}, hi ≤ l.length → ReadL E w B A l → ReadL E w B A' (l.take hi) := by
  obtain ⟨A', hA, hbk, hr⟩ := slicedG (E := E) (A := A) (lo := 0) h2
  refine ⟨A', fun w => ?_, hbk, ?_⟩
  · refine (run_slice_h (P := P) (w := w) (t := t) (a := A) (len := n) (cap := c) (undG hel T) .i64 (hi : Int) (by omega) (by omega)).trans ?_
    rw [hel, sizeOfG hel T]
    simp only [Result.andThen, Int.toNat_natCast, hA, Nat.sub_zero]
  · intro l w B hl h
    exact hr hl h
end
end Go.Larder
