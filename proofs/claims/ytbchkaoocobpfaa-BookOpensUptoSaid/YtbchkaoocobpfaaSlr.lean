/- Slices of rows of texts. -/
import Derived.Test.YtbchkaoocobpfaaChecked
import Derived.Test.YtbchkaoocobpfaaBase
import Derived.Laws.Slices
namespace Go.Proofs.Ytbchkaoocobpfaa
open Go.RowKit Go.Larder
set_option linter.unusedVariables false
set_option linter.unusedSimpArgs false
theorem sl_strS : SlT Try.prog 30 9 1 16 := SlT.mk' (z := .string ByteArray.empty) Try.underlying30 (by kernel_rfl) rfl
theorem elem_str : Try.prog.elem 30 = 9 := by kernel_rfl
theorem und_str : Try.prog.underlying 30 = some (.slice (Try.prog.elem 30)) := by rw [elem_str]; exact Try.underlying30
theorem sizeOf_str (w : World) : (sizeOf 9).run Try.prog w = .ok 1 w := by
  obtain ⟨i, z, hi, _, hs, _⟩ := sl_strS.info
  simp [sizeOf, typeInfo, hi]
  exact hs
theorem sliced_read {A : Option Addr} {lo hi c : Nat} (hc : hi ≤ c) : ∃ A', sliced A lo hi c 1 = .slice A' (hi - lo) (c - lo) ∧ ∀ {l : List (List UInt8)} {w : World} {B : Nat}, hi ≤ l.length → ReadL encL w B A l → ReadL encL w B A' ((l.drop lo).take (hi - lo)) := by
  refine ⟨_, rfl, ?_⟩
  intro l w B hl h
  by_cases he : hi ≤ lo
  · rw [show hi - lo = 0 from by omega, List.take_zero]
    exact ReadL.nil
  · rw [if_neg (by omega)]
    obtain ⟨x, hx⟩ : ∃ x, l[0]? = some x := ⟨_, List.getElem?_eq_getElem (by omega)⟩
    obtain ⟨b, off, rfl, _⟩ := h.at_S hx
    have h2 := (h.drop lo).take (hi - lo)
    have hadd : (⟨b, off, none⟩ : Addr).add (lo * 1) = ⟨b, off + lo * 1, none⟩ := by unfold Addr.add; split <;> simp_all
    rw [Option.map_some, hadd]
    exact h2
theorem run_sliceLH (A : Option Addr) (n c lo hi : Nat) (h1 : lo ≤ hi) (h2 : hi ≤ c) : ∃ A', (∀ w, (Instr.slice 30 (.slice A n c) (some (.int .i64 (lo : Int))) (some (.int .i64 (hi : Int))) none).run Try.prog w = .ok (.slice A' (hi - lo) (c - lo)) w) ∧
    ∀ {l : List (List UInt8)} {w : World} {B : Nat}, hi ≤ l.length → ReadL encL w B A l → ReadL encL w B A' ((l.drop lo).take (hi - lo)) := by
  obtain ⟨A', hA, hr⟩ := sliced_read (A := A) (lo := lo) h2
  refine ⟨A', fun w => ?_, hr⟩
  refine (run_slice_lh (P := Try.prog) (w := w) (t := 30) (a := A) (len := n) (cap := c) und_str .i64 .i64 (lo : Int) (hi : Int) (by omega) (by omega) (by omega)).trans ?_
  rw [elem_str, sizeOf_str]
  simp only [Result.andThen, Int.toNat_natCast, hA]
theorem run_sliceL (A : Option Addr) (n c lo : Nat) (h1 : lo ≤ n) (h2 : n ≤ c) : ∃ A', (∀ w, (Instr.slice 30 (.slice A n c) (some (.int .i64 (lo : Int))) none none).run Try.prog w = .ok (.slice A' (n - lo) (c - lo)) w) ∧
    ∀ {l : List (List UInt8)} {w : World} {B : Nat}, l.length = n → ReadL encL w B A l → ReadL encL w B A' (l.drop lo) := by
  obtain ⟨A', hA, hr⟩ := sliced_read (A := A) (lo := lo) h2
  refine ⟨A', fun w => ?_, ?_⟩
  · refine (run_slice_l (P := Try.prog) (w := w) (t := 30) (a := A) (len := n) (cap := c) und_str .i64 (lo : Int) (by omega) (by omega)).trans ?_
    rw [elem_str, sizeOf_str]
    simp only [Result.andThen, Int.toNat_natCast, hA]
  · intro l w B hl h
    have := hr (by omega) h
    rwa [List.take_of_length_le (by rw [List.length_drop]; omega)] at this
theorem run_sliceH (A : Option Addr) (n c hi : Nat) (h2 : hi ≤ c) : ∃ A', (∀ w, (Instr.slice 30 (.slice A n c) none (some (.int .i64 (hi : Int))) none).run Try.prog w = .ok (.slice A' hi c) w) ∧
    ∀ {l : List (List UInt8)} {w : World} {B : Nat}, hi ≤ l.length → ReadL encL w B A l → ReadL encL w B A' (l.take hi) := by
  obtain ⟨A', hA, hr⟩ := sliced_read (A := A) (lo := 0) h2
  refine ⟨A', fun w => ?_, ?_⟩
  · refine (run_slice_h (P := Try.prog) (w := w) (t := 30) (a := A) (len := n) (cap := c) und_str .i64 (hi : Int) (by omega) (by omega)).trans ?_
    rw [elem_str, sizeOf_str]
    simp only [Result.andThen, Int.toNat_natCast, hA, Nat.sub_zero]
  · intro l w B hl h
    exact hr hl h
end Go.Proofs.Ytbchkaoocobpfaa
