/- Library contracts: strings.Repeat of a byte 0; strings.Fields. -/
import Derived.Test.YtbchkaoocobpfaaDoorWLib
import Derived.Test.YtbchkaoocobpfaaDoorShelf
namespace Go.Proofs.YtbchkaoocobpfaaDoor
open Go.RowKit Go.Larder
set_option linter.unusedVariables false
set_option linter.unusedSimpArgs false
theorem repeatL_rep (x : UInt8) : ∀ n : Nat, Lib.repeatL [x] n = List.replicate n x
  | 0 => rfl
  | n + 1 => by rw [Lib.repeatL, repeatL_rep x n]; rfl
theorem w_RepZ (n : Nat) (hn : n ≤ 1000000) (w : World) :
    Calls Tryd.prog 32 #[S [0], .int .i64 n] w fun e w' => e = .returned (S (List.replicate n 0)) ∧ Below w.heap.size w w' := by
  have h := Tryd.strings_Repeat ⟨#[0]⟩ n w (by omega) (by show 1 * n ≤ _; omega)
  refine h.mono fun e w' ⟨he, hb⟩ => ⟨?_, hb⟩
  rw [he]
  show Ending.returned (Value.string ⟨(Lib.repeatL [0] n).toArray⟩) = _
  rw [repeatL_rep]
theorem w_FieldsA (s : List UInt8) (hs : s.length < 4294967281) (hl : (Lib.fields s).length ≤ 1000) (ha : ∀ (j : Nat) (b : UInt8), s[j]? = some b → b.toNat < 128) (w : World) (htab : Lib.TabIs Tryd.prog w "strings.asciiSpace" .u8 Lib.asciiSpaceTab) :
    Calls Tryd.prog 30 #[S s] w fun e w' => e = .returned (.slice (some ⟨w.heap.size, 0, none⟩) (Lib.fields s).length (Lib.fields s).length) ∧ OwnL encS w' w.heap.size 9 (some ⟨w.heap.size, 0, none⟩) (Lib.fields s).length (Lib.fields s) ∧ Below w.heap.size w w' := by
  have h := Tryd.strings_Fields_laid ⟨s.toArray⟩ w (by rw [ba_size]; exact hs) (by rw [dataL]; exact ha) htab
  rw [dataL] at h
  refine h.mono ?_
  rintro e w' ⟨he, rfl⟩
  refine ⟨he, ?_, (Below.refl _ _).alloc (Nat.le_refl _) _⟩
  exact own_lit w w.heap.size _ _ (Lib.fields s) (by rw [flat_S]) (Nat.le_refl _) (by unfold maxLen; omega)
end Go.Proofs.YtbchkaoocobpfaaDoor
