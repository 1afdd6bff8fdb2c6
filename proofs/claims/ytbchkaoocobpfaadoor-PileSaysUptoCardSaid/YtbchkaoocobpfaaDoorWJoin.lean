/- strings.Join by the laid contract, at texts as lists. -/
import Derived.Test.YtbchkaoocobpfaaDoorSpecs
import Derived.Test.YtbchkaoocobpfaaDoorShelf
namespace Go.Proofs.YtbchkaoocobpfaaDoor
open Go.RowKit Go.Larder
set_option linter.unusedVariables false
set_option linter.unusedSimpArgs false
theorem ba_data (v : List UInt8) : (⟨v.toArray⟩ : ByteArray).data.toList = v := by simp
theorem ba_map (vs : List (List UInt8)) : (vs.map (fun v => (⟨v.toArray⟩ : ByteArray))).map (·.data.toList) = vs := by
  induction vs with
  | nil => rfl
  | cons v vs ih => rw [List.map_cons, List.map_cons, ih, ba_data]
theorem w_Join (vs : List (List UInt8)) (sep : List UInt8) (A : Option Addr) (c B : Nat) (w : World) (hr : ReadL encS w B A vs) (hB : B ≤ w.heap.size) (hc : vs.length ≤ c) (hN : vs.length ≤ 140737488355328) (hlen : (Lib.join vs sep).length ≤ 140737488355328) :
    Calls Tryd.prog 45 #[.slice A vs.length c, S sep] w fun e w' => e = .returned (S (Lib.join vs sep)) ∧ Below w.heap.size w w' := by
  cases vs with
  | nil => exact (Tryd.strings_Join_none A c _ w).mono fun e w' ⟨he, hw⟩ => ⟨he, hw ▸ Below.refl _ _⟩
  | cons v vs =>
    obtain ⟨b, off, rfl, hb, hcell⟩ := hr (by simp)
    have h := Tryd.strings_Join b off c ((v :: vs).map (fun v => (⟨v.toArray⟩ : ByteArray))) ⟨sep.toArray⟩ w
      (fun j x hx => by
        rw [List.getElem?_map] at hx
        cases hv : (v :: vs)[j]? with
        | none => rw [hv] at hx; cases hx
        | some y =>
          rw [hv] at hx
          injection hx with hx
          subst hx
          have := hcell j y hv 0 (S y) rfl
          simpa [encS] using this)
      (by omega) (by simpa using hN) (by simpa using hc) (by rw [ba_map, ba_data]; exact hlen)
    rw [ba_map, ba_data, List.length_map] at h
    exact h
end Go.Proofs.YtbchkaoocobpfaaDoor
