/- Walk: slices.SortFunc at the ranges: sorted by their beginnings. -/
import Derived.Test.YtldlbfdfaigkcaaWMrgP
import Derived.Test.YtldlbfdfaigkcaaSort
import Derived.Shelf.SlSortCmp.NoneTotal
namespace Go.Proofs.Ytldlbfdfaigkcaa
open Go.RowKit Go.Larder
set_option linter.unusedVariables false
set_option linter.unusedSimpArgs false
theorem sortSays : SortSays := by
  intro l hl B A c w hB ho
  cases l with
  | nil =>
    refine (Go.Proofs.AnyF.slices_SortFunc_none Try.sortIv A c (.func (.func 34) #[] #[]) w).mono ?_
    rintro e w' ⟨rfl, rfl⟩
    exact ⟨rfl, ⟨[], rfl, .refl _, .nil, ho⟩, Below.refl _ _⟩
  | cons x l =>
    obtain ⟨g, rfl, hg1, hg2⟩ := ho.some_ (by simp)
    have h := Go.Proofs.AnyQ.slices_SortFunc Try.sortIv 2 Try.isAgg52 Try.sizeOf52 encII.enc encII.len encII.one cmpIv swoIv 34 #[] g 0 c (x :: l).toArray w
      (enters_of Try.func34 (by kernel_rfl) rfl) (fun m os dk hs a b => w_m2 a b _) (holds_of_own ho) hg2 (by simp only [List.size_toArray]; omega)
    refine h.mono ?_
    rintro e w' ⟨rfl, d', n, os, hp, hs, rfl⟩
    have hd : d'.size = (x :: l).length := by have := hp.1; simpa using this
    refine ⟨rfl, ⟨d'.toList, by simpa using hd, perm_of hp, sorted_of (by rw [hd]; simpa using hs), own_sorted ho n d' os hd⟩, below_sorted hg1 hg2 n d' os⟩
theorem w_MergeP (l : List Iv) (hl : l.length * 16 ≤ 140737488351232) (A : Option Addr) (c : Nat) (w : World) (hr : ReadL encII w w.heap.size A l) :
    Calls Try.prog 20 #[.slice A l.length c] w fun e w' => ∃ A' c', e = .returned (.slice A' (l.foldl rStep []).length c') ∧ OwnI w' w.heap.size A' c' (l.foldl rStep []) ∧ Below w.heap.size w w' := w_Merge sortSays l hl A c w hr
end Go.Proofs.Ytldlbfdfaigkcaa
