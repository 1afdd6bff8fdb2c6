/- The sort's worlds: the row of the call's own, before and behind it. -/
import Derived.Test.YtldlbfdfaigkcaaWMrgC
import Derived.Shelf.GgSortFunc.InsertionK
import Derived.Shelf.SlSortCmp.Insertion
namespace Go.Larder
open Go.RowKit
set_option linter.unusedVariables false
set_option linter.unusedSimpArgs false
theorem ltIv (x y : Iv) : Go.Proofs.ltOf cmpIv x y = decide (x.1 < y.1 ∨ (x.1 = y.1 ∧ x.2 < y.2)) := by
  unfold Go.Proofs.ltOf cmpIv Lib.compareInt
  apply decide_eq_decide.2
  by_cases a : x.1 < y.1 <;> by_cases b : x.1 > y.1 <;> by_cases c : x.2 < y.2 <;> by_cases d : x.2 > y.2 <;> simp [a, b, c, d] <;> omega
theorem swoIv : Go.Sort.SWO (Go.Proofs.ltOf cmpIv) where
  irrefl x := by rw [ltIv]; simp
  trans x y z h1 h2 := by rw [ltIv] at *; simp only [decide_eq_true_eq] at *; omega
  ntrans x y z h1 h2 := by rw [ltIv] at *; simp only [decide_eq_false_iff_not] at *; omega
theorem flat_get (d : Array Iv) (t : Nat) (h : t < d.size * 2) : (d.toList.flatMap encII.enc)[t]? = some ((Go.Sort.flatK encII.enc 2 d)[t]!) := by
  rw [Go.Sort.get_flatK _ _ _ _ h]
  have hd : t / 2 < d.size := by omega
  have h1 : d.toList[t / 2]? = some (d[t / 2]!) := by simp [hd]
  have h2 : (encII.enc (d[t / 2]!))[t % 2]? = some ((encII.enc (d[t / 2]!))[t % 2]!) := by
    have : t % 2 < (encII.enc (d[t / 2]!)).length := by rw [encII.len]; exact Nat.mod_lt _ (by decide)
    rw [List.getElem?_eq_getElem this, getElem!_pos (encII.enc (d[t / 2]!)) (t % 2) this]
  have h3 := encII.get_flatMap d.toList (t / 2) _ (t % 2) _ h1 h2
  rw [show t / 2 * encII.size + t % 2 = t from by show t / 2 * 2 + t % 2 = t; omega] at h3
  exact h3
theorem holds_of_own {w : World} {base : Nat} {e : TypeId} {g c : Nat} {l : List Iv} (h : OwnL encII w base e (some ⟨g, 0, none⟩) c l) : Go.Sort.HoldsK encII.enc 2 w g 0 l.toArray := by
  intro j hj
  rw [Go.Sort.size_flatK] at hj
  refine ⟨?_, by rw [Nat.zero_add]; exact h.frozen j⟩
  have h1 := flat_get l.toArray j hj
  have h2 : j / 2 < l.length := by simp at hj; omega
  obtain ⟨x, hx⟩ : ∃ x, l[j / 2]? = some x := ⟨l[j / 2], List.getElem?_eq_getElem h2⟩
  obtain ⟨c0, c1⟩ := h.get_II hx
  rw [Go.Sort.get_flatK _ _ _ _ hj]
  have hx2 : l.toArray[j / 2]! = x := by
    have : l.toArray[j / 2]? = some x := by simpa using hx
    simp [Array.getElem!_eq_getD, Array.getD_eq_getD_getElem?, this]
  rw [hx2, Nat.zero_add]
  rcases Nat.mod_two_eq_zero_or_one j with hm | hm
  · rw [hm, show j = j / 2 * 2 from by omega, c0]; rfl
  · rw [hm, show j = j / 2 * 2 + 1 from by omega, c1]; rfl
theorem own_sorted {w : World} {base : Nat} {e : TypeId} {g c : Nat} {l : List Iv} (h : OwnL encII w base e (some ⟨g, 0, none⟩) c l) (n : Nat) (d : Array Iv) (os : Array Obj) (hd : d.size = l.length) :
    OwnL encII (Go.Proofs.sortWorldK encII.enc 2 w g 0 n d os) base e (some ⟨g, 0, none⟩) c d.toList := by
  obtain ⟨h1, h2⟩ := h
  rcases h2 with ⟨hv, _⟩ | ⟨g', cap, cur, hv, hb, hg, hn, hcm, hcs, hcur⟩
  · cases hv
  · injection hv with e1 e2 e3
    injection e1 with e1
    injection e1 with e1
    subst e1 e3
    refine ⟨encII.length_flatMap _, .inr ⟨g, c, Go.Sort.putCells id 0 (Go.Sort.flatK encII.enc 2 d) cur, rfl, hb, ?_, by simp [hd]; omega, hcm, ?_, ?_⟩⟩
    · have hlt : g < w.heap.size := by
        rcases Nat.lt_or_ge g w.heap.size with h' | h'
        · exact h'
        · simp [Array.getElem?_eq_none h'] at hg
      show ((w.heap.modify g (Go.Sort.onCells _)) ++ os)[g]? = _
      rw [Array.getElem?_append_left (by simpa using hlt), Array.getElem?_modify, if_pos rfl, hg]
      rfl
    · unfold Go.Sort.putCells; rw [Array.size_mapIdx]; exact hcs
    · apply List.ext_getElem?
      intro t
      have hln : d.toList.length * encII.size = d.size * 2 := by show d.toList.length * 2 = _; simp
      rw [hln]
      rcases Nat.lt_or_ge t (d.size * 2) with ht | ht
      · have htc : t < cur.size := by rw [hcs]; show t < c * 2; omega
        rw [List.getElem?_take_of_lt ht, flat_get d t ht]
        unfold Go.Sort.putCells
        rw [Array.getElem?_toList, Array.getElem?_mapIdx, Array.getElem?_eq_getElem htc]
        simp only [Option.map_some, Go.Sort.size_flatK]
        rw [if_pos (by omega)]
        rfl
      · rw [List.getElem?_eq_none (by rw [List.length_take]; omega), List.getElem?_eq_none (by rw [encII.length_flatMap]; omega)]
theorem below_sorted {w : World} {B g : Nat} (hg : B ≤ g) (hlt : g < w.heap.size) (n : Nat) (d : Array Iv) (os : Array Obj) : Below B w (Go.Proofs.sortWorldK encII.enc 2 w g 0 n d os) := by
  refine ⟨rfl, rfl, rfl, ?_, fun k hk => ?_⟩
  · show w.heap.size ≤ ((w.heap.modify g (Go.Sort.onCells _)) ++ os).size
    simp
  · show ((w.heap.modify g (Go.Sort.onCells _)) ++ os)[k]? = _
    have h' : k < w.heap.size := by omega
    rw [Array.getElem?_append_left (by simpa using h'), Array.getElem?_modify, if_neg (by omega)]
theorem perm_of {d d' : Array Iv} (h : Go.Sort.PermIn 0 d.size d d') : d'.toList.Perm d.toList := by
  obtain ⟨h1, _, h3⟩ := h
  have e1 : d'.extract 0 d.size = d' := by rw [← h1]; exact Array.extract_size
  have e2 : d.extract 0 d.size = d := Array.extract_size
  rwa [e1, e2] at h3
theorem sorted_of {d : Array Iv} (h : Go.Sort.SortedIn (Go.Proofs.ltOf cmpIv) 0 d.size d) : d.toList.Pairwise fun a b => a.1 ≤ b.1 := by
  rw [List.pairwise_iff_getElem]
  intro i j hi hj hij
  have := h i j (by omega) hij (by simpa using hj)
  rw [ltIv] at this
  simp only [decide_eq_false_iff_not] at this
  rw [getElem!_pos d i (by simpa using hi), getElem!_pos d j (by simpa using hj)] at this
  simp only [Array.getElem_toList]
  omega
end Go.Larder
