/- Freshened fields. No program in sight. -/
import Derived.Test.YtiaboojdplcaoaaSpecPol
namespace Go.Larder
def below4 : List (List UInt8) := [[99, 111, 110, 116, 101, 110, 116, 45, 108, 101, 110, 103, 116, 104], [99, 111, 110, 116, 101, 110, 116, 45, 114, 97, 110, 103, 101], [99, 111, 110, 116, 101, 110, 116, 45, 101, 110, 99, 111, 100, 105, 110, 103], [99, 111, 110, 116, 101, 110, 116, 45, 116, 121, 112, 101]]
def inBelow (n : List UInt8) : Bool := below4.any fun y => n == y
def namesOf (now : List Fld) : List (List UInt8) := (now.map fun f => lowL f.1).filter fun n => !inBelow n
def keepF (now : List Fld) (f : Fld) : Bool := inBelow (lowL f.1) || (valsL (lowL f.1) now).isEmpty
def freshL (old now : List Fld) : List Fld := dropP (hitsN (namesOf now)) old ++ dropP (hitsN below4) (stripL now)
theorem hitsN_names (now : List Fld) (f : Fld) : (!hitsN (namesOf now) f) = keepF now f := by
  unfold hitsN namesOf keepF
  cases hb : inBelow (lowL f.1)
  · rw [Bool.false_or]
    induction now with
    | nil => rfl
    | cons g now ih =>
      rw [List.map_cons, List.filter_cons]
      unfold valsL at ih ⊢
      rw [List.filter_cons]
      cases hg : (lowL g.1 == lowL f.1)
      · have hh : hits (lowL f.1) g = false := hg
        have hne : (lowL f.1 == lowL g.1) = false := by
          have h2 : lowL g.1 ≠ lowL f.1 := by simpa using hg
          simpa using fun h => h2 h.symm
        cases hbg : inBelow (lowL g.1)
        · simp only [hh, hbg, Bool.not_false, if_true, if_false, Bool.false_eq_true, List.any_cons, hne, Bool.false_or]
          exact ih
        · simp only [hh, hbg, Bool.not_true, if_true, if_false, Bool.false_eq_true]
          exact ih
      · have hh : hits (lowL f.1) g = true := hg
        have he : lowL g.1 = lowL f.1 := by simpa using hg
        simp [hh, he, hb]
  · rw [Bool.true_or]
    rw [Bool.not_eq_true', List.any_eq_false]
    intro n hn h
    have h1 : lowL f.1 = n := by simpa using h
    have h2 := (List.mem_filter.1 hn).2
    rw [← h1, hb] at h2
    simp at h2
theorem keep_eq (now old : List Fld) : dropP (hitsN (namesOf now)) old = old.filter (keepF now) := by
  unfold dropP
  congr 1
  funext f
  exact hitsN_names now f
theorem namesOf_snoc {now : List Fld} {k : Nat} {f : Fld} (h : now[k]? = some f) : namesOf (now.take (k + 1)) = namesOf (now.take k) ++ (if inBelow (lowL f.1) then [] else [lowL f.1]) := by
  rw [List.take_add_one, h]
  unfold namesOf
  rw [List.map_append, List.filter_append]
  cases hb : inBelow (lowL f.1) <;> simp [hb]
theorem namesOf_len (now : List Fld) : (namesOf now).length ≤ now.length := by
  unfold namesOf
  have := List.length_filter_le (fun n => !inBelow n) (now.map fun f => lowL f.1)
  rw [List.length_map] at this
  exact this
theorem dropP_len (p : Fld → Bool) (l : List Fld) : (dropP p l).length ≤ l.length := List.length_filter_le _ _
theorem mem_dropP {p : Fld → Bool} {l : List Fld} {f : Fld} (h : f ∈ dropP p l) : f ∈ l := (List.mem_filter.1 h).1
end Go.Larder
