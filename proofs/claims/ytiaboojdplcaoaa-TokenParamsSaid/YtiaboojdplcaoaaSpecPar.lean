/- Parameters read. No program in sight. -/
import Derived.Test.YtiaboojdplcaoaaSpecDir
namespace Go.Larder
open Go.RowKit
abbrev Par := List UInt8 × List UInt8
def parAt (t : List UInt8) (k : Nat) : Option Par :=
  if isTok (t.take k) then
    if isTok (t.drop (k + 1)) then some (lowL (t.take k), t.drop (k + 1))
    else if (unqAll (t.drop (k + 1))).2 = 0 then some (lowL (t.take k), (unqAll (t.drop (k + 1))).1)
    else none
  else none
def parR (t : List UInt8) : Option Par := if 0 ≤ Lib.indexByte t 61 then parAt t (Lib.indexByte t 61).toNat else none
theorem parR_no {t : List UInt8} (h : Lib.indexByte t 61 = -1) : parR t = none := by unfold parR; rw [if_neg (by omega)]
theorem parR_at {t : List UInt8} {k : Nat} (h : Lib.indexByte t 61 = (k : Int)) : parR t = parAt t k := by unfold parR; rw [if_pos (by omega), h]; rfl
def parsGo : List (List UInt8) → List Par → Option (List Par)
  | [], acc => some acc
  | t :: l, acc => if t == [] then parsGo l acc else match parR t with
    | none => none
    | some p => parsGo l (acc ++ [p])
theorem parsGo_nil (acc : List Par) : parsGo [] acc = some acc := rfl
theorem parsGo_skip {t : List UInt8} {l : List (List UInt8)} {acc : List Par} (h : (t == []) = true) : parsGo (t :: l) acc = parsGo l acc := by rw [parsGo, if_pos h]
theorem parsGo_none {t : List UInt8} {l : List (List UInt8)} {acc : List Par} (h : (t == []) = false) (hp : parR t = none) : parsGo (t :: l) acc = none := by rw [parsGo, if_neg (by simp [h]), hp]
theorem parsGo_some {t : List UInt8} {l : List (List UInt8)} {acc : List Par} {p : Par} (h : (t == []) = false) (hp : parR t = some p) : parsGo (t :: l) acc = parsGo l (acc ++ [p]) := by rw [parsGo, if_neg (by simp [h]), hp]
def parsE (s : List UInt8) : Except Int (List UInt8 × List Par) :=
  if 1000 < s.length then .error 2 else match cutE 59 s with
  | .error _ => .error 3
  | .ok [] => .error 3
  | .ok (x :: l) => if x == [] then .error 3 else match parsGo l [] with
    | none => .error 3
    | some ps => if 20 < ps.length then .error 2 else .ok (x, ps)
theorem parsE_big {s : List UInt8} (h : 1000 < s.length) : parsE s = .error 2 := by unfold parsE; rw [if_pos h]
theorem parsE_err {s : List UInt8} {n : Int} (h : ¬ 1000 < s.length) (h2 : cutE 59 s = .error n) : parsE s = .error 3 := by unfold parsE; rw [if_neg h, h2]
theorem parsE_first {s x : List UInt8} {l : List (List UInt8)} (h : ¬ 1000 < s.length) (h2 : cutE 59 s = .ok (x :: l)) (hx : (x == []) = true) : parsE s = .error 3 := by unfold parsE; rw [if_neg h, h2]; simp only; rw [if_pos hx]
theorem parsE_none {s x : List UInt8} {l : List (List UInt8)} (h : ¬ 1000 < s.length) (h2 : cutE 59 s = .ok (x :: l)) (hx : (x == []) = false) (hp : parsGo l [] = none) : parsE s = .error 3 := by
  unfold parsE; rw [if_neg h, h2]; simp only; rw [if_neg (by simp [hx]), hp]
theorem parsE_many {s x : List UInt8} {l : List (List UInt8)} {ps : List Par} (h : ¬ 1000 < s.length) (h2 : cutE 59 s = .ok (x :: l)) (hx : (x == []) = false) (hp : parsGo l [] = some ps) (hn : 20 < ps.length) : parsE s = .error 2 := by
  unfold parsE; rw [if_neg h, h2]; simp only; rw [if_neg (by simp [hx]), hp]; simp only; rw [if_pos hn]
theorem parsE_ok {s x : List UInt8} {l : List (List UInt8)} {ps : List Par} (h : ¬ 1000 < s.length) (h2 : cutE 59 s = .ok (x :: l)) (hx : (x == []) = false) (hp : parsGo l [] = some ps) (hn : ¬ 20 < ps.length) : parsE s = .ok (x, ps) := by
  unfold parsE; rw [if_neg h, h2]; simp only; rw [if_neg (by simp [hx]), hp]; simp only; rw [if_neg hn]
theorem partsR_ne (sg : UInt8) : ∀ (l : List UInt8) (q cn : Bool) (acc : List (List UInt8)) (cur : List UInt8), (partsR sg l q cn acc cur).1 ≠ []
  | [], q, cn, acc, cur => by simp [partsR]
  | c :: r, q, cn, acc, cur => by
    unfold partsR
    split
    · exact partsR_ne sg r _ _ _ _
    · split
      · exact partsR_ne sg r _ _ _ _
      · split
        · exact partsR_ne sg r _ _ _ _
        · split
          · exact partsR_ne sg r _ _ _ _
          · exact partsR_ne sg r _ _ _ _
theorem cutE_ne {sg : UInt8} (h1 : isQ sg = false) (h2 : isBS sg = false) {s : List UInt8} : cutE sg s ≠ .ok [] := by
  rw [cutE_parts sg h1 h2]
  split
  · intro h
    injection h with h
    exact partsR_ne sg s _ _ _ _ (List.map_eq_nil_iff.1 h)
  · intro h; cases h
/-- '(string, []Param, Errno)'. -/
def ParPost (E : ElemT Par) (e : TypeId) (w : World) (r : Except Int (List UInt8 × List Par)) (x : Ending) (w' : World) : Prop := match r with
  | .error n => x = .returned (.tuple #[S [], .slice none 0 0, .int .i64 n]) ∧ Below w.heap.size w w'
  | .ok p => ∃ A c, x = .returned (.tuple #[S p.1, .slice A p.2.length c, .int .i64 0]) ∧ OwnL E w' w.heap.size e A c p.2 ∧ Below w.heap.size w w'
theorem ParPost.err {E : ElemT Par} {e : TypeId} {w w' : World} {r : Except Int (List UInt8 × List Par)} {x : Ending} {n : Int} (h : ParPost E e w r x w') (hr : r = .error n) : x = .returned (.tuple #[S [], .slice none 0 0, .int .i64 n]) ∧ Below w.heap.size w w' := by subst hr; exact h
theorem ParPost.ok_ {E : ElemT Par} {e : TypeId} {w w' : World} {r : Except Int (List UInt8 × List Par)} {x : Ending} {p : List UInt8 × List Par} (h : ParPost E e w r x w') (hr : r = .ok p) : ∃ A c, x = .returned (.tuple #[S p.1, .slice A p.2.length c, .int .i64 0]) ∧ OwnL E w' w.heap.size e A c p.2 ∧ Below w.heap.size w w' := by subst hr; exact h
theorem parsE_len {s : List UInt8} {p : List UInt8 × List Par} (h : parsE s = .ok p) : p.2.length ≤ 20 := by
  unfold parsE at h
  split at h
  · cases h
  · split at h
    · cases h
    · cases h
    · split at h
      · cases h
      · split at h
        · cases h
        · split at h
          · cases h
          · injection h with h; subst h; simp; omega
end Go.Larder
