/- Ranges: what is asked for and what it stands for. No program in sight. -/
import Derived.Test.YtgjikbhehijnaaaDoorBase
namespace Go.Larder
set_option linter.unusedVariables false
set_option linter.unusedSimpArgs false

def isNum (n : Int) : Bool := decide (0 ≤ n) && decide (n ≤ 99999)
def isWant (f : Int × Int) : Bool := if f.1 = -1 then isNum f.2 else if f.2 = -1 then isNum f.1 else isNum f.1 && (isNum f.2 && decide (f.1 ≤ f.2))

/-- What one of them stands for. -/
def slotOf (size : Int) (f : Int × Int) : Int × Int := if f.1 < 0 then (max 0 (size - f.2), size) else if f.2 < 0 then (f.1, size) else (f.1, min (f.2 + 1) size)
def slots (size : Int) : List (Int × Int) → List (Int × Int)
  | [] => []
  | f :: l => if (slotOf size f).1 < (slotOf size f).2 then slotOf size f :: slots size l else slots size l

def checkP (l : List (Int × Int)) : Int := if l.length == 0 || (l.any fun f => !isWant f) then 1 else 0
def checkR (l : List (Int × Int)) : Int := if l.length == 0 || (l.any fun f => !isWant f) then 1 else if 20 < l.length then 2 else 0
theorem isWant_R (a b : Int) : isWant (a, b) = if a = -1 then !(decide (b < 0) || decide (99999 < b)) else !(decide (a < 0) || decide (99999 < a)) && (b == -1 || !(decide (b < a) || decide (99999 < b))) := by
  unfold isWant isNum
  by_cases h1 : a = -1
  · simp only [h1, if_pos]
    rw [Bool.eq_iff_iff]; simp
  · by_cases h2 : b = -1
    · simp only [h1, h2]
      rw [Bool.eq_iff_iff]; simp
    · simp only [h1, h2, if_false]
      rw [Bool.eq_iff_iff]; simp [h2]; omega

def spanRes (l : List (Int × Int)) (size : Int) : Except Int (List (Int × Int)) :=
  if l.length == 0 || (l.any fun f => !isWant f) || decide (size < 0) then .error 1
  else if 20 < l.length then .error 2
  else if (slots size l).isEmpty then .error 11 else .ok (slots size l)

theorem slots_len (size : Int) : ∀ l, (slots size l).length ≤ l.length
  | [] => by simp [slots]
  | f :: l => by
    have := slots_len size l
    unfold slots
    split <;> simp <;> omega
theorem spanRes_len {l : List (Int × Int)} {size : Int} {out : List (Int × Int)} (h : spanRes l size = .ok out) : out.length ≤ 20 := by
  unfold spanRes at h
  have := slots_len size l
  split at h
  · cases h
  · split at h
    · cases h
    · split at h
      · cases h
      · cases h; omega
end Go.Larder
