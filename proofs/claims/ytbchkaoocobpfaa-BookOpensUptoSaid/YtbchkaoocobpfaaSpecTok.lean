/- What the functions of package token compute, as Lean functions on lists of bytes. No program in sight. -/
import Derived.Test.YtbchkaoocobpfaaBase
namespace Go.Larder
set_option linter.unusedVariables false
set_option linter.unusedSimpArgs false

def isB (c : UInt8) : Bool := (c.toNat : Int) == 32 || (c.toNat : Int) == 9
def isPl (c : UInt8) : Bool := (decide (32 ≤ (c.toNat : Int)) && decide ((c.toNat : Int) ≤ 126)) || (c.toNat : Int) == 9

def trimR (l : List UInt8) : List UInt8 := (l.reverse.dropWhile isB).reverse
def trim (l : List UInt8) : List UInt8 := trimR (l.dropWhile isB)

theorem trimR_snoc (l : List UInt8) (c : UInt8) : trimR (l ++ [c]) = if isB c then trimR l else l ++ [c] := by
  unfold trimR
  rw [List.reverse_append, List.reverse_singleton, List.singleton_append, List.dropWhile_cons]
  split <;> simp

def isQ (c : UInt8) : Bool := (c.toNat : Int) == 34
def isBS (c : UInt8) : Bool := (c.toNat : Int) == 92

/-- token.Unquote's loop. -/
def unq : List UInt8 → List UInt8 → Option (List UInt8)
  | [], acc => some acc
  | [c], acc => if isQ c || isBS c then none else if isPl c then some (acc ++ [c]) else none
  | c :: d :: r, acc => if isBS c then (if isPl d then unq r (acc ++ [d]) else none) else if isQ c then none else if isPl c then unq (d :: r) (acc ++ [c]) else none

def unqEnd : Option (List UInt8) → List UInt8 × Int
  | none => ([], 3)
  | some b => if 1000 < b.length then ([], 2) else (b, 0)

/-- token.Unquote of a :: (m ++ [b]). -/
def unqMid (a : UInt8) (m : List UInt8) (b : UInt8) : List UInt8 × Int :=
  if isQ a && isQ b then unqEnd (unq m []) else ([], 3)

/-- R.Unquote's loop. -/
def unqR : List UInt8 → Bool → List UInt8 → Option (List UInt8)
  | [], c, acc => if c then none else some acc
  | x :: r, true, acc => unqR r false (acc ++ [x])
  | x :: r, false, acc => if isBS x then unqR r true acc else if isQ x then none else unqR r false (acc ++ [x])

def unqMidR (a : UInt8) (m : List UInt8) (b : UInt8) : List UInt8 × Int :=
  if isQ a && isQ b && (a :: (m ++ [b])).all isPl then unqEnd (unqR m false []) else ([], 3)

theorem unqR_of_unq (m : List UInt8) (acc : List UInt8) : unq m acc = if m.all isPl then unqR m false acc else none := by
  fun_induction unq m acc with
  | case1 acc => simp [unqR]
  | case2 c acc h =>
    simp only [Bool.or_eq_true] at h
    rcases h with h | h
    · have : isBS c = false := by simp [isQ, isBS] at h ⊢; omega
      simp [unqR, h, this]
    · simp [unqR, h]
  | case3 c acc h h2 => simp at h; simp [unqR, h, h2]
  | case4 c acc h h2 => simp [h2]
  | case5 c d r acc h h2 ih =>
    have : isPl c = true := by simp [isBS, isPl] at h ⊢; omega
    simp [unqR, h, h2, this, ih]
  | case6 c d r acc h h2 => simp [h2]
  | case7 c d r acc h h2 => simp [unqR, h, h2]
  | case8 c d r acc h h2 h3 ih =>
    simp only [List.all_cons, Bool.and_eq_true] at ih ⊢
    simp [unqR, h, h2, h3, ih]
  | case9 c d r acc h h2 h3 => simp [h3]

theorem unqMid_eq (a : UInt8) (m : List UInt8) (b : UInt8) : unqMid a m b = unqMidR a m b := by
  unfold unqMid unqMidR
  rw [unqR_of_unq]
  have hq : ∀ c, isQ c = true → isPl c = true := fun c h => by simp [isQ, isPl] at h ⊢; omega
  cases ha : isQ a <;> cases hb : isQ b <;> simp [ha, hb]
  simp only [hq a ha, hq b hb, true_and, and_true]
  split <;> rfl
end Go.Larder
