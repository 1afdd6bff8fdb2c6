/- How a text is cut at signs outside of quotes, by the program and by the reference, and that the two agree. No program in sight. -/
import Derived.Test.YtbchkaoocobpfaaSpecTok
namespace Go.Larder
set_option linter.unusedVariables false
set_option linter.unusedSimpArgs false

/-! Trim, one blank at a time. -/
theorem trim_cons (b : UInt8) (l : List UInt8) (h : isB b = true) : trim (b :: l) = trim l := by
  unfold trim
  rw [List.dropWhile_cons, h]
  rfl
theorem trim_snoc (l : List UInt8) (b : UInt8) (h : isB b = true) : trim (l ++ [b]) = trim l := by
  unfold trim
  rw [List.dropWhile_append]
  split
  · rename_i he
    have : List.dropWhile isB l = [] := by simpa using he
    rw [this]
    simp [List.dropWhile_cons, h]
  · rw [trimR_snoc, h]; rfl
theorem trim_done (l : List UInt8) (h1 : ∀ b, l.head? = some b → isB b = false) (h2 : ∀ b, l.getLast? = some b → isB b = false) : trim l = l := by
  unfold trim
  have e : List.dropWhile isB l = l := by
    cases l with
    | nil => rfl
    | cons b l => rw [List.dropWhile_cons, h1 b rfl]; rfl
  rw [e]
  rcases nil_or_snoc l with rfl | ⟨m, b, rfl⟩
  · rfl
  · rw [trimR_snoc, h2 b (by simp)]; rfl

/-- token.cut. -/
def cutP (sg : UInt8) : List UInt8 → Bool → List UInt8 → List (List UInt8) → Option (List (List UInt8))
  | [], q, cur, acc => if q then none else some (acc ++ [trim cur])
  | [c], q, cur, acc =>
    if isQ c then cutP sg [] (!q) (cur ++ [c]) acc
    else if q && isBS c then none
    else if !q && (c.toNat : Int) == sg.toNat then cutP sg [] q [] (acc ++ [trim cur])
    else cutP sg [] q (cur ++ [c]) acc
  | c :: d :: r, q, cur, acc =>
    if isQ c then cutP sg (d :: r) (!q) (cur ++ [c]) acc
    else if q && isBS c then cutP sg r q (cur ++ [c, d]) acc
    else if !q && (c.toNat : Int) == sg.toNat then cutP sg (d :: r) q [] (acc ++ [trim cur])
    else cutP sg (d :: r) q (cur ++ [c]) acc

/-- R.parts, ahead of its last loop. -/
def partsR (sg : UInt8) : List UInt8 → Bool → Bool → List (List UInt8) → List UInt8 → List (List UInt8) × Bool
  | [], q, cn, acc, cur => (acc ++ [cur], !q)
  | c :: r, q, cn, acc, cur =>
    if (c.toNat : Int) == sg.toNat && !q then partsR sg r q cn (acc ++ [cur]) []
    else if cn then partsR sg r q false acc (cur ++ [c])
    else if isQ c then partsR sg r (!q) cn acc (cur ++ [c])
    else if isBS c then partsR sg r q q acc (cur ++ [c])
    else partsR sg r q cn acc (cur ++ [c])

def okMap (x : List (List UInt8) × Bool) : Option (List (List UInt8)) := if x.2 then some (x.1.map trim) else none

theorem isQ_eq (c : UInt8) (h : isQ c = true) : (c.toNat : Int) = 34 := by simpa [isQ] using h
theorem isBS_eq (c : UInt8) (h : isBS c = true) : (c.toNat : Int) = 92 := by simpa [isBS] using h

theorem cutP_partsR (sg : UInt8) (h1 : isQ sg = false) (h2 : isBS sg = false) (l : List UInt8) (q : Bool) (cur : List UInt8) (acc : List (List UInt8)) :
    cutP sg l q cur (acc.map trim) = okMap (partsR sg l q false acc cur) := by
  have hq : ∀ c, isQ c = true → ((c.toNat : Int) == (sg.toNat : Int)) = false := fun c hc => by
    have := isQ_eq c hc
    simp [isQ] at h1
    simp; omega
  have hb : ∀ c, isBS c = true → ((c.toNat : Int) == (sg.toNat : Int)) = false := fun c hc => by
    have := isBS_eq c hc
    simp [isBS] at h2
    simp; omega
  have hbq : ∀ c, isBS c = true → isQ c = false := fun c hc => by
    have := isBS_eq c hc
    simp [isQ]; omega
  have mapsnoc : ∀ (acc : List (List UInt8)) cur, acc.map trim ++ [trim cur] = (acc ++ [cur]).map trim := fun acc cur => by simp
  match l with
  | [] => cases q <;> simp [cutP, partsR, okMap]
  | [c] =>
    unfold cutP partsR
    cases hc : isQ c
    · cases hbs : isBS c
      · cases hs : ((c.toNat : Int) == (sg.toNat : Int)) <;> cases q <;> simp [hc, hbs, hs, cutP, partsR, okMap]
      · have := hb c hbs
        cases q <;> simp [hc, hbs, this, cutP, partsR, okMap]
    · have := hq c hc
      cases q <;> simp [hc, this, cutP, partsR, okMap]
  | c :: d :: r =>
    rw [cutP, partsR]
    cases hc : isQ c
    · cases hbs : isBS c
      · cases hs : ((c.toNat : Int) == (sg.toNat : Int)) <;> cases q
        · simp only [hc, hbs, hs, Bool.false_and, Bool.and_false, Bool.not_false, Bool.true_and, Bool.false_eq_true, if_false]
          exact cutP_partsR sg h1 h2 (d :: r) _ _ _
        · simp only [hc, hbs, hs, Bool.false_and, Bool.and_false, Bool.not_true, Bool.true_and, Bool.false_eq_true, if_false]
          exact cutP_partsR sg h1 h2 (d :: r) _ _ _
        · simp only [hc, hbs, hs, Bool.false_and, Bool.and_false, Bool.not_false, Bool.true_and, Bool.false_eq_true, if_false, if_true, mapsnoc]
          exact cutP_partsR sg h1 h2 (d :: r) _ _ _
        · simp only [hc, hbs, hs, Bool.false_and, Bool.and_false, Bool.not_true, Bool.true_and, Bool.false_eq_true, if_false]
          exact cutP_partsR sg h1 h2 (d :: r) _ _ _
      · have hs := hb c hbs
        cases q
        · simp only [hc, hbs, hs, Bool.false_and, Bool.and_false, Bool.not_false, Bool.true_and, Bool.false_eq_true, if_false, if_true]
          exact cutP_partsR sg h1 h2 (d :: r) _ _ _
        · simp only [hc, hbs, hs, Bool.false_and, Bool.and_false, Bool.not_true, Bool.true_and, Bool.and_true, Bool.false_eq_true, if_false, if_true]
          rw [partsR]
          simp only [Bool.not_true, Bool.and_false, Bool.false_eq_true, if_false, if_true]
          rw [show cur ++ [c, d] = cur ++ [c] ++ [d] by simp]
          exact cutP_partsR sg h1 h2 r _ _ _
    · have hs := hq c hc
      simp only [hc, hs, Bool.false_and, Bool.false_eq_true, if_false, if_true]
      exact cutP_partsR sg h1 h2 (d :: r) _ _ _
termination_by l.length

/-- How many parts and letters there are. -/
theorem cutP_len (sg : UInt8) (l : List UInt8) (q : Bool) (cur : List UInt8) (acc out : List (List UInt8)) (h : cutP sg l q cur acc = some out) : out.length ≤ acc.length + l.length + 1 := by
  fun_induction cutP sg l q cur acc
  all_goals first
    | (rename_i ih; have := ih h; simp only [List.length_cons, List.length_append, List.length_nil] at this ⊢; omega)
    | (cases h; done)
    | (injection h with h; subst h; simp; done)
    | (injection h with h; subst h; simp; omega)
end Go.Larder
namespace Go.Larder
theorem cutP_Q (sg x : UInt8) (r : List UInt8) (q : Bool) (cur : List UInt8) (acc : List (List UInt8)) (h : isQ x = true) : cutP sg (x :: r) q cur acc = cutP sg r (!q) (cur ++ [x]) acc := by
  cases r <;> simp [cutP, h]
theorem cutP_sg (sg x : UInt8) (r : List UInt8) (cur : List UInt8) (acc : List (List UInt8)) (h : isQ x = false) (hs : ((x.toNat : Int) == (sg.toNat : Int)) = true) : cutP sg (x :: r) false cur acc = cutP sg r false [] (acc ++ [trim cur]) := by
  cases r <;> simp [cutP, h, hs]
theorem cutP_out (sg x : UInt8) (r : List UInt8) (cur : List UInt8) (acc : List (List UInt8)) (h : isQ x = false) (hs : ((x.toNat : Int) == (sg.toNat : Int)) = false) : cutP sg (x :: r) false cur acc = cutP sg r false (cur ++ [x]) acc := by
  cases r <;> simp [cutP, h, hs]
theorem cutP_in (sg x : UInt8) (r : List UInt8) (cur : List UInt8) (acc : List (List UInt8)) (h : isQ x = false) (hb : isBS x = false) : cutP sg (x :: r) true cur acc = cutP sg r true (cur ++ [x]) acc := by
  cases r <;> simp [cutP, h, hb]
theorem cutP_esc (sg x d : UInt8) (r : List UInt8) (cur : List UInt8) (acc : List (List UInt8)) (h : isQ x = false) (hb : isBS x = true) : cutP sg (x :: d :: r) true cur acc = cutP sg r true (cur ++ [x, d]) acc := by
  simp [cutP, h, hb]
theorem cutP_esc0 (sg x : UInt8) (cur : List UInt8) (acc : List (List UInt8)) (h : isQ x = false) (hb : isBS x = true) : cutP sg [x] true cur acc = none := by
  simp [cutP, h, hb]

/-- What token.cut answers. -/
def cutE (sg : UInt8) (l : List UInt8) : Except Int (List (List UInt8)) := match cutP sg l false [] [] with
  | none => .error 3
  | some out => .ok out

theorem seg_snoc {α : Type} {l : List α} {f k : Nat} {x : α} (hf : f ≤ k) (hx : l[k]? = some x) : (l.drop f).take (k + 1 - f) = (l.drop f).take (k - f) ++ [x] := by
  rw [show k + 1 - f = (k - f) + 1 by omega, List.take_add_one]
  congr 1
  rw [List.getElem?_drop, show f + (k - f) = k by omega, hx]
  rfl

theorem set_last {α : Type} (acc : List α) (cur x : α) : (acc ++ [cur]).set acc.length x = acc ++ [x] := by
  rw [List.set_append, if_neg (by omega)]
  simp
theorem get_last {α : Type} (acc : List α) (cur : α) : (acc ++ [cur])[acc.length]? = some cur := by simp

/-- Between two rounds of a loop that maps in place. -/
theorem map_step {α : Type} (f : α → α) (l : List α) (j : Nat) (x : α) (hx : l[j]? = some x) :
    ((l.take j).map f ++ l.drop j)[j]? = some x ∧ ((l.take j).map f ++ l.drop j).set j (f x) = (l.take (j + 1)).map f ++ l.drop (j + 1) := by
  have hj : j < l.length := (List.getElem?_eq_some_iff.1 hx).1
  have hl : ((l.take j).map f).length = j := by simp; omega
  constructor
  · rw [List.getElem?_append_right (by omega), hl, Nat.sub_self, List.getElem?_drop, Nat.add_zero, hx]
  · rw [List.set_append, if_neg (by omega), hl, Nat.sub_self, List.take_add_one, hx, List.map_append]
    have hd : l.drop j = x :: l.drop (j + 1) := by
      rw [List.drop_eq_getElem_cons hj]
      rw [List.getElem?_eq_getElem hj] at hx
      injection hx with hx
      rw [hx]
    rw [hd]
    simp
end Go.Larder

namespace Go.Larder
def ne (t : List UInt8) : Bool := !(t == [])
/-- What token.Split answers. -/
def splitE (l : List UInt8) : Except Int (List (List UInt8)) :=
  if 1000 < l.length then .error 2 else match cutE 44 l with
  | .error n => .error n
  | .ok out => if 20 < (out.filter ne).length then .error 2 else .ok (out.filter ne)
theorem cutE_parts (sg : UInt8) (h1 : isQ sg = false) (h2 : isBS sg = false) (l : List UInt8) :
    cutE sg l = if (partsR sg l false false [] []).2 then .ok ((partsR sg l false false [] []).1.map trim) else .error 3 := by
  unfold cutE
  have h := cutP_partsR sg h1 h2 l false [] []
  rw [List.map_nil] at h
  rw [h]
  unfold okMap
  split <;> simp_all
theorem cutE_len (sg : UInt8) (l : List UInt8) (out : List (List UInt8)) (h : cutE sg l = .ok out) : out.length ≤ l.length + 1 := by
  unfold cutE at h
  split at h
  · cases h
  · rename_i o ho
    injection h with h
    subst h
    have := cutP_len sg l false [] [] o ho
    simpa using this
theorem cutE_err (sg : UInt8) (l : List UInt8) (n : Int) (h : cutE sg l = .error n) : n = 3 := by
  unfold cutE at h
  split at h
  · injection h with h; exact h.symm
  · cases h
theorem filter_step {α : Type} (f : α → Bool) (L : List α) (k : Nat) (x : α) (acc : List α) (hs : L.drop k = x :: L.drop (k + 1)) (h : acc ++ (L.drop k).filter f = L.filter f) :
    (f x = true → (acc ++ [x]) ++ (L.drop (k + 1)).filter f = L.filter f) ∧ (f x = false → acc ++ (L.drop (k + 1)).filter f = L.filter f) := by
  rw [hs, List.filter_cons] at h
  constructor
  · intro hx; rw [← h, hx]; simp
  · intro hx; rw [← h, hx]; rfl
end Go.Larder
