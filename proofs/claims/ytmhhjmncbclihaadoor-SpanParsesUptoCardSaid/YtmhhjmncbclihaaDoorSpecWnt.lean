/- Ranges asked for, read. No program in sight. -/
import Derived.Test.YtmhhjmncbclihaaDoorSpecSpp
import Derived.Test.YtmhhjmncbclihaaDoorSpecCtr
import Derived.Test.YtmhhjmncbclihaaDoorSpecSpl
import Derived.Test.YtmhhjmncbclihaaDoorSpecTok
namespace Go.Larder
open Go.RowKit
set_option linter.unusedVariables false
set_option linter.unusedSimpArgs false
theorem sgn_not {n : Int} : ∀ x ∈ sgnL n, x ≠ 45 := fun x hx e => by
  unfold sgnL at hx
  split at hx
  · simp at hx
  · exact dL_not (n := n) (c := 45) (by decide) x hx e
theorem cnt_nil (m : Int) : cnt [] m = -1 := by simp [cnt]
theorem cnt_sgn {n : Int} (h0 : -1 ≤ n) (h1 : n ≤ 99999) : cnt (sgnL n) 99999 = n := by
  unfold sgnL
  split
  · rw [cnt_nil]; omega
  · have := cnt_dec (n := n.toNat) (m := 99999) (by omega) (by omega)
    rw [this]; omega
theorem sgn_nil {n : Int} (h : sgnL n = []) : n < 0 := by
  unfold sgnL at h
  split at h
  · assumption
  · exact absurd h (dec_ne _)
theorem sgn_dL {n : Int} (h : 0 ≤ n) : sgnL n = dL n := by unfold sgnL; rw [if_neg (by omega)]
theorem sgn_neg : sgnL (-1) = [] := by unfold sgnL; rw [if_pos (by omega)]
/-- where the dash stands, and the two numbers -/
def wK (t : List UInt8) : Int := Lib.indexByte t 45
def wA (t : List UInt8) : Int := cnt (t.take (wK t).toNat) 99999
def wB (t : List UInt8) : Int := cnt (t.drop ((wK t).toNat + 1)) 99999
/-- A range that a text tells. -/
def wOf (t : List UInt8) : Option (Int × Int) := if 0 ≤ wK t ∧ isWant (wA t, wB t) = true ∧ wantS (wA t, wB t) = t then some (wA t, wB t) else none
theorem wOf_some {t : List UInt8} {w : Int × Int} (h : wOf t = some w) : isWant w = true ∧ wantS w = t := by
  unfold wOf at h
  split at h
  · next hc => injection h with h; subst h; exact hc.2
  · cases h
theorem wantS_at (a b : Int) : wantS (a, b) = sgnL a ++ 45 :: sgnL b := by simp [wantS]
theorem wOf_mk {a b : Int} (h : isWant (a, b) = true) : wOf (sgnL a ++ 45 :: sgnL b) = some (a, b) := by
  obtain ⟨a0, a1, b0, b1, _⟩ := want_bd h
  have hk : wK (sgnL a ++ 45 :: sgnL b) = ((sgnL a).length : Int) := ix_app (sgn_not (n := a))
  have ha : wA (sgnL a ++ 45 :: sgnL b) = a := by
    unfold wA
    rw [hk, Int.toNat_natCast, List.take_left, cnt_sgn a0 a1]
  have hb : wB (sgnL a ++ 45 :: sgnL b) = b := by
    unfold wB
    rw [hk, Int.toNat_natCast, ← List.drop_drop, List.drop_left, List.drop_succ_cons, List.drop_zero, cnt_sgn b0 b1]
  unfold wOf
  rw [ha, hb, hk, if_pos ⟨by omega, h, wantS_at a b⟩]
/-- What the two sides of the dash say: nothing, or just the digits of a number. -/
structure Side (s : List UInt8) (n : Int) (ok : Bool) : Prop where
  yes : ok = true → -1 ≤ n ∧ n ≤ 99999 ∧ s = sgnL n
  all : ∀ m : Int, -1 ≤ m → m ≤ 99999 → s = sgnL m → ok = true ∧ n = m
theorem want_law {t f l : List UInt8} {is : Bool} (hc : cut1 45 t = (f, l, is)) {a b : Int} {k1 k2 : Bool} (h1 : Side f a k1) (h2 : Side l b k2) :
    (is && k1 && k2 && isWant (a, b)) = (wOf t).isSome ∧ ∀ w, wOf t = some w → w = (a, b) := by
  have key : ∀ w, wOf t = some w → is = true ∧ k1 = true ∧ k2 = true ∧ w = (a, b) := by
    rintro ⟨x, y⟩ hw
    obtain ⟨g1, g2⟩ := wOf_some hw
    obtain ⟨a0, a1, b0, b1, _⟩ := want_bd g1
    rw [wantS_at] at g2
    rw [← g2, cut1_app _ (sgn_not (n := x))] at hc
    injection hc with e1 e2
    injection e2 with e2 e3
    obtain ⟨q1, q2⟩ := h1.all x a0 a1 e1.symm
    obtain ⟨q3, q4⟩ := h2.all y b0 b1 e2.symm
    exact ⟨e3.symm, q1, q3, by rw [q2, q4]⟩
  refine ⟨?_, fun w hw => (key w hw).2.2.2⟩
  cases hz : wOf t with
  | some w =>
    obtain ⟨q1, q2, q3, q4⟩ := key w hz
    have := (wOf_some hz).1
    rw [q4] at this
    simp [q1, q2, q3, this]
  | none =>
    cases hg : (is && k1 && k2 && isWant (a, b))
    · rfl
    · exfalso
      simp only [Bool.and_eq_true] at hg
      obtain ⟨⟨⟨q1, q2⟩, q3⟩, q4⟩ := hg
      obtain ⟨_, _, e1⟩ := h1.yes q2
      obtain ⟨_, _, e2⟩ := h2.yes q3
      have := (cut1_true (c := 45) (l := t) (by rw [hc]; exact q1)).1
      rw [hc] at this
      simp only at this
      rw [e1, e2] at this
      rw [this, wOf_mk q4] at hz
      cases hz
/-- all of them, or none -/
def wAll : List (List UInt8) → Option (List (Int × Int))
  | [] => some []
  | t :: r => match wOf (trim t) with
    | none => none
    | some w => (wAll r).map (w :: ·)
/-- Ranges, read. -/
def spnE (s : List UInt8) : Except Int (List (Int × Int)) :=
  if s.take 6 = bytesEq then (match wAll (spl 44 (s.drop 6)) with
    | none => .error 3
    | some l => if 20 < l.length then .error 2 else .ok l) else .error 3
theorem wAll_app (xs ys : List (List UInt8)) : wAll (xs ++ ys) = match wAll xs with
    | none => none
    | some l => (wAll ys).map (l ++ ·) := by
  induction xs with
  | nil => simp [wAll]
  | cons t r ih =>
    simp only [List.cons_append, wAll]
    cases wOf (trim t) with
    | none => rfl
    | some w =>
      simp only [ih]
      cases wAll r with
      | none => rfl
      | some l => simp only [Option.map_some]; cases wAll ys <;> rfl
theorem wAll_bad {xs ys : List (List UInt8)} {t : List UInt8} (h : wOf (trim t) = none) : wAll (xs ++ t :: ys) = none := by
  rw [wAll_app]
  cases wAll xs with
  | none => rfl
  | some l => simp [wAll, h]
theorem wAll_snoc {xs : List (List UInt8)} {t : List UInt8} {l : List (Int × Int)} {w : Int × Int} (h : wAll xs = some l) (hw : wOf (trim t) = some w) : wAll (xs ++ [t]) = some (l ++ [w]) := by
  rw [wAll_app, h]; simp [wAll, hw]
theorem wAll_len : ∀ {xs : List (List UInt8)} {l : List (Int × Int)}, wAll xs = some l → l.length = xs.length
  | [], l, h => by simp only [wAll] at h; injection h with h; subst h; rfl
  | t :: r, l, h => by
    simp only [wAll] at h
    cases hw : wOf (trim t) with
    | none => simp [hw] at h
    | some w =>
      simp only [hw] at h
      cases hr : wAll r with
      | none => simp [hr] at h
      | some m => simp only [hr, Option.map_some] at h; injection h with h; subst h; simp [wAll_len hr]
theorem spn_len {s : List UInt8} {l : List (Int × Int)} (h : spnE s = .ok l) : l.length ≤ 20 := by
  unfold spnE at h
  split at h
  · split at h
    · cases h
    · split at h
      · cases h
      · injection h with h; subst h; omega
  · cases h
end Go.Larder
