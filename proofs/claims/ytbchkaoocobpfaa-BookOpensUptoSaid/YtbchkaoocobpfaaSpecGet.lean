/- The values of a name, joined. No program in sight. -/
import Derived.Test.YtbchkaoocobpfaaSpecField
import Derived.Lib.Join
namespace Go.Larder
open Go.RowKit
set_option linter.unusedVariables false
set_option linter.unusedSimpArgs false
def valsL (nm : List UInt8) (l : List Fld) : List (List UInt8) := (l.filter (hits nm)).map (·.2)
def sepL : List UInt8 := [44, 32]
def getStep (out : List UInt8) (is : Bool) (v : List UInt8) : List UInt8 := if is then out ++ sepL ++ v else out ++ v
def getGo (nm : List UInt8) : List Fld → List UInt8 → Bool → List UInt8 × Bool
  | [], out, is => (out, is)
  | f :: l, out, is => if hits nm f then getGo nm l (getStep out is f.2) true else getGo nm l out is
theorem join_snoc (vs : List (List UInt8)) (x : List UInt8) : Lib.join (vs ++ [x]) sepL = getStep (Lib.join vs sepL) (!vs.isEmpty) x := by
  cases vs with
  | nil => simp [getStep, Lib.join_nil, Lib.join_one]
  | cons v vs => simp [getStep, Lib.join_cons, Lib.joinTail]
theorem getGo_eq (nm : List UInt8) : ∀ (l : List Fld) (vs : List (List UInt8)), getGo nm l (Lib.join vs sepL) (!vs.isEmpty) = (Lib.join (vs ++ valsL nm l) sepL, !(vs ++ valsL nm l).isEmpty)
  | [], vs => by simp [getGo, valsL]
  | f :: l, vs => by
    unfold getGo
    by_cases h : hits nm f = true
    · rw [if_pos h, ← join_snoc]
      have := getGo_eq nm l (vs ++ [f.2])
      rw [show (!(vs ++ [f.2]).isEmpty) = true from by simp] at this
      rw [this]
      simp [valsL, h]
    · rw [if_neg h, getGo_eq nm l vs]
      simp [valsL, h]
theorem getGo_all (nm : List UInt8) (l : List Fld) : getGo nm l [] false = (Lib.join (valsL nm l) sepL, !(valsL nm l).isEmpty) := by
  have := getGo_eq nm l []
  simpa [Lib.join_nil] using this
theorem join_len_le (vs : List (List UInt8)) : (Lib.join vs sepL).length ≤ (vs.map (fun v => v.length + 2)).sum := by
  induction vs with
  | nil => simp [Lib.join_nil]
  | cons v vs ih =>
    rw [Lib.join_length]
    have h2 : ∀ l : List (List UInt8), 2 * l.length + Lib.lens l = (l.map (fun v => v.length + 2)).sum := by
      intro l
      induction l with
      | nil => rfl
      | cons a l ih2 => simp [Lib.lens] at ih2 ⊢; omega
    have h3 := h2 vs
    simp [Lib.lens, sepL] at h3 ⊢
    omega
theorem vals_len_le (nm : List UInt8) : ∀ l : List Fld, ((valsL nm l).map (fun v => v.length + 2)).sum ≤ (l.map (fun f => f.1.length + f.2.length + 3)).sum
  | [] => by simp [valsL]
  | f :: l => by
    have ih := vals_len_le nm l
    unfold valsL at ih ⊢
    by_cases h : hits nm f = true
    · simp [h] at ih ⊢; omega
    · simp [h] at ih ⊢; omega
end Go.Larder
