/- For how long a response is fresh. No program in sight. -/
import Derived.Test.YtmhhjmncbclihaaWDirs
namespace Go.Larder
open Go.RowKit
set_option linter.unusedVariables false
def w31 (n : Int) : Int := min (max n 0) 2147483648
theorem tdiv10_bd (n : Int) : (0 ≤ n → 0 ≤ n.tdiv 10 ∧ n.tdiv 10 ≤ n) ∧ (n ≤ 0 → n ≤ n.tdiv 10 ∧ n.tdiv 10 ≤ 0) := by
  constructor
  · intro h
    rw [Int.tdiv_eq_ediv_of_nonneg h]
    omega
  · intro h
    have e : n.tdiv 10 = -((-n).tdiv 10) := by rw [Int.neg_tdiv, Int.neg_neg]
    rw [e, Int.tdiv_eq_ediv_of_nonneg (by omega)]
    omega
theorem w31_neg {n : Int} (h : n ≤ 0) : w31 n = 0 := by unfold w31; omega
def lifeI (b1 : Bool) (n1 : Int) (b2 : Bool) (n2 : Int) (be b3 : Bool) (n3 : Int) (b4 : Bool) (n4 : Int) (cb : Bool) (dt : Int) : Int :=
  if b1 then n1 else if b2 then n2 else if be then (if b3 then w31 (n3 - dt) else 0) else if b4 && cb then w31 ((dt - n4).tdiv 10) else 0
noncomputable def lifeE (l : List Fld) (code came : Int) : Int :=
  lifeI (findD smN (dirsE l)).2 (secs (findD smN (dirsE l)).1.2.2) (findD maN (dirsE l)).2 (secs (findD maN (dirsE l)).1.2.2) (!(valsL (lowL expN) l).isEmpty) (toldE expN l).2 (toldE expN l).1 (toldE lmN l).2 (toldE lmN l).1 (codeB code) (datedE l came)
end Go.Larder
