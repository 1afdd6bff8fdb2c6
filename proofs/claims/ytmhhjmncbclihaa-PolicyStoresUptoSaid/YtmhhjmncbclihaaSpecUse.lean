/- What may be done with a held response. No program in sight. -/
import Derived.Test.YtmhhjmncbclihaaSpecLife
namespace Go.Larder
open Go.RowKit
set_option linter.unusedVariables false
def someD (ns : List (List UInt8)) (l : List Dir) : Bool := ns.any fun n => (findD n l).2
def staleI (f : (List UInt8 × Bool × List UInt8) × Bool) (by_ : Int) : Bool := f.2 && (!f.1.2.1 || decide (by_ ≤ secs f.1.2.2))
def useI (nc hasMost : Bool) (most : Int) (hasLeast : Bool) (least : Int) (bound st : Bool) (life age : Int) (oic : Bool) : Int :=
  if (decide (age < life) || (!bound && st)) && !nc && !(hasMost && decide (most < age)) && !(hasLeast && decide (life - age < least)) then 1 else if oic then 3 else 2
noncomputable def useE (l1 l : List Fld) (code came ak nw : Int) : Int :=
  useI ((findD ncN (dirsE l1)).2 || (findD ncN (dirsE l)).2) (findD maN (dirsE l1)).2 (secs (findD maN (dirsE l1)).1.2.2) (findD mfN (dirsE l1)).2 (secs (findD mfN (dirsE l1)).1.2.2)
    (someD [mrN, prN, smN, ncN] (dirsE l)) (staleI (findD msN (dirsE l1)) (ageE l ak came nw - lifeE l code came)) (lifeE l code came) (ageE l ak came nw) (findD oicN (dirsE l1)).2
theorem lifeE_bd (l : List Fld) (code came : Int) : 0 ≤ lifeE l code came ∧ lifeE l code came ≤ 2147483648 := by
  have h1 := secs_bd (findD smN (dirsE l)).1.2.2
  have h2 := secs_bd (findD maN (dirsE l)).1.2.2
  unfold lifeE lifeI
  split
  · exact h1
  · split
    · exact h2
    · split
      · split
        · unfold w31; omega
        · omega
      · split
        · unfold w31; omega
        · omega
theorem ageE_bd (l : List Fld) (ak came nw : Int) : 0 ≤ ageE l ak came nw ∧ ageE l ak came nw ≤ 2147483648 := by
  unfold ageE ageI; omega
/-- the program's walk through the list: the first of that name -/
def staleGo (l : List Dir) (r : Bool) (nm : List UInt8) : List Dir → Bool
  | [] => false
  | d :: t => if d.1 == nm then r else staleGo l r nm t
theorem findD_skip {nm : List UInt8} {d : Dir} {l : List Dir} (h : (d.1 == nm) = false) : findD nm (d :: l) = findD nm l := by rw [findD, if_neg (by simp [h])]
theorem findD_hit {nm : List UInt8} {d : Dir} {l : List Dir} (h : (d.1 == nm) = true) : findD nm (d :: l) = (d, true) := by rw [findD, if_pos h]
end Go.Larder
