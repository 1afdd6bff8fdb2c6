/- Directives: the first of a name, the seconds that it says. No program in sight. -/
import Derived.Test.YthpckcfdgfdngaaDoorSpecIs
namespace Go.Larder
set_option linter.unusedVariables false
set_option linter.unusedSimpArgs false
def findD (nm : List UInt8) : List (List UInt8 × Bool × List UInt8) → (List UInt8 × Bool × List UInt8) × Bool
  | [] => (([], false, []), false)
  | d :: l => if d.1 == nm then (d, true) else findD nm l
def secGo (n : Int) : List UInt8 → Int
  | [] => n
  | c :: l => secGo (min (10 * n + (c.toNat - 48)) 2147483648) l
def secs (l : List UInt8) : Int := if l.all (inTab tensTab) then secGo 0 l else 0
theorem secs_yes {l : List UInt8} (h : l.all (inTab tensTab) = true) : secs l = secGo 0 l := if_pos h
theorem secs_no {l : List UInt8} (h : l.all (inTab tensTab) = false) : secs l = 0 := if_neg (by simp [h])
end Go.Larder
