/- The table of blanks, out of the laid variables. -/
import Derived.Test.YtbchkaoocobpfaaDoorWDgD
import Derived.Stop.LaidErr
import Derived.MakeChecks
import Derived.Lib.LaidTab
namespace Go.Proofs.YtbchkaoocobpfaaDoor
open Go.RowKit Go.Larder
theorem AS.laid {l : List (String × DataW Unit)} {w : World} (hp : (l.all fun x => x.2.handleName?.isNone) = true) (h : laidMetH Tryd.prog l w) (n : Nat) (hn : l[n]? = some ("strings.asciiSpace", Lib.tabData .u8 Lib.asciiSpaceTab)) : AS w := by
  rw [MakeChecks.laidMetH_plain _ _ _ hp] at h
  clear hp
  induction l generalizing n with
  | nil => cases hn
  | cons x l ih =>
    cases n with
    | zero =>
      have hx : x = ("strings.asciiSpace", Lib.tabData .u8 Lib.asciiSpaceTab) := by simpa using hn
      subst hx
      exact Lib.tabIs_of_head (g := 0) (t := 103) (e := 5) (n := 256) (by kernel_rfl) (by kernel_rfl) Tryd.underlying103 Tryd.underlying5 (by kernel_rfl) (by kernel_rfl) h
    | succ n => exact ih h.tail n (by simpa using hn)
end Go.Proofs.YtbchkaoocobpfaaDoor
