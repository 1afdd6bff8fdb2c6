/- The library's two error variables, out of the row's list. -/
import Derived.Test.YtgjikbhehijnaaaDoorWAtoi
namespace Go.Proofs.YtgjikbhehijnaaaDoor
open Go.RowKit Go.Larder
set_option linter.unusedVariables false
set_option linter.unusedSimpArgs false
def esText : List UInt8 := [105, 110, 118, 97, 108, 105, 100, 32, 115, 121, 110, 116, 97, 120]
def erText : List UInt8 := [118, 97, 108, 117, 101, 32, 111, 117, 116, 32, 111, 102, 32, 114, 97, 110, 103, 101]
theorem EV.laid {l : List (String × DataW Unit)} {w : World} (hp : (l.all fun x => x.2.handleName?.isNone) = true) (h : laidMetH Tryd.prog l w) (i j : Nat)
    (hi : l[i]? = some ("strconv.ErrSyntax", .iface "*errors.errorString" (.ptr (.agg [.lit (.string esText)])))) (hj : l[j]? = some ("strconv.ErrRange", .iface "*errors.errorString" (.ptr (.agg [.lit (.string erText)])))) : EV w :=
  ⟨laid_at hp h i hi (by kernel_rfl) (by kernel_rfl), laid_at hp h j hj (by kernel_rfl) (by kernel_rfl)⟩
end Go.Proofs.YtgjikbhehijnaaaDoor
