/- Walks: fresh.Age and the reference's. -/
import Derived.Test.YtmhhjmncbclihaaWDtE
import Derived.Test.YtmhhjmncbclihaaWCtl
import Derived.Test.YtmhhjmncbclihaaBoxAt
import Derived.Deep.RegionWith
import Derived.Deep.QuietTactic
import Derived.BigQuiet
namespace Go.Larder
open Go.RowKit
set_option linter.unusedVariables false
def dateN : List UInt8 := [68, 97, 116, 101]
def ageN : List UInt8 := [65, 103, 101]
def clampT (n : Int) : Int := min (max n 0) 253402300799
theorem clampT_bd (n : Int) : 0 ≤ clampT n ∧ clampT n ≤ 253402300799 := by unfold clampT; omega
/-- when a response was made -/
noncomputable def datedE (l : List Fld) (came : Int) : Int := if (toldE dateN l).2 then (toldE dateN l).1 else clampT came
theorem datedE_bd (l : List Fld) (came : Int) : 0 ≤ datedE l came ∧ datedE l came ≤ 253402300799 := by
  unfold datedE
  have := toldE_bd dateN l
  have := clampT_bd came
  split <;> omega
def ageI (ak cm nw dt sn : Int) : Int := min (max (max (max (cm - dt) 0) (sn + max (cm - ak) 0) + max (nw - cm) 0) 0) 2147483648
theorem secGo_bd : ∀ (l : List UInt8) (n : Int), 0 ≤ n → n ≤ 2147483648 → (l.all (inTab tensTab) = true) → 0 ≤ secGo n l ∧ secGo n l ≤ 2147483648
  | [], n, h0, h1, _ => ⟨h0, h1⟩
  | c :: l, n, h0, h1, h => by
    rw [List.all_cons, Bool.and_eq_true] at h
    have hc : 48 ≤ c.toNat ∧ c.toNat ≤ 57 := by have := h.1; rw [tens_eq] at this; exact of_decide_eq_true this
    exact secGo_bd l _ (by omega) (by omega) h.2
theorem secs_bd (l : List UInt8) : 0 ≤ secs l ∧ secs l ≤ 2147483648 := by
  unfold secs
  split
  · next h => exact secGo_bd l 0 (by decide) (by decide) h
  · exact ⟨by decide, by decide⟩
noncomputable def ageE (l : List Fld) (asked came now : Int) : Int := ageI (clampT asked) (clampT came) (clampT now) (datedE l came) (secs (Lib.join (valsL (lowL ageN) l) sepL))
/-- The cells of a held response. -/
def heldC (c0 c1 c2 c3 c4 c5 : Value) (A : Option Addr) (n c : Nat) (c7 : Value) (asked came : Int) (c10 : Value) : List Value := [c0, c1, c2, c3, c4, c5, .slice A n c, c7, .int .i64 asked, .int .i64 came, c10]
end Go.Larder
namespace Go.Proofs.Ytmhhjmncbclihaa
open Go.RowKit Go.Larder
set_option linter.unusedVariables false
set_option linter.unusedSimpArgs false
end Go.Proofs.Ytmhhjmncbclihaa
