/- Dates as a function of their text; a field's date, the program's and the reference's. -/
import Derived.Test.YtmhhjmncbclihaaWDpp
import Derived.Test.YtmhhjmncbclihaaWDppR
import Derived.Test.YtmhhjmncbclihaaWGetS
namespace Go.Larder
open Go.RowKit
theorem same_date {n n' : Int} {l : List UInt8} (h : isDate n l) (h' : isDate n' l) : n = n' := by
  obtain ⟨k, hk, e⟩ := isDate_good h
  obtain ⟨k', hk', e'⟩ := isDate_good h'
  have h1 := hk.mon
  have h2 := hk'.mon
  have : k = k' := by omega
  subst this
  rw [← e, ← e']
open Classical in
noncomputable def dtE (l : List UInt8) : Int × Bool := if h : ∃ n, isDate n l then (Classical.choose h, true) else (0, false)
theorem dtE_yes {n : Int} {l : List UInt8} (h : isDate n l) : dtE l = (n, true) := by
  unfold dtE
  have hex : ∃ n, isDate n l := ⟨n, h⟩
  rw [dif_pos hex, same_date (Classical.choose_spec hex) h]
theorem dtE_no {l : List UInt8} (h : ∀ n, ¬ isDate n l) : dtE l = (0, false) := by
  unfold dtE
  rw [dif_neg (fun ⟨n, hn⟩ => h n hn)]
theorem dtE_bd (l : List UInt8) : 0 ≤ (dtE l).1 ∧ (dtE l).1 ≤ 253402300799 := by
  by_cases h : ∃ n, isDate n l
  · obtain ⟨n, hn⟩ := h
    rw [dtE_yes hn]
    obtain ⟨_, _, _, _, h0, h1, _⟩ := hn
    exact ⟨h0, h1⟩
  · rw [dtE_no (fun n hn => h ⟨n, hn⟩)]
    exact ⟨by decide, by decide⟩
def errI (b : Bool) : Int := if b then 0 else 3
/-- a field's date -/
noncomputable def toldE (nm : List UInt8) (l : List Fld) : Int × Bool := ((dtE (Lib.join (valsL (lowL nm) l) sepL)).1, !(valsL (lowL nm) l).isEmpty && (dtE (Lib.join (valsL (lowL nm) l) sepL)).2)
theorem toldE_bd (nm : List UInt8) (l : List Fld) : 0 ≤ (toldE nm l).1 ∧ (toldE nm l).1 ≤ 253402300799 := dtE_bd _
end Go.Larder
namespace Go.Proofs.Ytmhhjmncbclihaa
open Go.RowKit Go.Larder
set_option linter.unusedVariables false
set_option linter.unusedSimpArgs false
theorem dout {w w' : World} {l : List UInt8} {e : Ending} (h : DateOut w l e w') : e = .returned (.tuple #[.int .i64 (dtE l).1, .int .i64 (errI (dtE l).2)]) ∧ Below w.heap.size w w' := by
  obtain ⟨h1, h2⟩ := h
  refine ⟨?_, h2⟩
  rcases h1 with ⟨n, rfl, hn⟩ | ⟨rfl, hn⟩
  · rw [dtE_yes hn]; rfl
  · rw [dtE_no hn]; rfl
end Go.Proofs.Ytmhhjmncbclihaa
