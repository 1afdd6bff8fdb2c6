/- Dates as a function of their text; a field's date, the program's and the reference's. -/
import Derived.Test.YtcoghpokkhjhgaaGreatDoorWDpp
import Derived.Test.YtcoghpokkhjhgaaGreatDoorWDppR
import Derived.Test.YtcoghpokkhjhgaaGreatDoorWGetS
namespace Go.Larder
open Go.RowKit
theorem same_date {n n' : Int} {l : List UInt8} (h : isDate n l) (h' : isDate n' l) : n = n' := by
  obtain ⟨k, hk, e⟩ := isDate_good h
  obtain ⟨k', hk', e'⟩ := isDate_good h'
  have h1 := hk.mon
  have h2 := hk'.mon
  have : k = k' := by omega
  subst this
  rw [← e, ← e']
open Classical in
noncomputable def dtE (l : List UInt8) : Int × Bool := if h : ∃ n, isDate n l then (Classical.choose h, true) else (0, false)
theorem dtE_yes {n : Int} {l : List UInt8} (h : isDate n l) : dtE l = (n, true) := by
  unfold dtE
  have hex : ∃ n, isDate n l := ⟨n, h⟩
  rw [dif_pos hex, same_date (Classical.choose_spec hex) h]
theorem dtE_no {l : List UInt8} (h : ∀ n, ¬ isDate n l) : dtE l = (0, false) := by
  unfold dtE
  rw [dif_neg (fun ⟨n, hn⟩ => h n hn)]
theorem dtE_bd (l : List UInt8) : 0 ≤ (dtE l).1 ∧ (dtE l).1 ≤ 253402300799 := by
  by_cases h : ∃ n, isDate n l
  · obtain ⟨n, hn⟩ := h
    rw [dtE_yes hn]
    obtain ⟨_, _, _, _, h0, h1, _⟩ := hn
    exact ⟨h0, h1⟩
  · rw [dtE_no (fun n hn => h ⟨n, hn⟩)]
    exact ⟨by decide, by decide⟩
def errI (b : Bool) : Int := if b then 0 else 3
/-- a field's date -/
noncomputable def toldE (nm : List UInt8) (l : List Fld) : Int × Bool := ((dtE (Lib.join (valsL (lowL nm) l) sepL)).1, !(valsL (lowL nm) l).isEmpty && (dtE (Lib.join (valsL (lowL nm) l) sepL)).2)
theorem toldE_bd (nm : List UInt8) (l : List Fld) : 0 ≤ (toldE nm l).1 ∧ (toldE nm l).1 ≤ 253402300799 := dtE_bd _
end Go.Larder
namespace Go.Proofs.YtcoghpokkhjhgaaGreatDoor
open Go.RowKit Go.Larder
set_option linter.unusedVariables false
set_option linter.unusedSimpArgs false
theorem dout {w w' : World} {l : List UInt8} {e : Ending} (h : DateOut w l e w') : e = .returned (.tuple #[.int .i64 (dtE l).1, .int .i64 (errI (dtE l).2)]) ∧ Below w.heap.size w w' := by
  obtain ⟨h1, h2⟩ := h
  refine ⟨?_, h2⟩
  rcases h1 with ⟨n, rfl, hn⟩ | ⟨rfl, hn⟩
  · rw [dtE_yes hn]; rfl
  · rw [dtE_no hn]; rfl
theorem w_date (l : List UInt8) (hl : l.length ≤ 140737488351232) (w : World) (hP : PW w) (hM : ML w) :
    Calls Tryz.prog 34 #[S l] w fun e w' => e = .returned (.tuple #[.int .i64 (dtE l).1, .int .i64 (errI (dtE l).2)]) ∧ Below w.heap.size w w' := (w_DParse l hl w hP hM).mono fun _ _ h => dout h
theorem w_dateR (l : List UInt8) (hl : l.length ≤ 140737488351232) (w : World) (hM : ML w) :
    Calls Tryz.prog 38 #[S l] w fun e w' => e = .returned (.tuple #[.int .i64 (dtE l).1, .int .i64 (errI (dtE l).2)]) ∧ Below w.heap.size w w' := (w_DParseR l hl w hM).mono fun _ _ h => dout h
theorem w_told (name : List UInt8) (hn : name.length ≤ 1000) (l : List Fld) (hj : (l.map (fun f => f.1.length + f.2.length + 3)).sum ≤ 1048576) (A : Option Addr) (c : Nat) (w : World) (hr : ReadL encF w w.heap.size A l) (hP : PW w) (hM : ML w) :
    Calls Tryz.prog 40 #[.slice A l.length c, S name] w (fun e w' => e = .returned (.tuple #[.int .i64 (toldE name l).1, .bool (toldE name l).2]) ∧ Below w.heap.size w w') := by
  have hg := w_GetS name hn l hj A c w hr
  have hjl := join_ok (nm := lowL name) hj
  have hd := w_date (Lib.join (valsL (lowL name) l) sepL) (by omega)
  unfold toldE
  generalize Lib.join (valsL (lowL name) l) sepL = s at *
  generalize (valsL (lowL name) l).isEmpty = b at *
  generalize dtE s = td at *
  obtain ⟨n, d⟩ := td
  simp only at hd
  go_enter Tryz.func40, Tryz.ntmps40
  go_wp2_with fail
  refine hg.mono ?_
  rintro e w1 ⟨rfl, hb1⟩
  go_wp2_with fail
  refine (hd _ (hP.keep hb1) (hM.keep hb1)).mono ?_
  rintro e w2 ⟨rfl, hb2⟩
  cases b <;> cases d
  all_goals
    simp only [errI, Bool.not_true, Bool.not_false, if_true, Bool.false_eq_true, if_false]
    go_wp2_with fail
    go_ret2
    exact ⟨rfl, hb1.trans (hb2.mono hb1.size)⟩
theorem w_dateOfR (name : List UInt8) (hn : name.length ≤ 1000) (l : List Fld) (hj : (l.map (fun f => f.1.length + f.2.length + 3)).sum ≤ 1048576) (A : Option Addr) (c : Nat) (w : World) (hr : ReadL encF w w.heap.size A l) (hM : ML w) :
    Calls Tryz.prog 15 #[.slice A l.length c, S name] w (fun e w' => e = .returned (.tuple #[.int .i64 (toldE name l).1, .bool (toldE name l).2]) ∧ Below w.heap.size w w') := by
  have hg := w_GetRS name hn l hj A c w hr
  have hjl := join_ok (nm := lowL name) hj
  have hd := w_dateR (Lib.join (valsL (lowL name) l) sepL) (by omega)
  unfold toldE
  generalize Lib.join (valsL (lowL name) l) sepL = s at *
  generalize (valsL (lowL name) l).isEmpty = b at *
  generalize dtE s = td at *
  obtain ⟨n, d⟩ := td
  simp only at hd
  go_enter Tryz.func15, Tryz.ntmps15
  go_wp2_with fail
  refine hg.mono ?_
  rintro e w1 ⟨rfl, hb1⟩
  go_wp2_with fail
  refine (hd _ (hM.keep hb1)).mono ?_
  rintro e w2 ⟨rfl, hb2⟩
  cases b <;> cases d
  all_goals
    simp only [errI, Bool.not_true, Bool.not_false, if_true, Bool.false_eq_true, if_false]
    go_wp2_with fail
    go_ret2
    exact ⟨rfl, hb1.trans (hb2.mono hb1.size)⟩
end Go.Proofs.YtcoghpokkhjhgaaGreatDoor
