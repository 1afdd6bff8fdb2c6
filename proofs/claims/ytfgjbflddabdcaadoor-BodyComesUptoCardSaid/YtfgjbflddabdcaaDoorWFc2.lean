/- Walks: a field's check, the reference's; the checks of a list, both. -/
import Derived.Test.YtfgjbflddabdcaaDoorWFc1
import Derived.Deep.RegionWith
namespace Go.Proofs.YtfgjbflddabdcaaDoor
open Go.RowKit Go.Larder
set_option linter.unusedVariables false
set_option linter.unusedSimpArgs false

abbrev Fl := List UInt8 × List UInt8
def checkAll : List Fl → Int
  | [] => 0
  | f :: l => if checkF f.1 f.2 ≠ 0 then checkF f.1 f.2 else checkAll l
def checkE (l : List Fl) : Int := if 30 < l.length then 2 else checkAll l

set_option maxHeartbeats 2000000 in
theorem w_oneField (n v : List UInt8) (hn : n.length ≤ 140737488351232) (hv : v.length ≤ 140737488351232) (w : World) :
    Calls Tryd.prog 67 #[.agg #[S n, S v]] w fun e w' => e = .returned (.int .i64 (checkF n v)) ∧ Below w.heap.size w w' := by
  have hB1 := (Below.refl w.heap.size w).alloc (Nat.le_refl _) (.cells #[S n, S v] 106)
  have htok := fc_TokenR n hn
  have hcell : (w.alloc (.cells #[S n, S v] 106)).cell? ⟨w.heap.size, 1, none⟩ = some (S v) := by rw [cell_of_row _ _ _ _ _ (0, 0) (heap_alloc_new w _)]; rfl
  cases ht : isTok n
  · rw [checkF_tok ht]
    rw [ht] at htok
    go_enter Tryd.func67, Tryd.ntmps67
    go_wp2_with (go_at_call 26; refine (htok _).mono ?_; rintro e w' ⟨rfl, rfl⟩)
    go_ret
    exact ⟨rfl, hB1⟩
  · rw [ht] at htok
    by_cases hb1 : 30 < n.length
    · rw [checkF_big ht (.inl hb1)]
      go_enter Tryd.func67, Tryd.ntmps67
      go_wp2_with (go_at_call 26; refine (htok _).mono ?_; rintro e w' ⟨rfl, rfl⟩)
      go_ret
      exact ⟨rfl, hB1⟩
    · by_cases hb2 : 1000 < v.length
      · rw [checkF_big ht (.inr hb2)]
        go_enter Tryd.func67, Tryd.ntmps67
        go_wp2_with (go_at_call 26; refine (htok _).mono ?_; rintro e w' ⟨rfl, rfl⟩)
        go_ret
        exact ⟨rfl, hB1⟩
      · have hbb : ¬ (30 < n.length ∨ 1000 < v.length) := by omega
        have hpl := fc_plainR v hv
        have htr := fun w => fc_TrimR v.length v w (Nat.le_refl _) hv
        cases hp : v.all isPl
        · rw [checkF_bad ht hbb (fun h => by rw [hp] at h; simp at h)]
          rw [hp] at hpl
          clear hp
          go_enter Tryd.func67, Tryd.ntmps67
          go_wp2_with (go_at_call 26; refine (htok _).mono ?_; rintro e w' ⟨rfl, rfl⟩)
          first
            | go_region_with (go_at_call 65; refine (hpl _).mono ?_; rintro e w' ⟨rfl, rfl⟩)
            | fail
          all_goals go_wp2
          all_goals
            go_ret
            exact ⟨rfl, by go_grown⟩
        · rw [hp] at hpl
          cases htv : (trim v == v)
          · have hne : ¬ trim v = v := by simpa using htv
            rw [checkF_bad ht hbb (fun h => hne h.1)]
            generalize trim v = tv at htr htv
            clear hne hp
            go_enter Tryd.func67, Tryd.ntmps67
            go_wp2_with (go_at_call 26; refine (htok _).mono ?_; rintro e w' ⟨rfl, rfl⟩)
            go_region_with (first
              | (go_at_call 65; refine (hpl _).mono ?_; rintro e w' ⟨rfl, rfl⟩)
              | (go_at_call 40; refine (htr _).mono ?_; rintro e w1 ⟨rfl, hbw⟩; have hc1 : w1.cell? ⟨w.heap.size, 1, none⟩ = some (S v) := (hbw.cell (p := ⟨w.heap.size, 1, none⟩) (by show w.heap.size < (w.heap.push _).size; simp)).trans hcell))
            all_goals go_wp2
            all_goals
              go_ret
              exact ⟨rfl, hB1.drew.trans (hbw.mono (by show w.heap.size ≤ (w.heap.push _).size; simp))⟩
          · have hte : trim v = v := by simpa using htv
            rw [checkF_ok ht hbb hte hp]
            rw [hte] at htr
            clear hte hp htv
            go_enter Tryd.func67, Tryd.ntmps67
            go_wp2_with (go_at_call 26; refine (htok _).mono ?_; rintro e w' ⟨rfl, rfl⟩)
            go_region_with (first
              | (go_at_call 65; refine (hpl _).mono ?_; rintro e w' ⟨rfl, rfl⟩)
              | (go_at_call 40; refine (htr _).mono ?_; rintro e w1 ⟨rfl, hbw⟩; have hc1 : w1.cell? ⟨w.heap.size, 1, none⟩ = some (S v) := (hbw.cell (p := ⟨w.heap.size, 1, none⟩) (by show w.heap.size < (w.heap.push _).size; simp)).trans hcell))
            all_goals go_wp2
            all_goals
              go_ret
              exact ⟨rfl, hB1.drew.trans (hbw.mono (by show w.heap.size ≤ (w.heap.push _).size; simp))⟩

end Go.Proofs.YtfgjbflddabdcaaDoor
