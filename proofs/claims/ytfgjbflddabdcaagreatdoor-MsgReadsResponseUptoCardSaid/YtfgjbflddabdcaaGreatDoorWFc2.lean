/- Walks: a field's check, the reference's; the checks of a list, both. -/
import Derived.Test.YtfgjbflddabdcaaGreatDoorWFc1
import Derived.Deep.RegionWith
namespace Go.Proofs.YtfgjbflddabdcaaGreatDoor
open Go.RowKit Go.Larder
set_option linter.unusedVariables false
set_option linter.unusedSimpArgs false

abbrev Fl := List UInt8 × List UInt8
def checkAll : List Fl → Int
  | [] => 0
  | f :: l => if checkF f.1 f.2 ≠ 0 then checkF f.1 f.2 else checkAll l
def checkE (l : List Fl) : Int := if 30 < l.length then 2 else checkAll l

set_option maxHeartbeats 2000000 in
theorem w_oneField (n v : List UInt8) (hn : n.length ≤ 140737488351232) (hv : v.length ≤ 140737488351232) (w : World) :
    Calls Tryz.prog 85 #[.agg #[S n, S v]] w fun e w' => e = .returned (.int .i64 (checkF n v)) ∧ Below w.heap.size w w' := by
  have hB1 := (Below.refl w.heap.size w).alloc (Nat.le_refl _) (.cells #[S n, S v] 55)
  have htok := fc_TokenR n hn
  have hcell : (w.alloc (.cells #[S n, S v] 55)).cell? ⟨w.heap.size, 1, none⟩ = some (S v) := by rw [cell_of_row _ _ _ _ _ (0, 0) (heap_alloc_new w _)]; rfl
  cases ht : isTok n
  · rw [checkF_tok ht]
    rw [ht] at htok
    go_enter Tryz.func85, Tryz.ntmps85
    go_wp2_with (go_at_call 35; refine (htok _).mono ?_; rintro e w' ⟨rfl, rfl⟩)
    go_ret
    exact ⟨rfl, hB1⟩
  · rw [ht] at htok
    by_cases hb1 : 30 < n.length
    · rw [checkF_big ht (.inl hb1)]
      go_enter Tryz.func85, Tryz.ntmps85
      go_wp2_with (go_at_call 35; refine (htok _).mono ?_; rintro e w' ⟨rfl, rfl⟩)
      go_ret
      exact ⟨rfl, hB1⟩
    · by_cases hb2 : 1000 < v.length
      · rw [checkF_big ht (.inr hb2)]
        go_enter Tryz.func85, Tryz.ntmps85
        go_wp2_with (go_at_call 35; refine (htok _).mono ?_; rintro e w' ⟨rfl, rfl⟩)
        go_ret
        exact ⟨rfl, hB1⟩
      · have hbb : ¬ (30 < n.length ∨ 1000 < v.length) := by omega
        have hpl := fc_plainR v hv
        have htr := fun w => fc_TrimR v.length v w (Nat.le_refl _) hv
        cases hp : v.all isPl
        · rw [checkF_bad ht hbb (fun h => by rw [hp] at h; simp at h)]
          rw [hp] at hpl
          clear hp
          go_enter Tryz.func85, Tryz.ntmps85
          go_wp2_with (go_at_call 35; refine (htok _).mono ?_; rintro e w' ⟨rfl, rfl⟩)
          first
            | go_region_with (go_at_call 36; refine (hpl _).mono ?_; rintro e w' ⟨rfl, rfl⟩)
            | fail
          all_goals go_wp2
          all_goals
            go_ret
            exact ⟨rfl, by go_grown⟩
        · rw [hp] at hpl
          cases htv : (trim v == v)
          · have hne : ¬ trim v = v := by simpa using htv
            rw [checkF_bad ht hbb (fun h => hne h.1)]
            generalize trim v = tv at htr htv
            clear hne hp
            go_enter Tryz.func85, Tryz.ntmps85
            go_wp2_with (go_at_call 35; refine (htok _).mono ?_; rintro e w' ⟨rfl, rfl⟩)
            go_region_with (first
              | (go_at_call 36; refine (hpl _).mono ?_; rintro e w' ⟨rfl, rfl⟩)
              | (go_at_call 84; refine (htr _).mono ?_; rintro e w1 ⟨rfl, hbw⟩; have hc1 : w1.cell? ⟨w.heap.size, 1, none⟩ = some (S v) := (hbw.cell (p := ⟨w.heap.size, 1, none⟩) (by show w.heap.size < (w.heap.push _).size; simp)).trans hcell))
            all_goals go_wp2
            all_goals
              go_ret
              exact ⟨rfl, hB1.drew.trans (hbw.mono (by show w.heap.size ≤ (w.heap.push _).size; simp))⟩
          · have hte : trim v = v := by simpa using htv
            rw [checkF_ok ht hbb hte hp]
            rw [hte] at htr
            clear hte hp htv
            go_enter Tryz.func85, Tryz.ntmps85
            go_wp2_with (go_at_call 35; refine (htok _).mono ?_; rintro e w' ⟨rfl, rfl⟩)
            go_region_with (first
              | (go_at_call 36; refine (hpl _).mono ?_; rintro e w' ⟨rfl, rfl⟩)
              | (go_at_call 84; refine (htr _).mono ?_; rintro e w1 ⟨rfl, hbw⟩; have hc1 : w1.cell? ⟨w.heap.size, 1, none⟩ = some (S v) := (hbw.cell (p := ⟨w.heap.size, 1, none⟩) (by show w.heap.size < (w.heap.push _).size; simp)).trans hcell))
            all_goals go_wp2
            all_goals
              go_ret
              exact ⟨rfl, hB1.drew.trans (hbw.mono (by show w.heap.size ≤ (w.heap.push _).size; simp))⟩

set_option maxHeartbeats 2000000 in
theorem w_Check (l : List Fl) (hx : ∀ f ∈ l, f.1.length ≤ 140737488351232 ∧ f.2.length ≤ 140737488351232) (hl : l.length ≤ 140737488351232) (A : Option Addr) (c : Nat) (w : World) (hr : ReadL encF w w.heap.size A l) :
    Calls Tryz.prog 58 #[.slice A l.length c] w fun e w' => e = .returned (.int .i64 (checkE l)) ∧ Below w.heap.size w w' := by
  by_cases hbig : 30 < l.length
  · rw [show checkE l = 2 from if_pos hbig]
    go_enter Tryz.func58, Tryz.ntmps58
    go_wp2_with fail
    go_ret
    exact ⟨rfl, Below.refl _ _⟩
  · rw [show checkE l = checkAll l from if_neg hbig]
    go_enter Tryz.func58, Tryz.ntmps58
    go_wp2_with fail
    go_loopw [11] (fun i' wr => ∃ k : Nat, i' = .int .i64 k ∧ k ≤ l.length ∧ checkAll (l.drop k) = checkAll l ∧ Below w.heap.size w wr) (fun i' _ => l.length - (intOf i').toNat)
    case atStart => exact ⟨0, rfl, by omega, rfl, Below.refl _ _⟩
    case round =>
      obtain ⟨k, rfl, hk, heq, hbel⟩ := hrel
      have hbs := hbel.size
      by_cases hlt : k < l.length
      · obtain ⟨⟨n, y⟩, hfx, hs⟩ := drop_step hlt
        have hxl := hx _ (List.mem_of_getElem? hfx)
        obtain ⟨g, off, rfl, hgb, hc0, hc1⟩ := (hr.below hbel (Nat.le_refl _)).at_F hfx
        have hch := w_check n y hxl.1 hxl.2
        rw [hs, checkAll] at heq
        simp only at heq
        generalize checkF n y = v at hch heq
        clear hs hfx
        cases hv : (v == 0)
        · have hv1 : v ≠ 0 := by simpa using hv
          rw [if_pos hv1] at heq
          have Heq := Lib.hid heq; clear heq
          go_wp2_with (go_at_call 78; refine (hch _).mono ?_; rintro e w2 ⟨rfl, hb2⟩)
          go_ret
          rw [← Heq.out]
          exact ⟨rfl, (hbel.alloc hbs _).trans (hb2.mono (by simp; omega))⟩
        · have hv1 : v = 0 := by simpa using hv
          subst hv1
          rw [if_neg (by simp)] at heq
          have Heq := Lib.hid heq; clear heq
          go_wp2_with (go_at_call 78; refine (hch _).mono ?_; rintro e w2 ⟨rfl, hb2⟩)
          go_roundw
          case rel => exact ⟨k + 1, by go_num, by omega, Heq.out, (hbel.alloc hbs _).trans (hb2.mono (by simp; omega))⟩
          case measure => simp [intOf]; omega
      · rw [drop_end hlt, checkAll] at heq
        have Heq := Lib.hid heq; clear heq
        go_wp2_with fail
        go_ret
        rw [← Heq.out]
        exact ⟨rfl, hbel⟩

set_option maxHeartbeats 2000000 in
theorem w_CheckR (l : List Fl) (hx : ∀ f ∈ l, f.1.length ≤ 140737488351232 ∧ f.2.length ≤ 140737488351232) (hl : l.length ≤ 140737488351232) (A : Option Addr) (c : Nat) (w : World) (hr : ReadL encF w w.heap.size A l) :
    Calls Tryz.prog 67 #[.slice A l.length c] w fun e w' => e = .returned (.int .i64 (checkE l)) ∧ Below w.heap.size w w' := by
  by_cases hbig : 30 < l.length
  · rw [show checkE l = 2 from if_pos hbig]
    go_enter Tryz.func67, Tryz.ntmps67
    go_wp2_with fail
    go_ret
    exact ⟨rfl, Below.refl _ _⟩
  · rw [show checkE l = checkAll l from if_neg hbig]
    go_enter Tryz.func67, Tryz.ntmps67
    go_wp2_with fail
    go_loopw [11] (fun i' wr => ∃ k : Nat, i' = .int .i64 k ∧ k ≤ l.length ∧ checkAll (l.drop k) = checkAll l ∧ Below w.heap.size w wr) (fun i' _ => l.length - (intOf i').toNat)
    case atStart => exact ⟨0, rfl, by omega, rfl, Below.refl _ _⟩
    case round =>
      obtain ⟨k, rfl, hk, heq, hbel⟩ := hrel
      have hbs := hbel.size
      by_cases hlt : k < l.length
      · obtain ⟨⟨n, y⟩, hfx, hs⟩ := drop_step hlt
        have hxl := hx _ (List.mem_of_getElem? hfx)
        obtain ⟨g, off, rfl, hgb, hc0, hc1⟩ := (hr.below hbel (Nat.le_refl _)).at_F hfx
        have hch := w_oneField n y hxl.1 hxl.2
        rw [hs, checkAll] at heq
        simp only at heq
        generalize checkF n y = v at hch heq
        clear hs hfx
        cases hv : (v == 0)
        · have hv1 : v ≠ 0 := by simpa using hv
          rw [if_pos hv1] at heq
          have Heq := Lib.hid heq; clear heq
          go_wp2_with (go_at_call 85; refine (hch _).mono ?_; rintro e w2 ⟨rfl, hb2⟩)
          go_ret
          rw [← Heq.out]
          exact ⟨rfl, (hbel.alloc hbs _).trans (hb2.mono (by simp; omega))⟩
        · have hv1 : v = 0 := by simpa using hv
          subst hv1
          rw [if_neg (by simp)] at heq
          have Heq := Lib.hid heq; clear heq
          go_wp2_with (go_at_call 85; refine (hch _).mono ?_; rintro e w2 ⟨rfl, hb2⟩)
          go_roundw
          case rel => exact ⟨k + 1, by go_num, by omega, Heq.out, (hbel.alloc hbs _).trans (hb2.mono (by simp; omega))⟩
          case measure => simp [intOf]; omega
      · rw [drop_end hlt, checkAll] at heq
        have Heq := Lib.hid heq; clear heq
        go_wp2_with fail
        go_ret
        rw [← Heq.out]
        exact ⟨rfl, hbel⟩
end Go.Proofs.YtfgjbflddabdcaaGreatDoor
