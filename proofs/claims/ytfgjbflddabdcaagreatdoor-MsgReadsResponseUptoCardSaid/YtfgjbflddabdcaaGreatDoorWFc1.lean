/- Walk: a field's check, the program's. -/
import Derived.Test.YtfgjbflddabdcaaGreatDoorWFc0
import Derived.Test.YtfgjbflddabdcaaGreatDoorWTrimP
namespace Go.Proofs.YtfgjbflddabdcaaGreatDoor
open Go.RowKit Go.Larder
set_option linter.unusedVariables false
set_option linter.unusedSimpArgs false

/-- A block that was laid ahead of a call is as it was. -/
theorem box_keptC {w w1 : World} {cs : Array Value} {e : TypeId} (hb : Below (w.alloc (.cells cs e)).heap.size (w.alloc (.cells cs e)) w1) :
    w1.heap[w.heap.size]? = some (.cells cs e (0, 0)) := (hb.block _ (by simp)).trans (by show (w.heap.push _)[w.heap.size]? = _; simp)
def checkF (n v : List UInt8) : Int :=
  if isTok n then (if 30 < n.length ∨ 1000 < v.length then 2 else if trim v = v ∧ v.all isPl = true then 0 else 3) else 3
theorem checkF_tok {n v : List UInt8} (h : isTok n = false) : checkF n v = 3 := by unfold checkF; rw [if_neg (by simp [h])]
theorem checkF_big {n v : List UInt8} (h : isTok n = true) (hb : 30 < n.length ∨ 1000 < v.length) : checkF n v = 2 := by unfold checkF; rw [if_pos h, if_pos hb]
theorem checkF_ok {n v : List UInt8} (h : isTok n = true) (hb : ¬ (30 < n.length ∨ 1000 < v.length)) (ht : trim v = v) (hp : v.all isPl = true) : checkF n v = 0 := by unfold checkF; rw [if_pos h, if_neg hb, if_pos ⟨ht, hp⟩]
theorem checkF_bad {n v : List UInt8} (h : isTok n = true) (hb : ¬ (30 < n.length ∨ 1000 < v.length)) (ht : ¬ (trim v = v ∧ v.all isPl = true)) : checkF n v = 3 := by unfold checkF; rw [if_pos h, if_neg hb, if_neg ht]

set_option maxHeartbeats 2000000 in
theorem w_check (n v : List UInt8) (hn : n.length ≤ 140737488351232) (hv : v.length ≤ 140737488351232) (w : World) :
    Calls Tryz.prog 78 #[.agg #[S n, S v]] w fun e w' => e = .returned (.int .i64 (checkF n v)) ∧ Below w.heap.size w w' := by
  have hB1 := (Below.refl w.heap.size w).alloc (Nat.le_refl _) (.cells #[S n, S v] 55)
  have htok := fc_IsToken n hn
  cases ht : isTok n
  · rw [checkF_tok ht]
    rw [ht] at htok
    go_enter Tryz.func78, Tryz.ntmps78
    go_wp2_with (go_at_call 56; refine (htok _).mono ?_; rintro e w' ⟨rfl, rfl⟩)
    go_ret
    exact ⟨rfl, hB1⟩
  · rw [ht] at htok
    by_cases hb1 : 30 < n.length
    · rw [checkF_big ht (.inl hb1)]
      go_enter Tryz.func78, Tryz.ntmps78
      go_wp2_with (go_at_call 56; refine (htok _).mono ?_; rintro e w' ⟨rfl, rfl⟩)
      go_ret
      exact ⟨rfl, hB1⟩
    · by_cases hb2 : 1000 < v.length
      · rw [checkF_big ht (.inr hb2)]
        go_enter Tryz.func78, Tryz.ntmps78
        go_wp2_with (go_at_call 56; refine (htok _).mono ?_; rintro e w' ⟨rfl, rfl⟩)
        go_ret
        exact ⟨rfl, hB1⟩
      · have hbb : ¬ (30 < n.length ∨ 1000 < v.length) := by omega
        have htr := w_Trim v hv
        cases htv : (v == trim v)
        · have hne : ¬ trim v = v := fun h => by rw [h] at htv; simp at htv
          rw [checkF_bad ht hbb (fun h => hne h.1)]
          go_enter Tryz.func78, Tryz.ntmps78
          go_wp2_with (first
            | (go_at_call 56; refine (htok _).mono ?_; rintro e w' ⟨rfl, rfl⟩)
            | (go_at_call 77; refine (htr _).mono ?_; rintro e w1 ⟨rfl, hbw⟩))
          go_ret
          exact ⟨rfl, hB1.trans (hbw.mono (by simp))⟩
        · have hte : trim v = v := by have := htv; simp at this; exact this.symm
          rw [hte] at htr htv
          cases hp : v.all isPl
          · rw [checkF_bad ht hbb (fun h => by rw [hp] at h; simp at h)]
            have Hp := Lib.hid hp
            clear hp
            go_enter Tryz.func78, Tryz.ntmps78
            go_wp2_with (first
              | (go_at_call 56; refine (htok _).mono ?_; rintro e w' ⟨rfl, rfl⟩)
              | (go_at_call 77; refine (htr _).mono ?_; rintro e w1 ⟨rfl, hbw⟩))
            go_loop [29] (fun i' => ∃ k : Nat, i' = .int .i64 k ∧ k ≤ v.length ∧ (v.take k).all isPl = true) (fun i' => v.length - (intOf i').toNat)
            case atStart => exact ⟨0, rfl, by omega, rfl⟩
            case round =>
              obtain ⟨k, rfl, hk, hall⟩ := hrel
              by_cases hlt : k < v.length
              · obtain ⟨x, hx, _⟩ := drop_step hlt
                have Hall := Lib.hid hall; clear hall
                have Hx := Lib.hid hx
                have hg : ∀ h, v[k]'h = x := fun h => by rw [List.getElem?_eq_getElem h] at hx; exact Option.some.inj hx
                clear hx
                cases hpx : isPl x
                · go_wp2_with (go_at_call 112; refine (fc_isPlain x _).mono ?_; rintro e w' ⟨rfl, rfl⟩)
                  go_ret
                  exact ⟨rfl, hB1.trans (hbw.mono (by simp))⟩
                · go_wp2_with (go_at_call 112; refine (fc_isPlain x _).mono ?_; rintro e w' ⟨rfl, rfl⟩)
                  go_round
                  case rel => exact ⟨k + 1, by go_num, by omega, all_step Hx.out Hall.out hpx⟩
                  case measure => simp [intOf]; omega
              · obtain rfl : k = v.length := by omega
                rw [List.take_length, Hp.out] at hall
                cases hall
          · rw [checkF_ok ht hbb hte hp]
            have hpall : ∀ x ∈ v, isPl x = true := List.all_eq_true.1 hp
            clear hp
            go_enter Tryz.func78, Tryz.ntmps78
            go_wp2_with (first
              | (go_at_call 56; refine (htok _).mono ?_; rintro e w' ⟨rfl, rfl⟩)
              | (go_at_call 77; refine (htr _).mono ?_; rintro e w1 ⟨rfl, hbw⟩))
            go_loop [29] (fun i' => ∃ k : Nat, i' = .int .i64 k ∧ k ≤ v.length) (fun i' => v.length - (intOf i').toNat)
            case atStart => exact ⟨0, rfl, by omega⟩
            case round =>
              obtain ⟨k, rfl, hk⟩ := hrel
              by_cases hlt : k < v.length
              · obtain ⟨x, hx, _⟩ := drop_step hlt
                have hpx := hpall x (List.mem_of_getElem? hx)
                have hg : ∀ h, v[k]'h = x := fun h => by rw [List.getElem?_eq_getElem h] at hx; exact Option.some.inj hx
                clear hx
                go_wp2_with (go_at_call 112; refine (fc_isPlain x _).mono ?_; rintro e w' ⟨rfl, rfl⟩)
                go_round
                case rel => exact ⟨k + 1, by go_num, by omega⟩
                case measure => simp [intOf]; omega
              · go_wp2_with fail
                go_ret
                exact ⟨rfl, hB1.trans (hbw.mono (by simp))⟩
end Go.Proofs.YtfgjbflddabdcaaGreatDoor
