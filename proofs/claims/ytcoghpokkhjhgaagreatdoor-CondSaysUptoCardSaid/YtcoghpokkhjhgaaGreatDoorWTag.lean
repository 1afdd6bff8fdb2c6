/- Walks: entity tags: the program's, the reference's. -/
import Derived.Test.YtcoghpokkhjhgaaGreatDoorWLib
import Derived.Test.YtcoghpokkhjhgaaGreatDoorWPlainR
import Derived.Test.YtcoghpokkhjhgaaGreatDoorWCutOne
import Derived.Test.YtcoghpokkhjhgaaGreatDoorSpecs
import Derived.Test.YtcoghpokkhjhgaaGreatDoorBoxAt
import Derived.Test.YtcoghpokkhjhgaaGreatDoorFlat
import Derived.Deep.RegionWith
namespace Go.Proofs.YtcoghpokkhjhgaaGreatDoor
open Go.RowKit Go.Larder
set_option linter.unusedVariables false
set_option linter.unusedSimpArgs false

theorem w_isTagByte (c : UInt8) (w : World) :
    Calls Tryz.prog 80 #[.int .u8 c.toNat] w fun e w' => e = .returned (.bool (isTagB c)) ∧ w = w' := by
  cases h3 : ((c.toNat : Int) == 33) <;> by_cases h1 : 35 ≤ (c.toNat : Int) <;> by_cases h2 : (c.toNat : Int) ≤ 126 <;>
    (go_enter Tryz.func80, Tryz.ntmps80
     go_wp2
     go_ret
     refine ⟨ret_bool ?_, rfl⟩
     simp at h1 h2 h3
     simp [isTagB, h1, h2, h3]
     try omega)

def NOK (e : Ending) (b : Bool) : Prop := ∃ a n, e = .returned (.tuple #[S a, .int .i64 n]) ∧ (n == 0) = b

set_option maxHeartbeats 1000000 in
theorem w_TagPrint (wk : Bool) (t : List UInt8) (w : World) :
    Calls Tryz.prog 54 #[.agg #[.bool wk, S t]] w (StPost w (tagE wk t)) := by
  have hB1 := (Below.refl w.heap.size w).alloc (Nat.le_refl _) (.cells #[.bool wk, S t] 34)
  by_cases hb : 100 < t.length
  · rw [show tagE wk t = .error 2 from by unfold tagE; rw [if_pos hb]]
    go_enter Tryz.func54, Tryz.ntmps54
    go_wp2_with fail
    go_ret2
    exact ⟨rfl, hB1⟩
  · cases hp : t.all isTagB
    · rw [show tagE wk t = .error 3 from by unfold tagE; rw [if_neg hb, if_neg (by rw [hp]; simp)]]
      have Hp := Lib.hid hp
      clear hp
      go_enter Tryz.func54, Tryz.ntmps54
      go_wp2_with fail
      go_loop [13] (fun i' => ∃ k : Nat, i' = .int .i64 k ∧ k ≤ t.length ∧ Hid ((t.drop k).all isTagB = t.all isTagB)) (fun i' => t.length - (intOf i').toNat)
      case atStart => exact ⟨0, rfl, by omega, Lib.hid rfl⟩
      case round =>
        obtain ⟨k, rfl, hk, Hd⟩ := hrel
        by_cases hlt : k < t.length
        · obtain ⟨x, hx, hs⟩ := drop_step hlt
          have hg : ∀ h, t[k]'h = x := fun h => by rw [List.getElem?_eq_getElem h] at hx; exact Option.some.inj hx
          have Hs := Lib.hid hs; clear hs hx
          cases hpx : isTagB x
          · go_wp2_with (go_at_call 80; refine (w_isTagByte x _).mono ?_; rintro e w' ⟨rfl, rfl⟩)
            go_ret2
            exact ⟨rfl, hB1⟩
          · have Hx := Lib.hid hpx
            go_wp2_with (go_at_call 80; refine (w_isTagByte x _).mono ?_; rintro e w' ⟨rfl, rfl⟩)
            go_round
            case rel => exact ⟨k + 1, by go_num, by omega, Lib.hid (by rw [← Hd.out, Hs.out, List.all_cons, Hx.out]; rfl)⟩
            case measure => simp [intOf]; omega
        · have := Hd.out
          rw [drop_end hlt, Hp.out] at this
          cases this
    · rw [show tagE wk t = .ok (tagL wk t) from by unfold tagE; rw [if_neg hb, if_pos hp]]
      have hall := List.all_eq_true.1 hp
      clear hp
      cases wk
      all_goals
        go_enter Tryz.func54, Tryz.ntmps54
        go_wp2_with fail
        go_loop [13] (fun i' => ∃ k : Nat, i' = .int .i64 k ∧ k ≤ t.length) (fun i' => t.length - (intOf i').toNat)
        case atStart => exact ⟨0, rfl, by omega⟩
        case round =>
          obtain ⟨k, rfl, hk⟩ := hrel
          by_cases hlt : k < t.length
          · obtain ⟨x, hx, hs⟩ := drop_step hlt
            have hpx := hall x (List.mem_of_getElem? hx)
            have hg : ∀ h, t[k]'h = x := fun h => by rw [List.getElem?_eq_getElem h] at hx; exact Option.some.inj hx
            clear hs hx
            go_wp2_with (go_at_call 80; refine (w_isTagByte x _).mono ?_; rintro e w' ⟨rfl, rfl⟩)
            go_round
            case rel => exact ⟨k + 1, by go_num, by omega⟩
            case measure => simp [intOf]; omega
          · go_wp2_with fail
            go_ret2
            exact ⟨by simp [tagL, wkL], hB1⟩

theorem w_TagPrint_any (wk : Bool) (t : List UInt8) (w : World) :
    Calls Tryz.prog 54 #[.agg #[.bool wk, S t]] w (fun e w' => NOK e (tagOK t) ∧ Below w.heap.size w w') := by
  refine (w_TagPrint wk t w).mono ?_
  rintro e w' ⟨h1, h2⟩
  refine ⟨?_, h2⟩
  cases h : tagOK t
  · obtain ⟨n, hn, hn0⟩ := tagE_bad (wk := wk) h
    rw [hn] at h1
    exact ⟨[], n, h1, hn0⟩
  · rw [tagE_ok h] at h1
    exact ⟨_, 0, h1, rfl⟩

set_option maxHeartbeats 1000000 in
theorem w_TagPrintR (wk : Bool) (t : List UInt8) (w : World) :
    Calls Tryz.prog 67 #[.agg #[.bool wk, S t]] w (StPost w (tagE wk t)) := by
  have hB1 := (Below.refl w.heap.size w).alloc (Nat.le_refl _) (.cells #[.bool wk, S t] 34)
  by_cases hb : 100 < t.length
  · rw [show tagE wk t = .error 2 from by unfold tagE; rw [if_pos hb]]
    go_enter Tryz.func67, Tryz.ntmps67
    go_wp2_with fail
    go_ret2
    exact ⟨rfl, hB1⟩
  · have hall := all_plain_but tagB_eq t
    have hpl := fun w => c1_plainR t (by omega) w
    cases hp : t.all isPl
    · rw [hp, Bool.false_and] at hall
      rw [show tagE wk t = .error 3 from by unfold tagE; rw [if_neg hb, if_neg (by rw [hall]; simp)]]
      simp only [hp] at hpl
      clear hp hall
      go_enter Tryz.func67, Tryz.ntmps67
      go_wp2_with (go_at_call 99; refine (hpl _).mono ?_; rintro e w' ⟨rfl, rfl⟩)
      go_ret2
      exact ⟨rfl, hB1⟩
    · have hca := fun w => w_ContainsAny t [32, 9, 34] (by omega) (by decide) (plain_asc hp) (by decide) w
      rw [hp, Bool.true_and] at hall
      simp only [hp] at hpl
      cases hc : Lib.containsAny t [32, 9, 34]
      · rw [hc] at hall
        rw [show tagE wk t = .ok (tagL wk t) from by unfold tagE; rw [if_neg hb, if_pos (by rw [hall]; rfl)]]
        simp only [hc] at hca
        clear hp hall hc
        have bx := BoxAt.new w [.bool wk, S t] 34
        cases wk
        all_goals
          go_enter Tryz.func67, Tryz.ntmps67
          go_wp2_with (first
            | (go_at_call 99; refine (hpl _).mono ?_; rintro e w' ⟨rfl, rfl⟩)
            | (go_at_call 100; refine (hca _).mono ?_; rintro e w1 ⟨rfl, hb1⟩
               have bx1 := bx.keep hb1
               have q0 := bx1.cell (j := 0) rfl
               have q1 := bx1.cell (j := 1) rfl))
          go_ret2
          exact ⟨by simp [tagL, wkL], hB1.trans (hb1.mono (by simp))⟩
      · rw [hc] at hall
        rw [show tagE wk t = .error 3 from by unfold tagE; rw [if_neg hb, if_neg (by rw [hall]; simp)]]
        simp only [hc] at hca
        clear hp hall hc
        go_enter Tryz.func67, Tryz.ntmps67
        go_wp2_with (first
          | (go_at_call 99; refine (hpl _).mono ?_; rintro e w' ⟨rfl, rfl⟩)
          | (go_at_call 100; refine (hca _).mono ?_; rintro e w1 ⟨rfl, hb1⟩))
        go_ret2
        exact ⟨rfl, hB1.trans (hb1.mono (by simp))⟩
end Go.Proofs.YtcoghpokkhjhgaaGreatDoor
