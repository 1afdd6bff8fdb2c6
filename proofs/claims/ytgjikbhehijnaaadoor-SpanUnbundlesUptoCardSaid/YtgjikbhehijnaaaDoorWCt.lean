/- Walks: a part of a body, told: span.PrintContent, the reference's ContentPrint. -/
import Derived.Test.YtgjikbhehijnaaaDoorWItoa
import Derived.Test.YtgjikbhehijnaaaDoorWStr
import Derived.Test.YtgjikbhehijnaaaDoorBoxAt
import Derived.Test.YtgjikbhehijnaaaDoorSpecCt
import Derived.Deep.RegionWith
namespace Go.Proofs.YtgjikbhehijnaaaDoor
open Go.RowKit Go.Larder
set_option linter.unusedVariables false
set_option linter.unusedSimpArgs false
theorem ctOK_no {a b z : Int} (h : ¬ (0 ≤ a ∧ a < b ∧ b ≤ z ∧ z ≤ 99999)) : ctOK a b z = false := by rw [Bool.eq_false_iff]; intro h2; exact h (ctOK_iff.1 h2)
theorem ctE_no {a b z : Int} (h : ctOK a b z = false) : ctE a b z = .error 1 := by unfold ctE; rw [h]; rfl
theorem ctE_yes {a b z : Int} (h : ctOK a b z = true) : ctE a b z = .ok (ctL a b z) := by unfold ctE; rw [h]; rfl
theorem w_isContent (a b z : Int) (w : World) :
    Calls Tryd.prog 80 #[.agg #[.int .i64 a, .int .i64 b], .int .i64 z] w fun e w' => e = .returned (.bool (ctOK a b z)) ∧ Below w.heap.size w w' := by
  have hB := (Below.refl w.heap.size w).alloc (Nat.le_refl _) (.cells #[.int .i64 a, .int .i64 b] 61)
  by_cases h1 : 0 ≤ a
  · by_cases h2 : a < b
    · by_cases h3 : b ≤ z
      · by_cases h4 : z ≤ 99999
        · have e := Lib.hid (ctOK_iff (a := a) (b := b) (z := z) |>.2 ⟨h1, h2, h3, h4⟩)
          go_enter Tryd.func80, Tryd.ntmps80
          go_wp2_with fail
          go_ret
          rw [e.out]
          exact ⟨by first | rfl | (simp; omega), hB⟩
        · have e := Lib.hid (ctOK_no (a := a) (b := b) (z := z) (by omega))
          go_enter Tryd.func80, Tryd.ntmps80
          go_wp2_with fail
          go_ret
          rw [e.out]
          exact ⟨by first | rfl | (simp; omega), hB⟩
      · have e := Lib.hid (ctOK_no (a := a) (b := b) (z := z) (by omega))
        go_enter Tryd.func80, Tryd.ntmps80
        go_wp2_with fail
        go_ret
        rw [e.out]
        exact ⟨by first | rfl | (simp; omega), hB⟩
    · have e := Lib.hid (ctOK_no (a := a) (b := b) (z := z) (by omega))
      go_enter Tryd.func80, Tryd.ntmps80
      go_wp2_with fail
      go_ret
      rw [e.out]
      exact ⟨by first | rfl | (simp; omega), hB⟩
  · have e := Lib.hid (ctOK_no (a := a) (b := b) (z := z) (by omega))
    go_enter Tryd.func80, Tryd.ntmps80
    go_wp2_with fail
    go_ret
    rw [e.out]
    exact ⟨by first | rfl | (simp; omega), hB⟩

set_option maxHeartbeats 2000000 in
theorem w_PContentR (a b z : Int) (w : World) :
    Calls Tryd.prog 85 #[.agg #[.int .i64 a, .int .i64 b], .int .i64 z] w (StPost w (ctE a b z)) := by
  have hB := (Below.refl w.heap.size w).alloc (Nat.le_refl _) (.cells #[.int .i64 a, .int .i64 b] 61)
  have bx := BoxAt.new w [.int .i64 a, .int .i64 b] 61
  cases hok : ctOK a b z
  · have Hq := Lib.hid (ctE_no hok)
    have hn : ¬ (0 ≤ a ∧ a < b ∧ b ≤ z ∧ z ≤ 99999) := fun h => by rw [ctOK_iff.2 h] at hok; cases hok
    clear hok
    go_enter Tryd.func85, Tryd.ntmps85
    go_wp2_with fail
    all_goals
      go_ret2
      rw [Hq.out]
      exact ⟨rfl, hB⟩
  · have Hq := Lib.hid (ctE_yes hok)
    obtain ⟨h1, h2, h3, h4⟩ := ctOK_iff.1 hok
    clear hok
    have c1 : ∀ w, Calls Tryd.prog 102 #[.int .i64 (a)] w fun e w' => e = .returned (S (dL (a))) ∧ Below w.heap.size w w' := fun w => w_Dig (a) (by omega) (by omega) w
    have m1 : (dL (a)).length ≤ 18 := dec_len18 (n := (a).toNat) (by omega)
    have c2 : ∀ w, Calls Tryd.prog 102 #[.int .i64 (b - 1)] w fun e w' => e = .returned (S (dL (b - 1))) ∧ Below w.heap.size w w' := fun w => w_Dig (b - 1) (by omega) (by omega) w
    have m2 : (dL (b - 1)).length ≤ 18 := dec_len18 (n := (b - 1).toNat) (by omega)
    have c3 : ∀ w, Calls Tryd.prog 102 #[.int .i64 (z)] w fun e w' => e = .returned (S (dL (z))) ∧ Below w.heap.size w w' := fun w => w_Dig (z) (by omega) (by omega) w
    have m3 : (dL (z)).length ≤ 18 := dec_len18 (n := (z).toNat) (by omega)
    have HL := Lib.hid (show ctL a b z = ctPre ++ dL a ++ [45] ++ dL (b - 1) ++ [47] ++ dL z from rfl)
    generalize dL (a) = D1 at *
    generalize dL (b - 1) = D2 at *
    generalize dL (z) = D3 at *
    have s1 : IntKind.i64.wrap (b - 1) = b - 1 := IntWalk.i64_in _ ⟨by omega, by omega⟩
    obtain ⟨A1, hA1⟩ : ∃ x, ([98, 121, 116, 101, 115, 32] : List UInt8) ++ D1 = x := ⟨_, rfl⟩
    have lA1 : A1.length = ([98, 121, 116, 101, 115, 32] : List UInt8).length + D1.length := by rw [← hA1, List.length_append]
    (try simp only [List.length_cons, List.length_nil] at lA1)
    have aA1 : ∀ w, (Op.stringOp .add ⟨#[98, 121, 116, 101, 115, 32]⟩ ⟨D1.toArray⟩).run Tryd.prog w = .ok (.string ⟨A1.toArray⟩) w := fun w => by rw [← hA1]; exact run_cat [98, 121, 116, 101, 115, 32] D1 (by first | omega | (simp; omega) | simp) (by first | omega | (simp; omega) | simp) w
    obtain ⟨A2, hA2⟩ : ∃ x, A1 ++ [45] = x := ⟨_, rfl⟩
    have lA2 : A2.length = A1.length + ([45] : List UInt8).length := by rw [← hA2, List.length_append]
    (try simp only [List.length_cons, List.length_nil] at lA2)
    have aA2 : ∀ w, (Op.stringOp .add ⟨A1.toArray⟩ ⟨#[45]⟩).run Tryd.prog w = .ok (.string ⟨A2.toArray⟩) w := fun w => by rw [← hA2]; exact run_cat (A1) [45] (by first | omega | (simp; omega) | simp) (by first | omega | (simp; omega) | simp) w
    obtain ⟨A3, hA3⟩ : ∃ x, A2 ++ D2 = x := ⟨_, rfl⟩
    have lA3 : A3.length = A2.length + D2.length := by rw [← hA3, List.length_append]
    (try simp only [List.length_cons, List.length_nil] at lA3)
    have aA3 : ∀ w, (Op.stringOp .add ⟨A2.toArray⟩ ⟨D2.toArray⟩).run Tryd.prog w = .ok (.string ⟨A3.toArray⟩) w := fun w => by rw [← hA3]; exact run_cat (A2) D2 (by first | omega | (simp; omega) | simp) (by first | omega | (simp; omega) | simp) w
    obtain ⟨A4, hA4⟩ : ∃ x, A3 ++ [47] = x := ⟨_, rfl⟩
    have lA4 : A4.length = A3.length + ([47] : List UInt8).length := by rw [← hA4, List.length_append]
    (try simp only [List.length_cons, List.length_nil] at lA4)
    have aA4 : ∀ w, (Op.stringOp .add ⟨A3.toArray⟩ ⟨#[47]⟩).run Tryd.prog w = .ok (.string ⟨A4.toArray⟩) w := fun w => by rw [← hA4]; exact run_cat (A3) [47] (by first | omega | (simp; omega) | simp) (by first | omega | (simp; omega) | simp) w
    obtain ⟨A5, hA5⟩ : ∃ x, A4 ++ D3 = x := ⟨_, rfl⟩
    have lA5 : A5.length = A4.length + D3.length := by rw [← hA5, List.length_append]
    (try simp only [List.length_cons, List.length_nil] at lA5)
    have aA5 : ∀ w, (Op.stringOp .add ⟨A4.toArray⟩ ⟨D3.toArray⟩).run Tryd.prog w = .ok (.string ⟨A5.toArray⟩) w := fun w => by rw [← hA5]; exact run_cat (A4) D3 (by first | omega | (simp; omega) | simp) (by first | omega | (simp; omega) | simp) w
    replace lA1 := Nat.le_of_eq lA1
    replace lA2 := Nat.le_of_eq lA2
    replace lA3 := Nat.le_of_eq lA3
    replace lA4 := Nat.le_of_eq lA4
    replace lA5 := Nat.le_of_eq lA5
    have HA := Lib.hid (show ctL a b z = A5 from by rw [HL.out, ← hA5, ← hA4, ← hA3, ← hA2, ← hA1]; rfl)
    clear hA1 hA2 hA3 hA4 hA5
    go_enter Tryd.func85, Tryd.ntmps85
    go_wp2_with fail
    go_region_with (first
      | (go_at_call 102; (with_reducible refine Calls.mono (c1 _) ?_); rintro e w2 ⟨rfl, hb2⟩; have bx2 := bx.drew.keep hb2; have r0 := bx2.cell (j := 0) rfl; have r1 := bx2.cell (j := 1) rfl)
      | (go_at_call 102; (with_reducible refine Calls.mono (c2 _) ?_); rintro e w3 ⟨rfl, hb3⟩)
      | (go_at_call 102; (with_reducible refine Calls.mono (c3 _) ?_); rintro e w4 ⟨rfl, hb4⟩))
    all_goals go_wp2_with fail
    all_goals
      go_ret2
      rw [Hq.out, HA.out]
      exact ⟨rfl, (((hB.drew.trans (hb2.mono hB.size)).trans (hb3.mono (Nat.le_trans hB.size hb2.size))).trans (hb4.mono (Nat.le_trans (Nat.le_trans hB.size hb2.size) hb3.size)))⟩

end Go.Proofs.YtgjikbhehijnaaaDoor
