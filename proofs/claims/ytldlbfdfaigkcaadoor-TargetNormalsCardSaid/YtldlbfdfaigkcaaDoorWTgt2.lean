/- Walks: a byte escaped. -/
import Derived.Test.YtldlbfdfaigkcaaDoorWTgt1
import Derived.Deep.QuietTactic
import Derived.BigQuiet
namespace Go.Proofs.YtldlbfdfaigkcaaDoor
open Go.RowKit Go.Larder
set_option linter.unusedVariables false
set_option linter.unusedSimpArgs false

theorem hex_nat : ∀ q : Fin 16, List.take 1 (List.take (16 - q.val) (List.drop q.val [48, 49, 50, 51, 52, 53, 54, 55, 56, 57, 65, 66, 67, 68, 69, 70])) = [hexAt q.val] := by decide +kernel
theorem hex_one (q : Nat) (hq : q < 16) : List.take 1 (List.take (16 - q) (List.drop q [48, 49, 50, 51, 52, 53, 54, 55, 56, 57, 65, 66, 67, 68, 69, 70])) = [hexAt q] := hex_nat ⟨q, hq⟩
theorem hex_nat2 : ∀ q : Fin 16, List.take 1 (List.drop q.val [48, 49, 50, 51, 52, 53, 54, 55, 56, 57, 65, 66, 67, 68, 69, 70]) = [hexAt q.val] := by decide +kernel
theorem hex_one2 (q : Nat) (hq : q < 16) : List.take 1 (List.drop q [48, 49, 50, 51, 52, 53, 54, 55, 56, 57, 65, 66, 67, 68, 69, 70]) = [hexAt q] := hex_nat2 ⟨q, hq⟩
set_option maxHeartbeats 2000000 in
theorem w_escapedR (ch : UInt8) (w : World) :
    Calls Tryd.prog 77 #[S [ch]] w fun e w' => e = .returned (S (escL ch)) ∧ Below w.heap.size w w' := by
  have hc := ch.toNat_lt
  have e0 : wrap64 (ch.toNat : Int) = (ch.toNat : Int) := wrap64_u8 ch
  have q1 : ch.toNat / 16 < 16 := by omega
  have r1 : ch.toNat % 16 < 16 := by omega
  have he : escL ch = [37] ++ [hexAt (ch.toNat / 16)] ++ [hexAt (ch.toNat % 16)] := rfl
  rw [he]
  have d1 : (ch.toNat : Int).tdiv 16 = ((ch.toNat / 16 : Nat) : Int) := by rw [Int.tdiv_eq_ediv_of_nonneg (by omega)]; omega
  have d2 : (ch.toNat : Int).tmod 16 = ((ch.toNat % 16 : Nat) : Int) := by rw [Int.tmod_eq_emod_of_nonneg (by omega)]; omega
  generalize ch.toNat / 16 = q at *
  generalize ch.toNat % 16 = r at *
  have f1 : IntKind.i64.wrap (q : Int) = (q : Int) := IntWalk.i64_in _ ⟨by omega, by omega⟩
  have f2 : IntKind.i64.wrap (r : Int) = (r : Int) := IntWalk.i64_in _ ⟨by omega, by omega⟩
  have g1 : (q : Int) ≤ 16 := by omega
  have g2 : (r : Int) ≤ 16 := by omega
  have g3 : q ≤ 16 := by omega
  have g4 : r ≤ 16 := by omega
  have g5 : 1 ≤ 16 - q := by omega
  have g6 : 1 ≤ 16 - r := by omega
  go_enter Tryd.func77, Tryd.ntmps77
  go_wp2_with fail
  go_quiet (fail)
  go_wp2
  go_ret
  have h1 := hex_one q q1
  have h2 := hex_one r r1
  refine ⟨?_, below_drewN (Below.refl _ _) _⟩
  refine ret_S ?_
  rw [h1, h2]
  rfl

theorem hex_nat3 : ∀ q : Fin 16, ([48, 49, 50, 51, 52, 53, 54, 55, 56, 57, 65, 66, 67, 68, 69, 70] : List UInt8)[q.val]'(by have := q.isLt; simp) = hexAt q.val := by decide +kernel
theorem hex_at (q : Nat) (hq : q < 16) : ([48, 49, 50, 51, 52, 53, 54, 55, 56, 57, 65, 66, 67, 68, 69, 70] : List UInt8)[q]'(by simp; omega) = hexAt q := hex_nat3 ⟨q, hq⟩
theorem and_nat : ∀ n : Fin 256, bits BinOp.and IntKind.u8 ((n.val : Nat) : Int) 15 = ((n.val % 16 : Nat) : Int) := by decide +kernel
theorem and15 (c : UInt8) : bits BinOp.and IntKind.u8 (c.toNat : Int) 15 = ((c.toNat % 16 : Nat) : Int) := and_nat ⟨c.toNat, c.toNat_lt⟩
set_option maxHeartbeats 2000000 in
theorem w_escape (ch : UInt8) (base : Nat) (A : Option Addr) (c : Nat) (acc : List UInt8) (hl : acc.length ≤ 140737488351232) (w : World) (ho : OwnL encB w base 5 A c acc) (hB : base ≤ w.heap.size) :
    Calls Tryd.prog 70 #[.slice A acc.length c, .int .u8 ch.toNat] w fun e w' => (∃ A2 c2, e = .returned (.slice A2 (acc.length + 3) c2) ∧ OwnL encB w' base 5 A2 c2 (acc ++ escL ch)) ∧ Below base w w' := by
  have hc := ch.toNat_lt
  have q1 : ch.toNat / 16 < 16 := by omega
  have r1 : ch.toNat % 16 < 16 := by omega
  have he : escL ch = [37, hexAt (ch.toNat / 16), hexAt (ch.toNat % 16)] := rfl
  rw [he]
  have s1 : (ch.toNat : Int) / 16 = ((ch.toNat / 16 : Nat) : Int) := by omega
  have s2 : bits BinOp.and IntKind.u8 (ch.toNat : Int) 15 = ((ch.toNat % 16 : Nat) : Int) := and15 ch
  generalize ch.toNat / 16 = q at *
  generalize ch.toNat % 16 = r at *
  have i1 : (0 : Int) ≤ (q : Int) ∧ (q : Int) < 16 := by omega
  have i2 : (0 : Int) ≤ (r : Int) ∧ (r : Int) < 16 := by omega
  have j1 : (q : Int) < 16 := by omega
  have j2 : (r : Int) < 16 := by omega
  have x1 : ∀ h, ([48, 49, 50, 51, 52, 53, 54, 55, 56, 57, 65, 66, 67, 68, 69, 70] : List UInt8)[q]'h = hexAt q := fun _ => hex_at q q1
  have x2 : ∀ h, ([48, 49, 50, 51, 52, 53, 54, 55, 56, 57, 65, 66, 67, 68, 69, 70] : List UInt8)[r]'h = hexAt r := fun _ => hex_at r r1
  go_enter Tryd.func70, Tryd.ntmps70
  go_wp2_with fail
  go_region_held3 (fun _ => True) (trivial) ((refine step_app_sl (l := acc) encB sl_u8t [37, hexAt q, hexAt r] (by rfl) _ _ (by rfl) (by rfl) (by first | exact ho.alloc _ | exact ho | exact OwnL.alloc (show OwnL encB w.drew base 5 A c acc from ho) _) (by rfl) (by first | exact ReadL.lit (E := encB) _ #[.int .u8 37, .int .u8 (hexAt q).toNat, .int .u8 (hexAt r).toNat] _ [37, hexAt q, hexAt r] rfl) (by simp; omega) (by simp [maxLen]; omega) (by show base ≤ (w.heap.push _).size; simp; omega) ?_; intro A4 c4 w4 ho4 hb4))
  all_goals go_wp2
  all_goals
    go_ret
    exact ⟨⟨A4, c4, rfl, ho4⟩, Below.trans (by go_grown) hb4⟩

theorem escE_big {l : List UInt8} (h : 200 < (escAll l).length) : escE l = .error 2 := by unfold escE; rw [if_pos h]
theorem escE_ok {l : List UInt8} (h : ¬ 200 < (escAll l).length) : escE l = .ok (escAll l) := by unfold escE; rw [if_neg h]
theorem escC_free {c : UInt8} (h : isFreeB c = true) : escC c = [c] := by unfold escC; rw [if_pos h]
theorem escC_no {c : UInt8} (h : isFreeB c = false) : escC c = escL c := by unfold escC; rw [if_neg (by simp [h])]
end Go.Proofs.YtldlbfdfaigkcaaDoor
