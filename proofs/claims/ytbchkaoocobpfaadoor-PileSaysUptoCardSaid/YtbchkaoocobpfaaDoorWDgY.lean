/- Walk: a text's bytes in two signs each: the reference's. -/
import Derived.Test.YtbchkaoocobpfaaDoorWDgX
import Derived.Test.YtbchkaoocobpfaaDoorWHexR
import Derived.StillTailTactics
namespace Go.Proofs.YtbchkaoocobpfaaDoor
open Go.RowKit Go.Larder
set_option linter.unusedVariables false
set_option linter.unusedSimpArgs false
theorem hex_one (n : Nat) (h : n < 16) (w : World) : Calls Tryd.prog 37 #[.int .i64 (n : Int)] w fun e w' => e = .returned (S [hexc n]) ∧ w' = w := by
  have := w_hexR 16 n h (by omega) w
  rw [hxL_one h] at this
  exact this.mono fun e w' ⟨h1, h2⟩ => ⟨h1, h2.symm⟩
set_option maxHeartbeats 400000 in
set_option maxRecDepth 100000 in
theorem w_DHexR (s : List UInt8) (hs : s.length ≤ 2000000) (w : World) : Calls Tryd.prog 12 #[S s] w fun e w' => e = .returned (S (hexL s)) ∧ Below w.heap.size w w' := by
  go_enter Tryd.func12, Tryd.ntmps12
  go_wp2_with fail
  go_loopw [3, 4, 7] (fun o' _ i' wr => ∃ (k : Nat) (out : List UInt8), i' = .int .i64 k ∧ o' = S out ∧ k ≤ s.length ∧ out.length ≤ 2 * k ∧ Hid (out = hexL (s.take k)) ∧ Below w.heap.size w wr) (fun _ _ i' _ => s.length - (intOf i').toNat)
  case atStart => exact ⟨0, [], rfl, rfl, by omega, by simp, Lib.hid rfl, Below.refl _ _⟩
  case round =>
    obtain ⟨k, out, rfl, rfl, hk, hol, heq, hbel⟩ := hrel
    obtain ⟨wo, hwo⟩ : ∃ wo, wo = wr := ⟨_, rfl⟩
    subst hwo
    by_cases hlt : k < s.length
    · obtain ⟨x, hx, hd⟩ := drop_step hlt
      have hix := fun W => run_index_S (P := Tryd.prog) 9 Tryd.underlying9 s (k : Int) k rfl x hx W
      have hxl := x.toNat_lt
      have c1 := fun W => hex_one (x.toNat / 16) (by omega) W
      have c2 := fun W => hex_one (x.toNat % 16) (by omega) W
      rw [show ((x.toNat / 16 : Nat) : Int) = (x.toNat : Int) / 16 from by omega] at c1
      rw [show ((x.toNat % 16 : Nat) : Int) = (x.toNat : Int) % 16 from by omega] at c2
      have Hn := Lib.hid (show out ++ [hexc (x.toNat / 16), hexc (x.toNat % 16)] = hexL (s.take (k + 1)) from by
        rw [List.take_add_one, hx, heq.out]; exact (hexL_snoc _ _).symm)
      generalize hexc (x.toNat / 16) = d1 at *
      generalize hexc (x.toNat % 16) = d2 at *
      have a1 : ∀ W, (Op.stringOp .add ⟨#[d1]⟩ ⟨#[d2]⟩).run Tryd.prog W = .ok (.string ⟨#[d1, d2]⟩) W := fun W => run_cat (P := Tryd.prog) [d1] [d2] (by simp) (by simp) W
      have a2 : ∀ W, (Op.stringOp .add ⟨out.toArray⟩ ⟨#[d1, d2]⟩).run Tryd.prog W = .ok (.string ⟨(out ++ [d1, d2]).toArray⟩) W := fun W => run_cat (P := Tryd.prog) out [d1, d2] (by omega) (by simp) W
      have f1 : IntKind.i64.wrap (x.toNat : Int) = (x.toNat : Int) := by simp [IntKind.wrap, IntKind.bits, IntKind.signed]; omega
      have f2 : IntKind.i64.wrap ((x.toNat : Int) / 16) = (x.toNat : Int) / 16 := by simp [IntKind.wrap, IntKind.bits, IntKind.signed]; omega
      have f3 : IntKind.i64.wrap ((x.toNat : Int) % 16) = (x.toNat : Int) % 16 := by simp [IntKind.wrap, IntKind.bits, IntKind.signed]; omega
      have f4 : (x.toNat : Int).tdiv 16 = (x.toNat : Int) / 16 := Int.tdiv_eq_ediv_of_nonneg (by omega)
      have f5 : (x.toNat : Int).tmod 16 = (x.toNat : Int) % 16 := Int.tmod_eq_emod_of_nonneg (by omega)
      clear hx hd
      go_wp2_with fail
      refine wp_region_still_tail 15 (by kernel_rfl) (by kernel_rfl) ?_
      simp only [List.take_succ_cons, List.take_zero, List.drop_succ_cons, List.drop_zero]
      repeat still_step
      still_call (c1 _)
      repeat still_step
      still_call (c2 _)
      repeat still_step
      try refine wpStill_nil ?_
      change wpList _ _ _ _ _ wo.drew
      go_wp2_with fail
      go_roundw
      case rel => exact ⟨k + 1, out ++ [d1, d2], by go_num, by simp, by omega, by simp; omega, Hn, hbel.drew⟩
      case measure => simp [intOf]; omega
    · have Hall := Lib.hid (show out = hexL s from by rw [heq.out, List.take_of_length_le (by omega)])
      go_wp2_with fail
      go_ret
      exact ⟨ret_S Hall.out, hbel⟩
end Go.Proofs.YtbchkaoocobpfaaDoor
