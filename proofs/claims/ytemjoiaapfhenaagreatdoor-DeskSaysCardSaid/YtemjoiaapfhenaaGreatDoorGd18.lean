/- WDgX, WDgY -/
import Derived.Test.YtemjoiaapfhenaaGreatDoorGd03
import Derived.Test.YtemjoiaapfhenaaGreatDoorGd00
import Derived.Deep.RegionLaw
import Derived.Test.YtemjoiaapfhenaaGreatDoorGd02
import Derived.StillTailTactics

/- WDgX -/
section
namespace Go.Proofs.YtemjoiaapfhenaaGreatDoor
open Go.RowKit Go.Larder
set_option linter.unusedVariables false
set_option linter.unusedSimpArgs false
def hexL (s : List UInt8) : List UInt8 := s.flatMap fun b => [hexc (b.toNat / 16), hexc (b.toNat % 16)]
theorem hexL_snoc (s : List UInt8) (x : UInt8) : hexL (s ++ [x]) = hexL s ++ [hexc (x.toNat / 16), hexc (x.toNat % 16)] := by simp [hexL]
theorem hexL_len (s : List UInt8) : (hexL s).length = 2 * s.length := by
  induction s with
  | nil => rfl
  | cons x s ih => simp only [hexL, List.flatMap_cons, List.length_append, List.length_cons, List.length_nil] at ih ⊢; omega
theorem run_digK {P : Program} (t : TypeId) (ht : P.underlying t = some .string) (kd : IntKind) (i : Int) (x : Nat) (hi : i = (x : Int)) (hx : x < 16) (w : World) : (Instr.index t (.string ⟨#[48, 49, 50, 51, 52, 53, 54, 55, 56, 57, 97, 98, 99, 100, 101, 102]⟩) (.int kd i)).run P w = .ok (.int .u8 ((hexc x).toNat : Int)) w := by
  subst hi
  show (Instr.index t (.string ⟨digs.toArray⟩) (.int kd (x : Int))).run P w = _
  have hl : x < digs.length := hx
  rw [run_index_string w t _ _ _ ht, dif_pos (by rw [ba_size]; omega)]
  simp only [ba_get, Int.toNat_natCast]
  unfold hexc
  rw [List.getD_eq_getElem?_getD, List.getElem?_eq_getElem hl, Option.getD_some]
theorem sl_u8X : SlT Tryz.prog 112 5 1 1 := SlT.mk' (z := .int .u8 0) Tryz.underlying112 (by kernel_rfl) rfl
set_option maxHeartbeats 2000000 in
set_option maxRecDepth 100000 in
theorem w_DHex (s : List UInt8) (hs : s.length ≤ 8000000) (w : World) : Calls Tryz.prog 64 #[S s] w fun e w' => e = .returned (S (hexL s)) ∧ Below w.heap.size w w' := by
  go_enter Tryz.func64, Tryz.ntmps64
  go_wp2_with fail
  go_loopw [3, 4, 7] (fun o' _ i' wr => ∃ (k : Nat) (out : List UInt8) (A : Option Addr) (c : Nat), i' = .int .i64 k ∧ o' = .slice A out.length c ∧ k ≤ s.length ∧ out.length ≤ 2 * k ∧ Hid (out = hexL (s.take k)) ∧ OwnL encB wr w.heap.size 5 A c out ∧ Below w.heap.size w wr) (fun _ _ i' _ => s.length - (intOf i').toNat)
  case atStart => exact ⟨0, [], none, 0, rfl, rfl, by omega, by simp, Lib.hid rfl, OwnL.nil _ _ _, Below.refl _ _⟩
  case round =>
    obtain ⟨k, out, A, c, rfl, rfl, hk, hol, heq, hown, hbel⟩ := hrel
    obtain ⟨wo, hwo⟩ : ∃ wo, wo = wr := ⟨_, rfl⟩
    subst hwo
    by_cases hlt : k < s.length
    · obtain ⟨x, hx, hd⟩ := drop_step hlt
      have hix := fun W => run_index_S (P := Tryz.prog) 9 Tryz.underlying9 s (k : Int) k rfl x hx W
      have hxl := x.toNat_lt
      have hi1 := fun W => run_digK (P := Tryz.prog) 9 Tryz.underlying9 .u8 ((x.toNat : Int) / 16) (x.toNat / 16) (by omega) (by omega) W
      have hi2 := fun W => run_digK (P := Tryz.prog) 9 Tryz.underlying9 .u8 ((x.toNat : Int) % 16) (x.toNat % 16) (by omega) (by omega) W
      have han : bits .and .u8 (x.toNat : Int) 15 = (x.toNat : Int) % 16 := by
        have h1 := u8_and_nat x.toNat 15 (by omega) (by omega)
        rw [show ((15 : Nat) : Int) = 15 from rfl] at h1
        rw [h1, show x.toNat &&& 15 = x.toNat % 16 from Nat.and_two_pow_sub_one_eq_mod x.toNat 4]
        omega
      have Hn := Lib.hid (show out ++ [hexc (x.toNat / 16), hexc (x.toNat % 16)] = hexL (s.take (k + 1)) from by
        rw [List.take_add_one, hx, heq.out]; exact (hexL_snoc _ _).symm)
      generalize hexc (x.toNat / 16) = d1 at *
      generalize hexc (x.toNat % 16) = d2 at *
      clear hx hd
      have hbs := hbel.size
      have hlit : OwnL encB (wo.drew.alloc (.cells #[.int .u8 (d1.toNat : Int), .int .u8 (d2.toNat : Int)] 5)) w.heap.size 5 (some ⟨wo.heap.size, 0, none⟩) 2 [d1, d2] := own_lit wo.drew w.heap.size 5 _ [d1, d2] (by rw [flat_B]; rfl) hbs (by simp [maxLen])
      have hown2 := (OwnL.drw hown).alc (.cells #[.int .u8 (d1.toNat : Int), .int .u8 (d2.toNat : Int)] 5)
      go_wp2_with fail
      go_region_law (refine step_app_atn (base := w.heap.size) encB sl_u8X [d1, d2] rfl _ _ (by rfl) (l := out) (by rfl) (by exact hown2) (by rfl) (by exact hlit.read) rfl rfl (by simp; omega) (by simp [maxLen]; omega) (by simp [heap_drew]; omega) ?_; intro A2 c2 w2 ho2 hg2 hb2)
      all_goals
        go_wp2_with fail
        go_roundw
        case rel => exact ⟨k + 1, out ++ [d1, d2], A2, c2, by go_num, by simp, by omega, by simp; omega, Hn, ho2, (hbel.drew.alloc hbs (.cells #[.int .u8 (d1.toNat : Int), .int .u8 (d2.toNat : Int)] 5)).trans hb2⟩
        case measure => simp [intOf]; omega
    · have hcs := run_bytes_str (P := Tryz.prog) 112 9 Tryz.underlying112 Tryz.underlying5 Tryz.underlying9 hown.read c
      have Hall := Lib.hid (show out = hexL s from by rw [heq.out, List.take_of_length_le (by omega)])
      go_wp2_with fail
      go_ret
      exact ⟨ret_S Hall.out, hbel⟩
end Go.Proofs.YtemjoiaapfhenaaGreatDoor
end

/- WDgY -/
section
namespace Go.Proofs.YtemjoiaapfhenaaGreatDoor
open Go.RowKit Go.Larder
set_option linter.unusedVariables false
set_option linter.unusedSimpArgs false
theorem hexR_one (n : Nat) (h : n < 16) (w : World) : Calls Tryz.prog 93 #[.int .i64 (n : Int)] w fun e w' => e = .returned (S [hexc n]) ∧ w' = w := by
  have := w_hexR 16 n h (by omega) w
  rw [hxL_one h] at this
  exact this.mono fun e w' ⟨h1, h2⟩ => ⟨h1, h2.symm⟩
set_option maxHeartbeats 400000 in
set_option maxRecDepth 100000 in
theorem w_DHexR (s : List UInt8) (hs : s.length ≤ 2000000) (w : World) : Calls Tryz.prog 31 #[S s] w fun e w' => e = .returned (S (hexL s)) ∧ Below w.heap.size w w' := by
  go_enter Tryz.func31, Tryz.ntmps31
  go_wp2_with fail
  go_loopw [3, 4, 7] (fun o' _ i' wr => ∃ (k : Nat) (out : List UInt8), i' = .int .i64 k ∧ o' = S out ∧ k ≤ s.length ∧ out.length ≤ 2 * k ∧ Hid (out = hexL (s.take k)) ∧ Below w.heap.size w wr) (fun _ _ i' _ => s.length - (intOf i').toNat)
  case atStart => exact ⟨0, [], rfl, rfl, by omega, by simp, Lib.hid rfl, Below.refl _ _⟩
  case round =>
    obtain ⟨k, out, rfl, rfl, hk, hol, heq, hbel⟩ := hrel
    obtain ⟨wo, hwo⟩ : ∃ wo, wo = wr := ⟨_, rfl⟩
    subst hwo
    by_cases hlt : k < s.length
    · obtain ⟨x, hx, hd⟩ := drop_step hlt
      have hix := fun W => run_index_S (P := Tryz.prog) 9 Tryz.underlying9 s (k : Int) k rfl x hx W
      have hxl := x.toNat_lt
      have c1 := fun W => hexR_one (x.toNat / 16) (by omega) W
      have c2 := fun W => hexR_one (x.toNat % 16) (by omega) W
      rw [show ((x.toNat / 16 : Nat) : Int) = (x.toNat : Int) / 16 from by omega] at c1
      rw [show ((x.toNat % 16 : Nat) : Int) = (x.toNat : Int) % 16 from by omega] at c2
      have Hn := Lib.hid (show out ++ [hexc (x.toNat / 16), hexc (x.toNat % 16)] = hexL (s.take (k + 1)) from by
        rw [List.take_add_one, hx, heq.out]; exact (hexL_snoc _ _).symm)
      generalize hexc (x.toNat / 16) = d1 at *
      generalize hexc (x.toNat % 16) = d2 at *
      have a1 : ∀ W, (Op.stringOp .add ⟨#[d1]⟩ ⟨#[d2]⟩).run Tryz.prog W = .ok (.string ⟨#[d1, d2]⟩) W := fun W => run_cat (P := Tryz.prog) [d1] [d2] (by simp) (by simp) W
      have a2 : ∀ W, (Op.stringOp .add ⟨out.toArray⟩ ⟨#[d1, d2]⟩).run Tryz.prog W = .ok (.string ⟨(out ++ [d1, d2]).toArray⟩) W := fun W => run_cat (P := Tryz.prog) out [d1, d2] (by omega) (by simp) W
      have f1 : IntKind.i64.wrap (x.toNat : Int) = (x.toNat : Int) := by simp [IntKind.wrap, IntKind.bits, IntKind.signed]; omega
      have f2 : IntKind.i64.wrap ((x.toNat : Int) / 16) = (x.toNat : Int) / 16 := by simp [IntKind.wrap, IntKind.bits, IntKind.signed]; omega
      have f3 : IntKind.i64.wrap ((x.toNat : Int) % 16) = (x.toNat : Int) % 16 := by simp [IntKind.wrap, IntKind.bits, IntKind.signed]; omega
      have f4 : (x.toNat : Int).tdiv 16 = (x.toNat : Int) / 16 := Int.tdiv_eq_ediv_of_nonneg (by omega)
      have f5 : (x.toNat : Int).tmod 16 = (x.toNat : Int) % 16 := Int.tmod_eq_emod_of_nonneg (by omega)
      clear hx hd
      go_wp2_with fail
      refine wp_region_still_tail 15 (by kernel_rfl) (by kernel_rfl) ?_
      simp only [List.take_succ_cons, List.take_zero, List.drop_succ_cons, List.drop_zero]
      repeat still_step
      still_call (c1 _)
      repeat still_step
      still_call (c2 _)
      repeat still_step
      try refine wpStill_nil ?_
      change wpList _ _ _ _ _ wo.drew
      go_wp2_with fail
      go_roundw
      case rel => exact ⟨k + 1, out ++ [d1, d2], by go_num, by simp, by omega, by simp; omega, Hn, hbel.drew⟩
      case measure => simp [intOf]; omega
    · have Hall := Lib.hid (show out = hexL s from by rw [heq.out, List.take_of_length_le (by omega)])
      go_wp2_with fail
      go_ret
      exact ⟨ret_S Hall.out, hbel⟩
end Go.Proofs.YtemjoiaapfhenaaGreatDoor
end
