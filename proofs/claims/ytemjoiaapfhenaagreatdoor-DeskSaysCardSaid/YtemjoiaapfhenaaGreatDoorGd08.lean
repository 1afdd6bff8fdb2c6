/- WTgt0, WTgt1, WTgt2, WNrm0, WNrmD, WNrmN, WTgt3 -/
import Derived.Test.YtemjoiaapfhenaaGreatDoorGd03
import Derived.Test.YtemjoiaapfhenaaGreatDoorGd00
import Derived.Deep.Heap
import Derived.Deep.RegionWith
import Derived.Deep.RegionHeld3
import Derived.Deep.QuietTactic
import Derived.BigQuiet
import Derived.Test.YtemjoiaapfhenaaGreatDoorGd02
import Derived.Test.YtemjoiaapfhenaaGreatDoorGd01

/- WTgt0 -/
section
namespace Go.Proofs.YtemjoiaapfhenaaGreatDoor
open Go.RowKit Go.Larder
set_option linter.unusedVariables false
set_option linter.unusedSimpArgs false

theorem w_isFree (c : UInt8) (w : World) :
    Calls Tryz.prog 115 #[.int .u8 c.toNat] w fun e w' => e = .returned (.bool (isFreeB c)) ∧ w = w' := by
  have hj : (0 : Int) ≤ Lib.indexByte dashL c ↔ inTab dashL c = true := by simp [inTab]
  go_enter Tryz.func115, Tryz.ntmps115
  go_wp2_with (go_at_call 99; refine (c1_IndexByte dashL c _).mono ?_; rintro e w' ⟨rfl, rfl⟩)
  all_goals
    go_ret
    rw [free_eq]
    refine ⟨?_, rfl⟩
    refine ret_bool ?_
    rw [Bool.eq_iff_iff]
    simp [inTab]
    try omega

theorem w_digit (c : UInt8) (w : World) :
    Calls Tryz.prog 166 #[.int .u8 c.toNat] w fun e w' => e = .returned (.int .i64 (hexv c)) ∧ w = w' := by
  have hc := c.toNat_lt
  by_cases h1 : 48 ≤ c.toNat ∧ c.toNat ≤ 57
  · have a1 : (48 : Int) ≤ (c.toNat : Int) := by omega
    have a2 : (c.toNat : Int) ≤ 57 := by omega
    have e2 : IntKind.u8.wrap ((c.toNat : Int) - 48) = (c.toNat : Int) - 48 := by rw [IntKind.wrap_u8]; omega
    have e3 : IntKind.i64.wrap ((c.toNat : Int) - 48) = (c.toNat : Int) - 48 := IntWalk.i64_in _ ⟨by omega, by omega⟩
    have hr : hexv c = (c.toNat : Int) - 48 := by unfold hexv; rw [if_pos h1]
    rw [hr]
    go_enter Tryz.func166, Tryz.ntmps166
    go_wp2_with fail
    go_ret
    exact ⟨rfl, rfl⟩
  · have b1 : ¬ ((48 : Int) ≤ (c.toNat : Int) ∧ (c.toNat : Int) ≤ 57) := by omega
    by_cases h2 : 97 ≤ c.toNat ∧ c.toNat ≤ 102
    · have a0 : ¬ (c.toNat : Int) ≤ 57 := by omega
      have a9 : (48 : Int) ≤ (c.toNat : Int) := by omega
      have a1 : (97 : Int) ≤ (c.toNat : Int) := by omega
      have a2 : (c.toNat : Int) ≤ 102 := by omega
      have e2 : IntKind.u8.wrap ((c.toNat : Int) - 97) = (c.toNat : Int) - 97 := by rw [IntKind.wrap_u8]; omega
      have e3 : IntKind.i64.wrap ((c.toNat : Int) - 97) = (c.toNat : Int) - 97 := IntWalk.i64_in _ ⟨by omega, by omega⟩
      have e4 : IntKind.i64.wrap ((c.toNat : Int) - 97 + 10) = (c.toNat : Int) - 97 + 10 := IntWalk.i64_in _ ⟨by omega, by omega⟩
      have hr : hexv c = (c.toNat : Int) - 97 + 10 := by unfold hexv; rw [if_neg h1, if_pos h2]
      rw [hr]
      go_enter Tryz.func166, Tryz.ntmps166
      go_wp2_with fail
      go_ret
      exact ⟨rfl, rfl⟩
    · by_cases h3 : 65 ≤ c.toNat ∧ c.toNat ≤ 70
      · have a0 : ¬ (c.toNat : Int) ≤ 57 := by omega
        have a9 : (48 : Int) ≤ (c.toNat : Int) := by omega
        have a8 : ¬ (97 : Int) ≤ (c.toNat : Int) := by omega
        have a1 : (65 : Int) ≤ (c.toNat : Int) := by omega
        have a2 : (c.toNat : Int) ≤ 70 := by omega
        have e2 : IntKind.u8.wrap ((c.toNat : Int) - 65) = (c.toNat : Int) - 65 := by rw [IntKind.wrap_u8]; omega
        have e3 : IntKind.i64.wrap ((c.toNat : Int) - 65) = (c.toNat : Int) - 65 := IntWalk.i64_in _ ⟨by omega, by omega⟩
        have e4 : IntKind.i64.wrap ((c.toNat : Int) - 65 + 10) = (c.toNat : Int) - 65 + 10 := IntWalk.i64_in _ ⟨by omega, by omega⟩
        have hr : hexv c = (c.toNat : Int) - 65 + 10 := by unfold hexv; rw [if_neg h1, if_neg h2, if_pos h3]
        rw [hr]
        go_enter Tryz.func166, Tryz.ntmps166
        go_wp2_with fail
        go_ret
        exact ⟨rfl, rfl⟩
      · have hr : hexv c = -1 := by unfold hexv; rw [if_neg h1, if_neg h2, if_neg h3]
        rw [hr]
        go_enter Tryz.func166, Tryz.ntmps166
        go_wp2_with fail
        all_goals first
          | (go_ret; exact ⟨rfl, rfl⟩)
          | (exfalso; omega)
end Go.Proofs.YtemjoiaapfhenaaGreatDoor
end

/- WTgt1 -/
section
namespace Go.Proofs.YtemjoiaapfhenaaGreatDoor
open Go.RowKit Go.Larder
set_option linter.unusedVariables false
set_option linter.unusedSimpArgs false

theorem own_set_lt {α : Type} {E : ElemT α} {w : World} {base : Nat} {e : TypeId} {A : Option Addr} {c : Nat} {l : List α} (h : OwnL E w base e A c l) {a : Addr} (ha : a.block < base) (v : Value) : OwnL E (w.setCell a v) base e A c l := by
  obtain ⟨h1, h2⟩ := h
  refine ⟨h1, ?_⟩
  rcases h2 with h2 | ⟨g, cap, cur, hv, hg, hh, r⟩
  · exact .inl h2
  · exact .inr ⟨g, cap, cur, hv, hg, (Go.Deep.blk_setCell_other w a v g (by omega)).trans hh, r⟩
theorem frozen_below {B : Nat} {w w' : World} (h : Below B w w') {p : Addr} (hp : p.block < B) : w'.frozen? p = w.frozen? p := by
  unfold World.frozen?
  rw [h.block _ hp]
theorem sl_u8t : SlT Tryz.prog 112 5 1 1 := SlT.mk' (z := .int .u8 0) Tryz.underlying112 (by kernel_rfl) rfl
/-- The box bb holds a row of own bytes. -/
def BoxB (w : World) (bb : Nat) (acc : List UInt8) : Prop := ∃ A c, w.cell? ⟨bb, 0, none⟩ = some (.slice A acc.length c) ∧ w.frozen? ⟨bb, 0, none⟩ = false ∧ OwnL encB w (bb + 1) 5 A c acc ∧ bb < w.heap.size
theorem byte_or_nat : ∀ p q : Fin 16, IntKind.u8.wrap (bits BinOp.or IntKind.i64 (IntKind.i64.wrap (((p.val : Nat) : Int) * 16)) ((q.val : Nat) : Int)) = ((UInt8.ofNat (16 * ((p.val : Nat) : Int) + ((q.val : Nat) : Int)).toNat).toNat : Int) := by decide +kernel
theorem byte_or {a b : UInt8} (ha : 0 ≤ hexv a) (hb : 0 ≤ hexv b) : IntKind.u8.wrap (bits BinOp.or IntKind.i64 (IntKind.i64.wrap (hexv a * 16)) (hexv b)) = ((Larder.byteOf a b).toNat : Int) := by
  have h1 := hexv_lt a
  have h2 := hexv_lt b
  have := byte_or_nat ⟨(hexv a).toNat, by omega⟩ ⟨(hexv b).toNat, by omega⟩
  simp only [Int.toNat_of_nonneg ha, Int.toNat_of_nonneg hb] at this
  exact this
end Go.Proofs.YtemjoiaapfhenaaGreatDoor
end

/- WTgt2 -/
section
namespace Go.Proofs.YtemjoiaapfhenaaGreatDoor
open Go.RowKit Go.Larder
set_option linter.unusedVariables false
set_option linter.unusedSimpArgs false

theorem hex_nat : ∀ q : Fin 16, List.take 1 (List.take (16 - q.val) (List.drop q.val [48, 49, 50, 51, 52, 53, 54, 55, 56, 57, 65, 66, 67, 68, 69, 70])) = [hexAt q.val] := by decide +kernel
theorem hex_one (q : Nat) (hq : q < 16) : List.take 1 (List.take (16 - q) (List.drop q [48, 49, 50, 51, 52, 53, 54, 55, 56, 57, 65, 66, 67, 68, 69, 70])) = [hexAt q] := hex_nat ⟨q, hq⟩
theorem hex_nat2 : ∀ q : Fin 16, List.take 1 (List.drop q.val [48, 49, 50, 51, 52, 53, 54, 55, 56, 57, 65, 66, 67, 68, 69, 70]) = [hexAt q.val] := by decide +kernel
theorem hex_one2 (q : Nat) (hq : q < 16) : List.take 1 (List.drop q [48, 49, 50, 51, 52, 53, 54, 55, 56, 57, 65, 66, 67, 68, 69, 70]) = [hexAt q] := hex_nat2 ⟨q, hq⟩
set_option maxHeartbeats 2000000 in
theorem w_escapedR (ch : UInt8) (w : World) :
    Calls Tryz.prog 86 #[S [ch]] w fun e w' => e = .returned (S (escL ch)) ∧ Below w.heap.size w w' := by
  have hc := ch.toNat_lt
  have e0 : wrap64 (ch.toNat : Int) = (ch.toNat : Int) := wrap64_u8 ch
  have q1 : ch.toNat / 16 < 16 := by omega
  have r1 : ch.toNat % 16 < 16 := by omega
  have he : escL ch = [37] ++ [hexAt (ch.toNat / 16)] ++ [hexAt (ch.toNat % 16)] := rfl
  rw [he]
  have d1 : (ch.toNat : Int).tdiv 16 = ((ch.toNat / 16 : Nat) : Int) := by rw [Int.tdiv_eq_ediv_of_nonneg (by omega)]; omega
  have d2 : (ch.toNat : Int).tmod 16 = ((ch.toNat % 16 : Nat) : Int) := by rw [Int.tmod_eq_emod_of_nonneg (by omega)]; omega
  generalize ch.toNat / 16 = q at *
  generalize ch.toNat % 16 = r at *
  have f1 : IntKind.i64.wrap (q : Int) = (q : Int) := IntWalk.i64_in _ ⟨by omega, by omega⟩
  have f2 : IntKind.i64.wrap (r : Int) = (r : Int) := IntWalk.i64_in _ ⟨by omega, by omega⟩
  have g1 : (q : Int) ≤ 16 := by omega
  have g2 : (r : Int) ≤ 16 := by omega
  have g3 : q ≤ 16 := by omega
  have g4 : r ≤ 16 := by omega
  have g5 : 1 ≤ 16 - q := by omega
  have g6 : 1 ≤ 16 - r := by omega
  go_enter Tryz.func86, Tryz.ntmps86
  go_wp2_with fail
  go_quiet (fail)
  go_wp2
  go_ret
  have h1 := hex_one q q1
  have h2 := hex_one r r1
  refine ⟨?_, Go.below_drewN (Below.refl _ _) _⟩
  refine ret_S ?_
  rw [h1, h2]
  rfl

theorem hex_nat3 : ∀ q : Fin 16, ([48, 49, 50, 51, 52, 53, 54, 55, 56, 57, 65, 66, 67, 68, 69, 70] : List UInt8)[q.val]'(by have := q.isLt; simp) = hexAt q.val := by decide +kernel
theorem hex_at (q : Nat) (hq : q < 16) : ([48, 49, 50, 51, 52, 53, 54, 55, 56, 57, 65, 66, 67, 68, 69, 70] : List UInt8)[q]'(by simp; omega) = hexAt q := hex_nat3 ⟨q, hq⟩
theorem and_nat : ∀ n : Fin 256, bits BinOp.and IntKind.u8 ((n.val : Nat) : Int) 15 = ((n.val % 16 : Nat) : Int) := by decide +kernel
theorem and15 (c : UInt8) : bits BinOp.and IntKind.u8 (c.toNat : Int) 15 = ((c.toNat % 16 : Nat) : Int) := and_nat ⟨c.toNat, c.toNat_lt⟩
set_option maxHeartbeats 2000000 in
theorem w_escape (ch : UInt8) (base : Nat) (A : Option Addr) (c : Nat) (acc : List UInt8) (hl : acc.length ≤ 140737488351232) (w : World) (ho : OwnL encB w base 5 A c acc) (hB : base ≤ w.heap.size) :
    Calls Tryz.prog 116 #[.slice A acc.length c, .int .u8 ch.toNat] w fun e w' => (∃ A2 c2, e = .returned (.slice A2 (acc.length + 3) c2) ∧ OwnL encB w' base 5 A2 c2 (acc ++ escL ch)) ∧ Below base w w' := by
  have hc := ch.toNat_lt
  have q1 : ch.toNat / 16 < 16 := by omega
  have r1 : ch.toNat % 16 < 16 := by omega
  have he : escL ch = [37, hexAt (ch.toNat / 16), hexAt (ch.toNat % 16)] := rfl
  rw [he]
  have s1 : (ch.toNat : Int) / 16 = ((ch.toNat / 16 : Nat) : Int) := by omega
  have s2 : bits BinOp.and IntKind.u8 (ch.toNat : Int) 15 = ((ch.toNat % 16 : Nat) : Int) := and15 ch
  generalize ch.toNat / 16 = q at *
  generalize ch.toNat % 16 = r at *
  have i1 : (0 : Int) ≤ (q : Int) ∧ (q : Int) < 16 := by omega
  have i2 : (0 : Int) ≤ (r : Int) ∧ (r : Int) < 16 := by omega
  have j1 : (q : Int) < 16 := by omega
  have j2 : (r : Int) < 16 := by omega
  have x1 : ∀ h, ([48, 49, 50, 51, 52, 53, 54, 55, 56, 57, 65, 66, 67, 68, 69, 70] : List UInt8)[q]'h = hexAt q := fun _ => hex_at q q1
  have x2 : ∀ h, ([48, 49, 50, 51, 52, 53, 54, 55, 56, 57, 65, 66, 67, 68, 69, 70] : List UInt8)[r]'h = hexAt r := fun _ => hex_at r r1
  go_enter Tryz.func116, Tryz.ntmps116
  go_wp2_with fail
  go_region_held3 (fun _ => True) (trivial) ((refine step_app_sl (l := acc) encB sl_u8t [37, hexAt q, hexAt r] (by rfl) _ _ (by rfl) (by rfl) (by first | exact ho.alloc _ | exact ho | exact OwnL.alloc (show OwnL encB w.drew base 5 A c acc from ho) _) (by rfl) (by first | exact ReadL.lit (E := encB) _ #[.int .u8 37, .int .u8 (hexAt q).toNat, .int .u8 (hexAt r).toNat] _ [37, hexAt q, hexAt r] rfl) (by simp; omega) (by simp [maxLen]; omega) (by show base ≤ (w.heap.push _).size; simp; omega) ?_; intro A4 c4 w4 ho4 hb4))
  all_goals go_wp2
  all_goals
    go_ret
    exact ⟨⟨A4, c4, rfl, ho4⟩, Below.trans (by go_grown) hb4⟩

theorem escE_big {l : List UInt8} (h : 200 < (escAll l).length) : escE l = .error 2 := by unfold escE; rw [if_pos h]
theorem escE_ok {l : List UInt8} (h : ¬ 200 < (escAll l).length) : escE l = .ok (escAll l) := by unfold escE; rw [if_neg h]
theorem escC_free {c : UInt8} (h : isFreeB c = true) : escC c = [c] := by unfold escC; rw [if_pos h]
theorem escC_no {c : UInt8} (h : isFreeB c = false) : escC c = escL c := by unfold escC; rw [if_neg (by simp [h])]
end Go.Proofs.YtemjoiaapfhenaaGreatDoor
end

/- WNrm0 -/
section
namespace Go.Proofs.YtemjoiaapfhenaaGreatDoor
open Go.RowKit Go.Larder
set_option linter.unusedVariables false
set_option linter.unusedSimpArgs false
theorem w_seeN (ch : UInt8) (b : Bool) (bb : Nat) (ps : List EB) (hl : ps.length ≤ 1000) (w : World) (h : BoxB w bb (emAll ps)) :
    Calls Tryz.prog 114 #[.int .u8 ch.toNat, .bool b, .pointer (some ⟨bb, 0, none⟩)] w fun e w' => e = .returned (.tuple #[]) ∧ BoxB w' bb (emAll (ps ++ [(ch, b)])) ∧ Below bb w w' := by
  have hlen := emAll_len ps
  rw [emAll_snoc]
  generalize emAll ps = acc at *
  have hacc : acc.length ≤ 3000 := by omega
  obtain ⟨A, cp, hc, hf, ho, hb⟩ := h
  have hfr := w_isFree ch
  have key : ∀ w3 A2 c2 m, OwnL encB w3 (bb + 1) 5 A2 c2 (acc ++ m) → Below (bb + 1) w w3 → BoxB (w3.setCell ⟨bb, 0, none⟩ (.slice A2 (acc ++ m).length c2)) bb (acc ++ m) ∧ Below bb w (w3.setCell ⟨bb, 0, none⟩ (.slice A2 (acc ++ m).length c2)) := by
    intro w3 A2 c2 m hown3 hb3
    have k0 : w3.cell? ⟨bb, 0, none⟩ = some (.slice A acc.length cp) := (hb3.cell (p := ⟨bb, 0, none⟩) (by show bb < bb + 1; omega)).trans hc
    have f0 : w3.frozen? ⟨bb, 0, none⟩ = false := (frozen_below hb3 (p := ⟨bb, 0, none⟩) (by show bb < bb + 1; omega)).trans hf
    refine ⟨⟨A2, c2, World.cell?_setCell_same _ _ _ k0, by rw [World.frozen?_setCell]; exact f0, own_set_lt hown3 (by show bb < bb + 1; omega) _, ?_⟩, (show Below bb w w3 from hb3.mono (by omega)).setCell (p := ⟨bb, 0, none⟩) (Nat.le_refl _) _⟩
    have := hb3.size; simp; omega
  cases b
  · rw [emP_plain]
    go_enter Tryz.func114, Tryz.ntmps114
    go_wp2_with (at_builtin
                 refine wpList_app encB sl_u8t [ch] rfl _ _ rfl rfl ho #[.int .u8 ch.toNat] rfl 0 rfl rfl (by omega) (by simp only [maxLen]; omega) (by omega) ?_
                 intro g' c'' w3 hown3 hg3 hb3 hbg
                 have k0 : w3.cell? ⟨bb, 0, none⟩ = some (.slice A acc.length cp) := (hb3.cell (p := ⟨bb, 0, none⟩) (by show bb < bb + 1; omega)).trans hc
                 have f0 : w3.frozen? ⟨bb, 0, none⟩ = false := (frozen_below hb3 (p := ⟨bb, 0, none⟩) (by show bb < bb + 1; omega)).trans hf)
    go_end0
    have := key w3 _ _ _ hown3 hb3
    rw [List.length_append] at this
    exact ⟨rfl, this⟩
  · cases hfc : isFreeB ch
    · rw [emP_esc hfc]
      rw [hfc] at hfr
      clear hfc
      have hek := w_escape ch (bb + 1) A cp acc (by omega)
      have h3 : (escL ch).length = 3 := rfl
      generalize escL ch = el at *
      have H3 := Lib.hid h3
      clear h3
      go_enter Tryz.func114, Tryz.ntmps114
      go_wp2_with (first
        | (go_at_call 115; refine (hfr _).mono ?_; rintro e w' ⟨rfl, rfl⟩)
        | (go_at_call 116; refine (hek _ ho (by omega)).mono ?_; rintro e w3 ⟨⟨A2, c2, rfl, hown3⟩, hb3⟩
           have k0 : w3.cell? ⟨bb, 0, none⟩ = some (.slice A acc.length cp) := (hb3.cell (p := ⟨bb, 0, none⟩) (by show bb < bb + 1; omega)).trans hc
           have f0 : w3.frozen? ⟨bb, 0, none⟩ = false := (frozen_below hb3 (p := ⟨bb, 0, none⟩) (by show bb < bb + 1; omega)).trans hf))
      go_end0
      have := key w3 _ _ _ hown3 hb3
      rw [List.length_append, H3.out] at this
      exact ⟨rfl, this⟩
    · rw [emP_free hfc]
      rw [hfc] at hfr
      clear hfc
      go_enter Tryz.func114, Tryz.ntmps114
      go_wp2_with (first
        | (go_at_call 115; refine (hfr _).mono ?_; rintro e w' ⟨rfl, rfl⟩)
        | (at_builtin
           refine wpList_app encB sl_u8t [ch] rfl _ _ rfl rfl ho #[.int .u8 ch.toNat] rfl 0 rfl rfl (by omega) (by simp only [maxLen]; omega) (by omega) ?_
           intro g' c'' w3 hown3 hg3 hb3 hbg
           have k0 : w3.cell? ⟨bb, 0, none⟩ = some (.slice A acc.length cp) := (hb3.cell (p := ⟨bb, 0, none⟩) (by show bb < bb + 1; omega)).trans hc
           have f0 : w3.frozen? ⟨bb, 0, none⟩ = false := (frozen_below hb3 (p := ⟨bb, 0, none⟩) (by show bb < bb + 1; omega)).trans hf))
      go_end0
      have := key w3 _ _ _ hown3 hb3
      rw [List.length_append] at this
      exact ⟨rfl, this⟩
def EachPostN (bb : Nat) (w : World) (r : Option (List EB)) (e : Ending) (w' : World) : Prop :=
  (match r with
    | none => e = .returned (.bool false)
    | some out => e = .returned (.bool true) ∧ BoxB w' bb (emAll out)) ∧ Below bb w w'

set_option maxHeartbeats 4000000 in
theorem w_eachN (l : List UInt8) (hl : l.length ≤ 200) (bb : Nat) (w : World) (hbox : BoxB w bb []) :
    Calls Tryz.prog 113 #[S l, .func (.func 114) #[] #[.pointer (some ⟨bb, 0, none⟩)]] w (EachPostN bb w (unP l [])) := by
  obtain ⟨R, hR⟩ : ∃ R, R = unP l [] := ⟨_, rfl⟩
  rw [← hR]
  have HR := Lib.hid hR
  clear hR
  go_enter Tryz.func113, Tryz.ntmps113
  go_wp2_with fail
  go_loopw [5] (fun i' wr => ∃ (k : Nat) (acc : List EB), i' = .int .i64 k ∧ k ≤ l.length ∧ acc.length ≤ k ∧ BoxB wr bb (emAll acc) ∧ Below bb w wr ∧ unP (l.drop k) acc = unP l []) (fun i' _ => l.length - (intOf i').toNat)
  case atStart => exact ⟨0, [], rfl, by omega, by simp, hbox, Below.refl _ _, rfl⟩
  case round =>
    obtain ⟨k, acc, rfl, hk, hak, hbx, hbel, heq⟩ := hrel
    by_cases hlt : k < l.length
    · obtain ⟨x, hx, hs⟩ := drop_step hlt
      have hg : ∀ h, l[k]'h = x := fun h => by rw [List.getElem?_eq_getElem h] at hx; exact Option.some.inj hx
      rw [hs] at heq
      by_cases h37 : x = 37
      · subst h37
        by_cases h3 : l.length < k + 3
        · have hsh : (l.drop (k + 1)).length < 2 := by rw [List.length_drop]; omega
          rw [unP_short hsh] at heq
          have HR2 := Lib.hid (show R = none from by rw [HR.out]; exact heq.symm)
          clear heq hs hx
          have a1 : (l.length : Int) < (k : Int) + 3 := by omega
          go_wp2_with fail
          go_ret
          rw [HR2.out]
          exact ⟨rfl, hbel⟩
        · obtain ⟨a, hxa, hsa⟩ := drop_step (l := l) (k := k + 1) (by omega)
          obtain ⟨b, hxb, hsb⟩ := drop_step (l := l) (k := k + 1 + 1) (by omega)
          have hga : ∀ h, l[k + 1]'h = a := fun h => by rw [List.getElem?_eq_getElem h] at hxa; exact Option.some.inj hxa
          have hgb : ∀ h, l[k + 2]'h = b := fun h => by have hxb := hxb; rw [List.getElem?_eq_getElem (by omega)] at hxb; exact Option.some.inj hxb
          have a1 : ¬ (l.length : Int) < (k : Int) + 3 := by omega
          have k1 : k + 1 < l.length := by omega
          have k2 : k + 2 < l.length := by omega
          have v1 : IntKind.i64.wrap ((k : Int) + 1) = (k : Int) + 1 := IntWalk.i64_in _ ⟨by omega, by omega⟩
          have v2 : (0 : Int) ≤ (k : Int) + 1 := by omega
          have v3 : (k : Int) + 1 < (l.length : Int) := by omega
          have v4 : ((k : Int) + 1).toNat = k + 1 := by omega
          have u1 : IntKind.i64.wrap ((k : Int) + 2) = (k : Int) + 2 := IntWalk.i64_in _ ⟨by omega, by omega⟩
          have u2 : (0 : Int) ≤ (k : Int) + 2 := by omega
          have u3 : (k : Int) + 2 < (l.length : Int) := by omega
          have u4 : ((k : Int) + 2).toNat = k + 2 := by omega
          rw [hsa, hsb] at heq
          by_cases hha : 0 ≤ hexv a
          · have n1 : ¬ hexv a < 0 := by omega
            by_cases hhb : 0 ≤ hexv b
            · have n2 : ¬ hexv b < 0 := by omega
              rw [unP_esc hha hhb] at heq
              have Heq := Lib.hid heq
              have e9 := byte_or hha hhb
              have hbxD : BoxB wr.drew bb (emAll acc) := hbx
              have hbelD : Below bb w wr.drew := hbel.drew
              clear heq hs hx hsa hsb hxa hxb
              go_wp2_with (go_at_call 166; refine (w_digit _ _).mono ?_; rintro e w' ⟨rfl, rfl⟩)
              go_region_with (first
                | (go_at_call 166; refine (w_digit _ _).mono ?_; rintro e w' ⟨rfl, rfl⟩)
                | (go_at_call 114; (try rw [e9]); refine (w_seeN (Larder.byteOf a b) true bb acc (by omega) _ hbxD).mono ?_; rintro e w2 ⟨rfl, hbx2, hb2⟩))
              all_goals go_wp2
              all_goals go_roundw
              all_goals first
                | exact ⟨k + 1 + 1 + 1, acc ++ [(Larder.byteOf a b, true)], by go_num, by omega, by simp; omega, hbx2, hbelD.trans hb2, Heq.out⟩
                | (simp [intOf]; omega)
            · have n2 : hexv b < 0 := by omega
              rw [unP_bad (by omega)] at heq
              have HR2 := Lib.hid (show R = none from by rw [HR.out]; exact heq.symm)
              clear heq hs hx hsa hsb hxa hxb
              go_wp2_with (go_at_call 166; refine (w_digit _ _).mono ?_; rintro e w' ⟨rfl, rfl⟩)
              go_ret
              rw [HR2.out]
              exact ⟨rfl, hbel⟩
          · have n1 : hexv a < 0 := by omega
            rw [unP_bad (by omega)] at heq
            have HR2 := Lib.hid (show R = none from by rw [HR.out]; exact heq.symm)
            clear heq hs hx hsa hsb hxa hxb
            go_wp2_with (go_at_call 166; refine (w_digit _ _).mono ?_; rintro e w' ⟨rfl, rfl⟩)
            go_ret
            rw [HR2.out]
            exact ⟨rfl, hbel⟩
      · rw [unP_plain h37] at heq
        have h37b : ¬ (x.toNat : Int) = 37 := by
          intro h
          exact h37 (UInt8.toNat_inj.1 (by show x.toNat = 37; omega))
        have h37c : ((x.toNat : Int) == 37) = false := by simpa using h37b
        have Heq := Lib.hid heq
        clear heq hs hx
        go_wp2_with (go_at_call 114; refine (w_seeN x false bb acc (by omega) _ hbx).mono ?_; rintro e w2 ⟨rfl, hbx2, hb2⟩)
        go_roundw
        case rel => exact ⟨k + 1, acc ++ [(x, false)], by go_num, by omega, by simp; omega, hbx2, hbel.trans hb2, Heq.out⟩
        case measure => simp [intOf]; omega
    · rw [drop_end hlt, unP_nil] at heq
      have HR2 := Lib.hid (show R = some acc from by rw [HR.out]; exact heq.symm)
      clear heq
      go_wp2_with fail
      go_ret
      rw [HR2.out]
      exact ⟨⟨rfl, hbx⟩, hbel⟩
end Go.Proofs.YtemjoiaapfhenaaGreatDoor
end

/- WNrmD -/
section
namespace Go.Proofs.YtemjoiaapfhenaaGreatDoor
open Go.RowKit Go.Larder
set_option linter.unusedVariables false
set_option linter.unusedSimpArgs false
theorem sl_strN : SlT Tryz.prog 22 9 1 16 := SlT.mk' (z := .string ByteArray.empty) Tryz.underlying22 (by kernel_rfl) rfl
theorem spl_len1 (c : UInt8) : ∀ s : List UInt8, (spl c s).length ≤ s.length + 1 := fun s => by
  have := spl_len c s
  have := List.count_le_length (a := c) (l := s)
  omega
theorem nrm_join (p : List UInt8) (hp : p.length ≤ 1000) : (nrm [] (spl 47 p)).length ≤ 1001 ∧ (Lib.join (nrm [] (spl 47 p)) [47]).length ≤ 1002001 := by
  have h1 := nrm_len (spl 47 p) []
  have h2 := spl_len1 47 p
  have h3 := nrm_mem 1000 (spl 47 p) [] (by simp) (fun x hx => by have := spl_mem_len hx; omega)
  have h4 := join_lenG [47] 1000 (nrm [] (spl 47 p)) h3
  simp only [List.length_nil, List.length_cons] at *
  refine ⟨by omega, Nat.le_trans h4 ?_⟩
  have : (nrm [] (spl 47 p)).length ≤ 1001 := by omega
  exact Nat.le_trans (Nat.mul_le_mul_right _ this) (by decide)
set_option maxHeartbeats 2000000 in
set_option maxRecDepth 100000 in
theorem w_dots (p : List UInt8) (hp : p.length ≤ 1000) (w : World) (hM : ML w) :
    Calls Tryz.prog 118 #[S (47 :: p)] w fun e w' => e = .returned (S ([47] ++ Lib.join (nrm [] (spl 47 p)) [47])) ∧ Below w.heap.size w w' := by
  obtain ⟨hj1, hj2⟩ := nrm_join p hp
  have hL := spl_len1 47 p
  have hsp := w_Split p [47] (by omega) (by simp) w hM
  rw [split_spl] at hsp
  obtain ⟨R, hR⟩ : ∃ R, nrm [] (spl 47 p) = R := ⟨_, rfl⟩
  rw [hR] at hj1 hj2 ⊢
  generalize spl 47 p = L at *
  have HR := Lib.hid hR
  clear hR
  have hL2 : L.length ≤ 1001 := by omega
  have Hj := Lib.hid (And.intro hj1 hj2)
  clear hj1 hj2
  go_enter Tryz.func118, Tryz.ntmps118
  go_wp2_with (go_at_call 8; refine hsp.mono ?_; rintro e w1 ⟨rfl, ho1, hb1⟩)
  have hr1 := ho1.read
  have hb1s := hb1.size
  clear hsp ho1
  go_loopw [3, 12] (fun o i' wr => ∃ (k : Nat) (out : List (List UInt8)) (A : Option Addr) (c : Nat), i' = .int .i64 k ∧ o = .slice A out.length c ∧ k ≤ L.length ∧ out.length ≤ k ∧ OwnL encS wr w1.heap.size 9 A c out ∧ Below w1.heap.size w1 wr ∧ Hid ((k < L.length → nrm out (L.drop k) = R) ∧ (k = L.length → out = R))) (fun _ i' _ => L.length - (intOf i').toNat)
  case atStart => exact ⟨0, [], none, 0, rfl, rfl, by omega, by simp, OwnL.nil _ _ _, Below.refl _ _, Lib.hid ⟨fun _ => HR.out, fun h => by have := HR.out; have h0 : L = [] := List.eq_nil_of_length_eq_zero h.symm; rw [h0, nrm_nil] at this; exact this⟩⟩
  case round =>
    obtain ⟨k, out, A, c, rfl, rfl, hk, hok, hown, hbel, heq⟩ := hrel
    have hbs := hbel.size
    by_cases hlt : k < L.length
    · obtain ⟨s, hx, hs⟩ := drop_step hlt
      obtain ⟨g, off, hA, hgb, hc0⟩ := (hr1.below hbel (Nat.le_refl _)).at_S hx
      have he := heq.out.1 hlt
      rw [hs] at he
      have hcap := hown.le_cap
      injection hA with hA
      injection hA with e1 e2
      subst e1 e2
      rw [Nat.zero_add] at hc0
      have v2 : IntKind.i64.wrap ((L.length : Int) - 1) = (L.length : Int) - 1 := IntWalk.i64_in _ ⟨by omega, by omega⟩
      have v3 : IntKind.i64.wrap ((out.length : Int) - 1) = (out.length : Int) - 1 := IntWalk.i64_in _ ⟨by omega, by omega⟩
      by_cases h2 : s = [46, 46]
      · subst h2
        clear hs hx
        rcases hown.form with ⟨rfl, h0, rfl⟩ | ⟨g1, rfl, hg1, hg2⟩
        · obtain rfl : out = [] := List.eq_nil_of_length_eq_zero h0
          clear h0
          by_cases hlast : k = L.length - 1
          · have hkb : ((k : Int) == (L.length : Int) - 1) = true := by simp; omega
            have hr0 : L.drop (k + 1) = [] := List.drop_eq_nil_of_le (by omega)
            rw [hr0, nrm_two_end] at he
            have Hq := Lib.hid (show (k + 1 < L.length → nrm ([] ++ [[]]) (L.drop (k + 1)) = R) ∧ (k + 1 = L.length → [] ++ [[]] = R) from ⟨fun h => by omega, fun _ => he⟩)
            clear he heq hr0 hlast
            go_wp2_with (at_builtin
                         refine wpList_app (l := ([] : List (List UInt8))) (A := none) (c := 0) encS sl_strN [([] : List UInt8)] rfl _ _ rfl (by rfl) (OwnL.nil _ _ _) #[S ([] : List UInt8)] rfl 0 rfl rfl (by omega) (by simp only [maxLen]; omega) (by omega) ?_
                         intro g' c'' w5 hown5 hg5 hb5 hbg)
            go_roundw
            case rel => exact ⟨k + 1, [] ++ [[]], _, _, by go_num, by simp, by omega, by first | (simp; done) | (simp; omega), hown5, hbel.trans hb5, Hq⟩
            case measure => simp [intOf]; omega
          · have hkb : ((k : Int) == (L.length : Int) - 1) = false := by simp; omega
            have hr0 : L.drop (k + 1) ≠ [] := fun h => by have := congrArg List.length h; simp at this; omega
            rw [nrm_two hr0] at he
            have Hq := Lib.hid (show (k + 1 < L.length → nrm [] (L.drop (k + 1)) = R) ∧ (k + 1 = L.length → [] = R) from ⟨fun _ => he, fun h => by omega⟩)
            clear he heq hr0 hlast
            go_wp2_with fail
            go_roundw
            case rel => exact ⟨k + 1, [], none, _, by go_num, rfl, by omega, by omega, (OwnL.nil _ _ _), hbel, Hq⟩
            case measure => simp [intOf]; omega
        · have hown2 : OwnL encS wr w1.heap.size 9 (some ⟨g1, 0, none⟩) c (out.take (out.length - 1)) := hown.take _ (by omega)
          have hdl : out.take (out.length - 1) = out.dropLast := List.dropLast_eq_take.symm
          rw [hdl] at hown2
          clear hdl
          have hl2 : out.dropLast.length = out.length - 1 := by simp
          obtain ⟨o2, ho2⟩ : ∃ o2, out.dropLast = o2 := ⟨_, rfl⟩
          rw [ho2] at hown2 hl2
          have Ho2 := Lib.hid ho2
          clear ho2
          have hmx : max 0 ((out.length : Int) - 1) = (o2.length : Int) := by omega
          have hcap2 : o2.length ≤ c := by omega
          have hcap3 : o2.length ≤ out.length := by omega
          clear hl2
          by_cases hlast : k = L.length - 1
          · have hkb : ((k : Int) == (L.length : Int) - 1) = true := by simp; omega
            have hr0 : L.drop (k + 1) = [] := List.drop_eq_nil_of_le (by omega)
            rw [hr0, nrm_two_end, Ho2.out] at he
            have Hq := Lib.hid (show (k + 1 < L.length → nrm (o2 ++ [[]]) (L.drop (k + 1)) = R) ∧ (k + 1 = L.length → o2 ++ [[]] = R) from ⟨fun h => by omega, fun _ => he⟩)
            clear he heq hr0 hlast
            go_wp2_with (at_builtin
                         refine wpList_app (l := o2) (A := (some ⟨g1, 0, none⟩)) (c := c) encS sl_strN [([] : List UInt8)] rfl _ _ rfl (by rfl) hown2 #[S ([] : List UInt8)] rfl 0 rfl rfl (by omega) (by simp only [maxLen]; omega) (by omega) ?_
                         intro g' c'' w5 hown5 hg5 hb5 hbg)
            go_roundw
            case rel => exact ⟨k + 1, o2 ++ [[]], _, _, by go_num, by simp, by omega, by first | (simp; done) | (simp; omega), hown5, hbel.trans hb5, Hq⟩
            case measure => simp [intOf]; omega
          · have hkb : ((k : Int) == (L.length : Int) - 1) = false := by simp; omega
            have hr0 : L.drop (k + 1) ≠ [] := fun h => by have := congrArg List.length h; simp at this; omega
            rw [nrm_two hr0, Ho2.out] at he
            have Hq := Lib.hid (show (k + 1 < L.length → nrm o2 (L.drop (k + 1)) = R) ∧ (k + 1 = L.length → o2 = R) from ⟨fun _ => he, fun h => by omega⟩)
            clear he heq hr0 hlast
            go_wp2_with fail
            go_roundw
            case rel => exact ⟨k + 1, o2, (some ⟨g1, 0, none⟩), _, by go_num, rfl, by omega, by omega, hown2, hbel, Hq⟩
            case measure => simp [intOf]; omega
      · by_cases h1 : s = [46]
        · subst h1
          clear hs hx
          by_cases hlast : k = L.length - 1
          · have hkb : ((k : Int) == (L.length : Int) - 1) = true := by simp; omega
            have hr0 : L.drop (k + 1) = [] := List.drop_eq_nil_of_le (by omega)
            rw [hr0, nrm_one_end] at he
            have Hq := Lib.hid (show (k + 1 < L.length → nrm (out ++ [[]]) (L.drop (k + 1)) = R) ∧ (k + 1 = L.length → out ++ [[]] = R) from ⟨fun h => by omega, fun _ => he⟩)
            clear he heq hr0 hlast
            go_wp2_with (at_builtin
                         refine wpList_app (l := out) (A := A) (c := c) encS sl_strN [([] : List UInt8)] rfl _ _ rfl (by rfl) hown #[S ([] : List UInt8)] rfl 0 rfl rfl (by omega) (by simp only [maxLen]; omega) (by omega) ?_
                         intro g' c'' w5 hown5 hg5 hb5 hbg)
            go_roundw
            case rel => exact ⟨k + 1, out ++ [[]], _, _, by go_num, by simp, by omega, by first | (simp; done) | (simp; omega), hown5, hbel.trans hb5, Hq⟩
            case measure => simp [intOf]; omega
          · have hkb : ((k : Int) == (L.length : Int) - 1) = false := by simp; omega
            have hr0 : L.drop (k + 1) ≠ [] := fun h => by have := congrArg List.length h; simp at this; omega
            rw [nrm_one hr0] at he
            have Hq := Lib.hid (show (k + 1 < L.length → nrm out (L.drop (k + 1)) = R) ∧ (k + 1 = L.length → out = R) from ⟨fun _ => he, fun h => by omega⟩)
            clear he heq hr0 hlast
            go_wp2_with fail
            go_roundw
            case rel => exact ⟨k + 1, out, A, _, by go_num, rfl, by omega, by omega, hown, hbel, Hq⟩
            case measure => simp [intOf]; omega
        · rw [nrm_other h2 h1] at he
          have Hq := Lib.hid (show (k + 1 < L.length → nrm (out ++ [s]) (L.drop (k + 1)) = R) ∧ (k + 1 = L.length → out ++ [s] = R) from ⟨fun _ => he, fun h => by rw [List.drop_eq_nil_of_le (by omega), nrm_nil] at he; exact he⟩)
          clear he heq hs hx
          have n2 : (s == [46, 46]) = false := by simpa using h2
          have n1 : (s == [46]) = false := by simpa using h1
          go_wp2_with (at_builtin
                       refine wpList_app (l := out) (A := A) (c := c) encS sl_strN [s] rfl _ _ rfl (by rfl) hown #[S s] rfl 0 rfl rfl (by omega) (by simp only [maxLen]; omega) (by omega) ?_
                       intro g' c'' w5 hown5 hg5 hb5 hbg)
          go_roundw
          case rel => exact ⟨k + 1, out ++ [s], _, _, by go_num, by simp, by omega, by first | (simp; done) | (simp; omega), hown5, hbel.trans hb5, Hq⟩
          case measure => simp [intOf]; omega
    · obtain rfl : k = L.length := by omega
      have Hq := Lib.hid (heq.out.2 rfl)
      clear heq
      obtain ⟨hj1, hj2⟩ := Hj.out
      have hjn := w_Join out [47] A c wr.heap.size
      rw [Hq.out] at hjn
      have hjn2 := fun W h1 h2 h3 => hjn W h1 h2 h3 (by omega) (by omega)
      have hcap := hown.le_cap
      rw [Hq.out] at hcap
      have hrd := hown.read
      rw [Hq.out] at hrd
      have hol : out.length = R.length := by rw [Hq.out]
      rw [hol]
      clear hol hjn hown hok
      obtain ⟨J, hJ⟩ : ∃ J, Lib.join R [47] = J := ⟨_, rfl⟩
      rw [hJ] at hjn2 hj2
      have HJ := Lib.hid hJ
      clear hJ hj1
      have hbw := hb1.trans (hbel.mono hb1s)
      have hc : ∀ w, (Op.stringOp .add ⟨#[47]⟩ ⟨J.toArray⟩).run Tryz.prog w = .ok (.string ⟨([47] ++ J).toArray⟩) w := fun w => run_cat [47] J (by simp) (by omega) w
      go_wp2_with (go_at_call 75; refine (hjn2 _ hrd (Nat.le_refl _) hcap).mono ?_; rintro e w2 ⟨rfl, hb2⟩)
      go_ret
      rw [HJ.out]
      exact ⟨rfl, hbw.trans (hb2.mono hbw.size)⟩
end Go.Proofs.YtemjoiaapfhenaaGreatDoor
end

/- WNrmN -/
section
namespace Go.Larder
theorem nrmE_big {l : List UInt8} (h : 200 < l.length) : nrmE l = .error 2 := by unfold nrmE; rw [if_pos h]
theorem nrmE_bad {l : List UInt8} (h : ¬ 200 < l.length) (hb : (Lib.hasPrefix l [47] && l.all okN) = false) : nrmE l = .error 3 := by unfold nrmE; rw [if_neg h, if_neg (by simp [hb])]
theorem nrmE_none {l : List UInt8} (h : ¬ 200 < l.length) (hb : (Lib.hasPrefix l [47] && l.all okN) = true) (hu : unP l [] = none) : nrmE l = .error 3 := by unfold nrmE; rw [if_neg h, if_pos hb, hu]
theorem nrmE_some {l : List UInt8} {ps : List EB} (h : ¬ 200 < l.length) (hb : (Lib.hasPrefix l [47] && l.all okN) = true) (hu : unP l [] = some ps) : nrmE l = .ok (nrmB (emAll ps)) := by unfold nrmE; rw [if_neg h, if_pos hb, hu]
theorem nrmE_none' {l : List UInt8} (h : ¬ 200 < l.length) (hu : unP l [] = none) : nrmE l = .error 3 := by
  cases hb : Lib.hasPrefix l [47] && l.all okN
  · exact nrmE_bad h hb
  · exact nrmE_none h hb hu
theorem hp47 (r : List UInt8) : Lib.hasPrefix (47 :: r) [47] = true := by simp [Lib.hasPrefix, List.isPrefixOf]
theorem hp47n {x : UInt8} (r : List UInt8) (h : x ≠ 47) : Lib.hasPrefix (x :: r) [47] = false := by simp [Lib.hasPrefix, List.isPrefixOf]; exact fun e => h e.symm
theorem cut47 (b : List UInt8) : cut1 63 (47 :: b) = (47 :: (cut1 63 b).1, (cut1 63 b).2.1, (cut1 63 b).2.2) := by
  conv => lhs; unfold cut1
  simp
theorem em47 {r : List UInt8} {ps : List EB} (h : unP (47 :: r) [] = some ps) (hr : (47 :: r).length ≤ 200) : ∃ b, emAll ps = 47 :: b ∧ b.length ≤ 600 := by
  have hl := unP_len _ (47 :: r) [] ps (Nat.le_refl _) h
  rw [unP_plain (by decide)] at h
  obtain ⟨t, ht⟩ := unP_head _ r _ ps (Nat.le_refl _) h
  have he := emAll_len ps
  refine ⟨emAll t, by rw [ht]; simp [emAll, emP_plain], ?_⟩
  have : (emAll ps).length = 1 + (emAll t).length := by rw [ht]; simp [emAll, emP_plain]; omega
  simp only [List.length_nil] at hl
  omega
theorem all_snoc {f : UInt8 → Bool} {l : List UInt8} {k : Nat} {x : UInt8} (h : l[k]? = some x) : (l.take (k + 1)).all f = ((l.take k).all f && f x) := by
  rw [List.take_add_one, h]; simp
end Go.Larder
namespace Go.Proofs.YtemjoiaapfhenaaGreatDoor
open Go.RowKit Go.Larder
set_option linter.unusedVariables false
set_option linter.unusedSimpArgs false
theorem okN_cases (c : UInt8) : (okN c = true ∧ (33 : Int) ≤ c.toNat ∧ (c.toNat : Int) ≤ 126 ∧ ((c.toNat : Int) == 35) = false) ∨ (okN c = false ∧ ((c.toNat : Int) < 33 ∨ ((33 : Int) ≤ c.toNat ∧ ((126 : Int) < c.toNat ∨ ((c.toNat : Int) ≤ 126 ∧ ((c.toNat : Int) == 35) = true))))) := by
  have h35 : (c == 35) = ((c.toNat : Int) == 35) := by
    rw [Bool.eq_iff_iff]
    simp only [beq_iff_eq, ← UInt8.toNat_inj]
    show c.toNat = 35 ↔ _
    omega
  unfold okN
  rw [h35]
  by_cases a : 33 ≤ c.toNat
  · by_cases b : c.toNat ≤ 126
    · cases h : ((c.toNat : Int) == 35)
      · exact .inl ⟨by simp [a, b], by omega, by omega, rfl⟩
      · exact .inr ⟨by simp [a, b], .inr ⟨by omega, .inr ⟨by omega, rfl⟩⟩⟩
    · exact .inr ⟨by simp [b], .inr ⟨by omega, .inl (by omega)⟩⟩
  · exact .inr ⟨by simp [a], .inl (by omega)⟩
set_option maxHeartbeats 4000000 in
set_option maxRecDepth 100000 in
theorem w_Normal (l : List UInt8) (hl : l.length ≤ 140737488351232) (w : World) (hM : ML w) :
    Calls Tryz.prog 53 #[S l] w (StPost w (nrmE l)) := by
  by_cases hbig : 200 < l.length
  · rw [nrmE_big hbig]
    go_enter Tryz.func53, Tryz.ntmps53
    go_wp2_with fail
    go_ret2
    exact ⟨rfl, Below.refl _ _⟩
  · rcases l with _ | ⟨x, r⟩
    · rw [nrmE_bad hbig rfl]
      go_enter Tryz.func53, Tryz.ntmps53
      go_wp2_with fail
      go_ret2
      exact ⟨rfl, Below.refl _ _⟩
    · by_cases hx : x = 47
      · subst hx
        have hlen : (47 :: r).length ≤ 200 := by omega
        have hrl : r.length + 1 ≤ 200 := by simpa using hlen
        have hp := hp47 r
        have hbox : BoxB (w.alloc (.cells #[.slice none 0 0] 112)) w.heap.size (emAll []) := ⟨none, 0, by rw [cell_of_row _ _ _ _ _ (0, 0) (heap_alloc_new w _)]; rfl, Lib.frozen_of_heap (heap_alloc_new w _) 0, OwnL.nil _ _ _, by simp⟩
        have hec := w_eachN (47 :: r) hlen w.heap.size _ hbox
        have hpl : (47 :: r).length = r.length + 1 := rfl
        have hend : ∀ g0 : Bool, g0 = (unP (47 :: r) []).isSome → (g0 && (47 :: r).all okN) = false → nrmE (47 :: r) = .error 3 := by
          intro g0 h1 h2
          cases hu : unP (47 :: r) [] with
          | none => exact nrmE_none' hbig hu
          | some ps =>
            rw [hu] at h1
            simp only [Option.isSome_some] at h1
            subst h1
            exact nrmE_bad hbig (by rw [hp]; exact h2)
        have hend2 : ∀ ps, unP (47 :: r) [] = some ps → (47 :: r).all okN = true → nrmE (47 :: r) = .ok (nrmB (emAll ps)) := fun ps hu ho => nrmE_some hbig (by rw [hp, ho]; rfl) hu
        have hem : ∀ ps, unP (47 :: r) [] = some ps → ∃ b, emAll ps = 47 :: b ∧ b.length ≤ 600 := fun ps hu => em47 hu hlen
        obtain ⟨g0, hg0⟩ : ∃ g0 : Bool, g0 = (unP (47 :: r) []).isSome := ⟨_, rfl⟩
        have hec2 : Calls Tryz.prog 113 #[S (47 :: r), .func (.func 114) #[] #[.pointer (some ⟨w.heap.size, 0, none⟩)]] (w.alloc (.cells #[.slice none 0 0] 112))
            (fun e w' => e = .returned (.bool g0) ∧ (g0 = true → ∃ ps, unP (47 :: r) [] = some ps ∧ BoxB w' w.heap.size (emAll ps)) ∧ Below w.heap.size (w.alloc (.cells #[.slice none 0 0] 112)) w') := by
          refine hec.mono ?_
          rintro e w' ⟨h1, h2⟩
          cases hu : unP (47 :: r) [] with
          | none =>
            rw [hu] at h1 hg0
            subst hg0
            exact ⟨h1, fun h => by simp at h, h2⟩
          | some ps =>
            rw [hu] at h1 hg0
            subst hg0
            exact ⟨h1.1, fun _ => ⟨ps, rfl, h1.2⟩, h2⟩
        have Hend := Lib.hid (hend g0 hg0)
        have Hend2 := Lib.hid hend2
        have Hem := Lib.hid hem
        obtain ⟨E, hE⟩ : ∃ E, nrmE (47 :: r) = E := ⟨_, rfl⟩
        rw [hE]
        have HE := Lib.hid hE
        have hL : (47 :: r : List UInt8).length = r.length + 1 := rfl
        clear hE hend hend2 hem hec hg0 hp hbig hl hpl hbox
        have hb0 : Below w.heap.size w (w.alloc (.cells #[.slice none 0 0] 112)) := (Below.refl _ _).alloc (Nat.le_refl _) _
        go_enter Tryz.func53, Tryz.ntmps53
        go_wp2_with (go_at_call 113; refine hec2.mono ?_; rintro e w1 ⟨rfl, hps, hb1⟩)
        have hbw1 : Below w.heap.size w w1 := hb0.trans (hb1.mono (by simp))
        have hs1 : w.heap.size + 1 ≤ w1.heap.size := by have := hb1.size; simpa using this
        have Hps := Lib.hid hps
        clear hps hec2 hb0 hb1
        obtain ⟨l, hl0⟩ : ∃ l, (47 :: r : List UInt8) = l := ⟨_, rfl⟩
        rw [hl0] at hL Hend Hend2 HE Hps Hem ⊢
        clear hl0
        have hL1 : l.length ≤ r.length + 1 := Nat.le_of_eq hL
        have hL2 : r.length + 1 ≤ l.length := Nat.le_of_eq hL.symm
        clear hL
        go_loop [5, 25] (fun g i' => ∃ k : Nat, i' = .int .i64 k ∧ g = .bool (g0 && (l.take k).all okN) ∧ k ≤ l.length) (fun _ i' => l.length - (intOf i').toNat)
        case atStart => exact ⟨0, rfl, by simp, by omega⟩
        case round =>
          obtain ⟨k, rfl, rfl, hk⟩ := hrel
          obtain ⟨gb, hgb⟩ : ∃ gb, (g0 && (l.take k).all okN) = gb := ⟨_, rfl⟩
          rw [hgb]
          by_cases hlt : k < l.length
          · have a1 : (k : Int) < (r.length : Int) + 1 := by omega
            obtain ⟨x, hx, -⟩ := drop_step hlt
            have hg : ∀ h, l[k]'h = x := fun h => by rw [List.getElem?_eq_getElem h] at hx; exact Option.some.inj hx
            have hnext : (g0 && (l.take (k + 1)).all okN) = (gb && okN x) := by rw [all_snoc hx, ← hgb, Bool.and_assoc]
            have Hn := Lib.hid hnext
            clear hnext hx hgb
            cases gb
            · go_wp2_with fail
              go_round
              case rel => exact ⟨k + 1, by go_num, by rw [Hn.out]; rfl, by omega⟩
              case measure => simp [intOf]; omega
            · rcases okN_cases x with ⟨ho, h1, h2, h3⟩ | ⟨ho, h⟩
              · rw [ho] at Hn
                go_wp2_with fail
                go_round
                case rel => exact ⟨k + 1, by go_num, by rw [Hn.out]; rfl, by omega⟩
                case measure => simp [intOf]; omega
              · rw [ho] at Hn
                rcases h with h | ⟨h1, h | ⟨h2, h3⟩⟩
                · go_wp2_with fail
                  go_round
                  case rel => exact ⟨k + 1, by go_num, by rw [Hn.out]; rfl, by omega⟩
                  case measure => simp [intOf]; omega
                · go_wp2_with fail
                  go_round
                  case rel => exact ⟨k + 1, by go_num, by rw [Hn.out]; rfl, by omega⟩
                  case measure => simp [intOf]; omega
                · go_wp2_with fail
                  go_round
                  case rel => exact ⟨k + 1, by go_num, by rw [Hn.out]; rfl, by omega⟩
                  case measure => simp [intOf]; omega
          · have a1 : ¬ (k : Int) < (r.length : Int) + 1 := by omega
            obtain rfl : k = l.length := by omega
            rw [List.take_length] at hgb
            cases gb
            · have HE2 := Lib.hid (show E = .error 3 from by rw [← HE.out]; exact Hend.out hgb)
              clear hgb
              go_wp2_with fail
              go_ret2
              rw [HE2.out]
              exact ⟨rfl, hbw1⟩
            · have hgg : g0 = true ∧ l.all okN = true := by simpa using hgb
              clear hgb
              obtain ⟨ps, hu, A, cp, hc1, hf1, ho1, hbb⟩ := Hps.out hgg.1
              obtain ⟨b, hb, hbl⟩ := Hem.out ps hu
              have HE2 := Lib.hid (show E = .ok (nrmB (emAll ps)) from by rw [← HE.out]; exact Hend2.out ps hu hgg.2)
              rw [hb] at HE2 hc1 ho1
              have hback : (convert 112 9 (.slice A (b.length + 1) cp)).run Tryz.prog w1 = .ok (S (47 :: b)) w1 := run_bytes_str (P := Tryz.prog) 112 9 Tryz.underlying112 Tryz.underlying5 Tryz.underlying9 ho1.read cp
              have hct := c1_Cut (47 :: b) 63 (by simp; omega)
              have hnb : nrmB (47 :: b) = ([47] ++ Lib.join (nrm [] (spl 47 (cut1 63 b).1)) [47]) ++ (if (cut1 63 b).2.2 then [63] ++ (cut1 63 b).2.1 else []) := by unfold nrmB; rw [cut47]; rfl
              rw [hnb] at HE2
              rw [cut47] at hct
              have hcl := cut1_len 63 b
              have hcf := cut1_false (c := 63) (l := b)
              clear hnb hgg hu hb ho1 Hend Hend2 Hem Hps HE
              obtain ⟨⟨p, q, is⟩, hcut⟩ : ∃ t, cut1 63 b = t := ⟨_, rfl⟩
              rw [hcut] at HE2 hct hcl hcf
              simp only at HE2 hct hcl hcf
              clear hcut
              have hpl : p.length ≤ 600 := by omega
              have hql : q.length ≤ 600 := by omega
              have hdt := w_dots p (by omega)
              have hj := (nrm_join p (by omega)).2
              obtain ⟨J, hJ⟩ : ∃ J, Lib.join (nrm [] (spl 47 p)) [47] = J := ⟨_, rfl⟩
              rw [hJ] at hdt hj HE2
              clear hJ hcl
              have hq0 : is = false → q = [] := fun h => by have := (hcf h).1; simp only [Prod.mk.injEq] at this; exact this.2.1
              clear hcf
              have hM1 := hM.keep hbw1
              cases is
              · simp only [Bool.false_eq_true, if_false, List.append_nil] at HE2
                obtain rfl := hq0 rfl
                clear hq0
                have hql0 : ∀ w, (Op.stringOp .add ⟨([47] ++ J).toArray⟩ ⟨([] : List UInt8).toArray⟩).run Tryz.prog w = .ok (.string ⟨([47] ++ J).toArray⟩) w := fun w => by have := run_cat (P := Tryz.prog) ([47] ++ J) [] (by simp; omega) (by simp) w; rwa [List.append_nil] at this
                go_wp2_with (first
                  | (go_at_call 117; refine (hct _).mono ?_; rintro e w2 ⟨rfl, hb2⟩)
                  | (go_at_call 118; refine (hdt _ (hM1.keep hb2)).mono ?_; rintro e w3 ⟨rfl, hb3⟩))
                go_ret2
                rw [HE2.out]
                refine ⟨rfl, ?_⟩
                have hbw2 := hbw1.trans (hb2.mono hbw1.size)
                exact hbw2.trans (hb3.mono hbw2.size)
              · simp only [if_true] at HE2
                clear hq0
                have c1 : ∀ w, (Op.stringOp .add ⟨#[63]⟩ ⟨q.toArray⟩).run Tryz.prog w = .ok (.string ⟨([63] ++ q).toArray⟩) w := fun w => run_cat [63] q (by simp) (by omega) w
                have c2 : ∀ w, (Op.stringOp .add ⟨([47] ++ J).toArray⟩ ⟨([63] ++ q).toArray⟩).run Tryz.prog w = .ok (.string ⟨(([47] ++ J) ++ ([63] ++ q)).toArray⟩) w := fun w => run_cat ([47] ++ J) ([63] ++ q) (by simp; omega) (by simp; omega) w
                go_wp2_with (first
                  | (go_at_call 117; refine (hct _).mono ?_; rintro e w2 ⟨rfl, hb2⟩)
                  | (go_at_call 118; refine (hdt _ (hM1.keep hb2)).mono ?_; rintro e w3 ⟨rfl, hb3⟩))
                go_ret2
                rw [HE2.out]
                refine ⟨rfl, ?_⟩
                have hbw2 := hbw1.trans (hb2.mono hbw1.size)
                exact hbw2.trans (hb3.mono hbw2.size)
      · rw [nrmE_bad hbig (by rw [hp47n r hx]; rfl)]
        have hxb : ((x.toNat : Int) == 47) = false := by
          have : ¬ (x.toNat : Int) = 47 := fun h => hx (UInt8.toNat_inj.1 (by show x.toNat = 47; omega))
          simpa using this
        have hl2 : r.length + 1 ≤ 200 := by simp only [List.length_cons] at hbig; omega
        go_enter Tryz.func53, Tryz.ntmps53
        go_wp2_with fail
        go_ret2
        exact ⟨rfl, Below.refl _ _⟩
end Go.Proofs.YtemjoiaapfhenaaGreatDoor
end

/- WTgt3 -/
section
namespace Go.Proofs.YtemjoiaapfhenaaGreatDoor
open Go.RowKit Go.Larder
set_option linter.unusedVariables false
set_option linter.unusedSimpArgs false

def encO : ElemT Bool := ⟨fun b => [.bool b], 1, fun _ => rfl, fun _ u hu => by simp at hu; subst hu; rfl, by omega⟩
theorem sl_bool : SlT Tryz.prog 91 4 1 1 := SlT.mk' (z := .bool false) Tryz.underlying91 (by kernel_rfl) rfl
set_option maxRecDepth 100000 in
theorem w_chr (n : Nat) (hn : n < 256) (w : World) :
    Calls Tryz.prog 36 #[.int .i64 n] w fun e w' => e = .returned (S [UInt8.ofNat n]) ∧ Below w.heap.size w w' := by
  have hb : ((UInt8.ofNat n).toNat : Int) = (n : Int) := by rw [UInt8.toNat_ofNat']; omega
  have e1 : IntKind.u8.wrap (n : Int) = (n : Int) := by rw [IntKind.wrap_u8]; omega
  have hlit : ReadL encB (w.alloc (.cells #[.int .u8 (n : Int)] 5)) (w.heap.size + 1) (some ⟨w.heap.size, 0, none⟩) [UInt8.ofNat n] := ReadL.lit (E := encB) w #[.int .u8 (n : Int)] _ [UInt8.ofNat n] (by show [Value.int .u8 (n : Int)] = [Value.int .u8 ((UInt8.ofNat n).toNat : Int)]; rw [hb])
  have hback := run_bytes_str (P := Tryz.prog) 112 9 Tryz.underlying112 Tryz.underlying5 Tryz.underlying9 hlit 1
  rw [show [UInt8.ofNat n].length = 1 from rfl] at hback
  generalize UInt8.ofNat n = b at *
  go_enter Tryz.func36, Tryz.ntmps36
  go_wp2_with fail
  go_ret
  exact ⟨rfl, (Below.refl _ _).alloc (Nat.le_refl _) _⟩

theorem chainW {w W w3 : World} (h1 : Below w.heap.size w W) (h2 : Below W.heap.size W w3) : Below w.heap.size w w3 := h1.trans (h2.mono h1.size)
theorem cat1 (acc : List UInt8) (b : UInt8) (h : acc.length ≤ 1000000) (w : World) : (Op.stringOp .add ⟨acc.toArray⟩ ⟨#[b]⟩).run Tryz.prog w = .ok (.string ⟨(acc ++ [b]).toArray⟩) w := run_string_add_lists w acc [b] (by omega) (by simp)
theorem chainAW {w W : World} (h1 : Below w.heap.size w W) (o : Obj) : Below w.heap.size w (W.alloc o) := h1.alloc h1.size o
theorem byteOf_eq {a b : UInt8} (ha : 0 ≤ hexv a) (hb : 0 ≤ hexv b) : ∃ n : Nat, n < 256 ∧ 16 * hexv a + hexv b = (n : Int) ∧ Larder.byteOf a b = UInt8.ofNat n := by
  have h1 := hexv_lt a
  have h2 := hexv_lt b
  exact ⟨(16 * hexv a + hexv b).toNat, by omega, by omega, rfl⟩
theorem all2 {a b : UInt8} {t : List UInt8} : [a, b].all (inTab t) = (inTab t a && inTab t b) := by simp

end Go.Proofs.YtemjoiaapfhenaaGreatDoor
end
