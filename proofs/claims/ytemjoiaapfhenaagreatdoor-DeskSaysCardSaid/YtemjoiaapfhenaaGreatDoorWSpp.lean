/- Walks: ranges, printed: the program's, the reference's. -/
import Derived.Test.YtemjoiaapfhenaaGreatDoorWSpan0
import Derived.Test.YtemjoiaapfhenaaGreatDoorGd02
import Derived.Test.YtemjoiaapfhenaaGreatDoorGd00
import Derived.Deep.RegionWith
namespace Go.Proofs.YtemjoiaapfhenaaGreatDoor
open Go.RowKit Go.Larder
set_option linter.unusedVariables false
set_option linter.unusedSimpArgs false

theorem sl_strS : SlT Tryz.prog 22 9 1 16 := SlT.mk' (z := .string ByteArray.empty) Tryz.underlying22 (by kernel_rfl) rfl
theorem map_snoc {α β : Type} {f : α → β} {l : List α} {k : Nat} {x : α} (h : l[k]? = some x) : (l.take (k + 1)).map f = (l.take k).map f ++ [f x] := by
  rw [List.take_add_one, h]; simp

set_option maxHeartbeats 1000000 in
theorem w_signed (n : Int) (h : -1 ≤ n ∧ n ≤ 99999) (w : World) :
    Calls Tryz.prog 156 #[.int .i64 n] w fun e w' => e = .returned (S (sgnL n)) ∧ Below w.heap.size w w' := by
  obtain ⟨h0, h1⟩ := h
  by_cases hn : n < 0
  · rw [show sgnL n = [] from if_pos hn]
    go_enter Tryz.func156, Tryz.ntmps156
    go_wp2_with fail
    go_ret
    exact ⟨rfl, Below.refl _ _⟩
  · rw [show sgnL n = Lib.decDigits n.toNat from if_neg hn]
    go_enter Tryz.func156, Tryz.ntmps156
    go_wp2_with (go_at_call 10; refine (w_Dig n (by omega) (by omega) _).mono ?_; rintro e w1 ⟨rfl, hb1⟩)
    go_ret
    exact ⟨rfl, hb1⟩

set_option maxHeartbeats 4000000 in
set_option maxRecDepth 100000 in
theorem w_SPrintR (l : List (Int × Int)) (hl : l.length ≤ 140737488351232) (A : Option Addr) (c : Nat) (w : World) (hr : ReadL encII w w.heap.size A l) :
    Calls Tryz.prog 102 #[.slice A l.length c] w (StPost w (spE l)) := by
  have hch := w_checkR l hl A c w hr
  unfold spE
  cases hz : (checkR l == 0)
  · have hz1 : ¬ checkR l = 0 := by simpa using hz
    rw [if_neg hz1]
    generalize checkR l = n at hch hz
    clear hz1
    go_enter Tryz.func102, Tryz.ntmps102
    go_wp2_with (go_at_call 103; refine hch.mono ?_; rintro e w1 ⟨rfl, hb1⟩)
    go_ret2
    exact ⟨rfl, hb1⟩
  · have hz1 : checkR l = 0 := by simpa using hz
    rw [if_pos hz1]
    rw [hz1] at hch
    obtain ⟨_, hl20, hall⟩ := checkR_zero hz1
    clear hz hz1
    go_enter Tryz.func102, Tryz.ntmps102
    go_wp2_with (go_at_call 103; refine hch.mono ?_; rintro e w1 ⟨rfl, hb1⟩)
    go_loopw [5, 15] (fun o i' wr => ∃ (k : Nat) (acc : List UInt8), i' = .int .i64 k ∧ o = S acc ∧ k ≤ l.length ∧ acc.length ≤ 6 + 44 * k ∧ Below w.heap.size w wr ∧ Hid (acc = bytesEq ++ Lib.join ((l.take k).map wantS) [44])) (fun _ i' _ => l.length - (intOf i').toNat)
    case atStart => exact ⟨0, bytesEq, rfl, rfl, by omega, by simp [bytesEq], hb1, Lib.hid (by simp [Lib.join_nil])⟩
    case round =>
      obtain ⟨k, acc, rfl, rfl, hk, hal, hbel, Ho⟩ := hrel
      have hbs := hbel.size
      by_cases hlt : k < l.length
      · obtain ⟨⟨a, b⟩, hx, _⟩ := drop_step hlt
        have hw := hall _ (List.mem_of_getElem? hx)
        obtain ⟨ha1, ha2, hb1', hb2', hab⟩ := want_bd hw
        obtain ⟨g, off, rfl, hgb, hc0, hc1⟩ := (hr.below hbel (Nat.le_refl _)).at_II hx
        have hsn := map_snoc (f := wantS) hx
        simp only at hc0 hc1
        have hbxa := BoxAt.new wr [.int .i64 a, .int .i64 b] 109
        have hsa := w_signed a (by omega)
        have hsb := w_signed b (by omega)
        have hla := sgn_len ha2
        have hlb := sgn_len hb2'
        have hws : wantS (a, b) = sgnL a ++ [45] ++ sgnL b := rfl
        rw [hws] at hsn
        generalize sgnL a = sa at hsa hla hsn
        generalize sgnL b = sb at hsb hlb hsn
        clear hws hx hw
        rcases Nat.eq_zero_or_pos k with hk0 | hk0
        · have hkn : ¬ (0 : Int) < (k : Int) := by omega
          have ho := Ho.out
          rw [hk0] at ho hsn
          simp only [List.take_zero, List.map_nil, Lib.join_nil, List.append_nil] at ho
          have Hn := Lib.hid (show acc ++ (sa ++ [45] ++ sb) = bytesEq ++ Lib.join ((l.take (k + 1)).map wantS) [44] from by rw [hk0, hsn, ho]; simp [Lib.join_one])
          clear hsn ho hk0
          go_wp2_with fail
          go_region_with (go_at_call 156; first
            | (refine Calls.mono (hsa _) ?_; rintro e w2 ⟨rfl, hb2⟩; have bx2 := hbxa.drew.keep hb2; have q0 := bx2.cell (j := 0) rfl; have q1 := bx2.cell (j := 1) rfl)
            | (refine Calls.mono (hsb _) ?_; rintro e w3 ⟨rfl, hb3⟩; have bx3 := bx2.keep hb3; have r0 := bx3.cell (j := 0) rfl; have r1 := bx3.cell (j := 1) rfl))
          all_goals
            have hB2 := (hbel.alloc hbs (.cells #[.int .i64 a, .int .i64 b] 109)).drew.trans (hb2.mono (by show w.heap.size ≤ (wr.alloc _).heap.size; simp; omega))
            have hB3 := hB2.trans (hb3.mono hB2.size)
            go_wp2_with fail
            go_roundw
            case rel => exact ⟨k + 1, _, by go_num, rfl, by omega, by simp; omega, hB3, Lib.hid (by rw [← Hn.out]; simp)⟩
            case measure => simp [intOf]; omega
        · have hkI : (0 : Int) < k := by omega
          have hne : ((l.take k).map wantS).isEmpty = false := by
            cases h : (l.take k).map wantS with
            | nil => have := congrArg List.length h; simp only [List.length_map, List.length_take, List.length_nil] at this; omega
            | cons x y => rfl
          have Hn := Lib.hid (show acc ++ [44] ++ (sa ++ [45] ++ sb) = bytesEq ++ Lib.join ((l.take (k + 1)).map wantS) [44] from by
            rw [hsn, join_snocG, hne, Ho.out]; simp)
          clear hsn hne
          go_wp2_with fail
          go_region_with (go_at_call 156; first
            | (refine Calls.mono (hsa _) ?_; rintro e w2 ⟨rfl, hb2⟩; have bx2 := hbxa.drew.keep hb2; have q0 := bx2.cell (j := 0) rfl; have q1 := bx2.cell (j := 1) rfl)
            | (refine Calls.mono (hsb _) ?_; rintro e w3 ⟨rfl, hb3⟩; have bx3 := bx2.keep hb3; have r0 := bx3.cell (j := 0) rfl; have r1 := bx3.cell (j := 1) rfl))
          all_goals
            have hB2 := (hbel.alloc hbs (.cells #[.int .i64 a, .int .i64 b] 109)).drew.trans (hb2.mono (by show w.heap.size ≤ (wr.alloc _).heap.size; simp; omega))
            have hB3 := hB2.trans (hb3.mono hB2.size)
            go_wp2_with fail
            go_roundw
            case rel => exact ⟨k + 1, _, by go_num, rfl, by omega, by simp; omega, hB3, Lib.hid (by rw [← Hn.out]; simp)⟩
            case measure => simp [intOf]; omega
      · obtain rfl : k = l.length := by omega
        have Hn := Lib.hid (show spL l = acc from by rw [Ho.out, List.take_length]; rfl)
        go_wp2_with fail
        go_ret2
        rw [Hn.out]
        exact ⟨rfl, hbel⟩
end Go.Proofs.YtemjoiaapfhenaaGreatDoor
