/- Walk: span.agree. -/
import Derived.Test.YtgjikbhehijnaaaDoorChecked
import Derived.Test.YtgjikbhehijnaaaDoorSpecAgr
import Derived.Test.YtgjikbhehijnaaaDoorBoxAt
import Derived.Maps.Own
import Derived.Maps.OwnOps
import Derived.Maps.OwnSet
import Derived.Lib.SmallJoins
import Derived.StillTailTactics
import Derived.StillTactics
namespace Go.Proofs.YtgjikbhehijnaaaDoor
open Go.RowKit Go.Larder
set_option linter.unusedVariables false
set_option linter.unusedSimpArgs false
theorem map_kept {w w' : World} {k : TypeId} {R : Value → Option (DataW Unit × List MemPlace)} {b n : Nat} {D : DataW Unit} (h : w.ownsMap Tryd.prog k R b n D) (hb : w'.heap[b]? = w.heap[b]?) : w'.ownsMap Tryd.prog k R b n D := by
  obtain ⟨es, clock, hbb, F, hs, hD⟩ := h
  exact ⟨es, clock, hb.trans hbb, F, hs, hD⟩
def AgOut (l : List Prt) (e : Ending) : Prop := ∃ b, e = .returned (.bool b) ∧ (b = true ↔ agreeP l)
theorem ag_yes {l : List Prt} (h : agreeP l) : AgOut l (.returned (.bool true)) := ⟨true, rfl, by simp [h]⟩
theorem ag_no {l : List Prt} (h : ¬ agreeP l) : AgOut l (.returned (.bool false)) := ⟨false, rfl, by simp [h]⟩
set_option maxHeartbeats 8000000 in
set_option maxRecDepth 100000 in
theorem w_agree (l : List Prt) (hl : l.length ≤ 20) (hb : ∀ x ∈ l, 0 ≤ x.1.1 ∧ x.1.1 ≤ 99999 ∧ x.2.length ≤ 99999) (A A' : Option Addr) (c c' : Nat) (w : World) (hr : ReadL encII w w.heap.size A (l.map fun x => x.1)) (hr' : ReadL encS w w.heap.size A' (l.map fun x => x.2)) :
    Calls Tryd.prog 54 #[.slice A l.length c, .slice A' l.length c'] w fun e w' => AgOut l e ∧ Below w.heap.size w w' := by
  have hmm := @run_makeMap Tryd.prog
  have hmd := World.ownsMap_made (H := Unit) w Tryd.prog 3 (plainElem Tryd.prog 5)
  go_enter Tryd.func54, Tryd.ntmps54
  go_wp2_with fail
  go_loopw [14] (fun i' wr => ∃ (i n : Nat) (D : DataW Unit), i' = .int .i64 i ∧ i ≤ l.length ∧ n ≤ 100000 * i ∧ Hid (KnowsP D (l.take i)) ∧ Hid (agreeP (l.take i)) ∧ wr.ownsMap Tryd.prog 3 (plainElem Tryd.prog 5) w.heap.size n D ∧ Below w.heap.size w wr ∧ w.heap.size < wr.heap.size) (fun i' _ => l.length - (intOf i').toNat)
  case atStart => exact ⟨0, 0, .map [], rfl, by omega, by omega, Lib.hid knows_nil, Lib.hid agree_nil, hmd, (Below.refl _ _).alloc (Nat.le_refl _) _, by simp⟩
  case round =>
    obtain ⟨i, n, D, rfl, hi, hn, hkn, hag, hown, hbel, hsz⟩ := hrel
    obtain ⟨wo, hwo⟩ : ∃ wo, wo = wr := ⟨_, rfl⟩
    subst hwo
    by_cases hlt : i < l.length
    · obtain ⟨x, hx, hd⟩ := drop_step hlt
      have hx1 : (l.map fun x => x.1)[i]? = some x.1 := by rw [List.getElem?_map, hx]; rfl
      have hx2 : (l.map fun x => x.2)[i]? = some x.2 := by rw [List.getElem?_map, hx]; rfl
      obtain ⟨hb0, hb1, hb2⟩ := hb x (List.mem_of_getElem? hx)
      obtain ⟨⟨xa, xb⟩, tx⟩ := x
      obtain ⟨g, off, rfl, hgb, hc0, hc1⟩ := (hr.below hbel (Nat.le_refl _)).at_II hx1
      obtain ⟨g2, off2, rfl, hgb2, hc2⟩ := (hr'.below hbel (Nat.le_refl _)).at_S hx2
      simp only at hc0 hc1 hb0 hb1 hb2 hc2
      have Hx := Lib.hid hx
      have Htake := Lib.hid (show l.take (i + 1) = l.take i ++ [prtK ((xa, xb), tx) tx.length] from by rw [List.take_add_one, hx]; show _ = _ ++ [prtK ((xa, xb), tx) ((xa, xb), tx).2.length]; rw [byte_whole]; rfl)
      clear hx hx1 hx2 hd
      have bx := BoxAt.new wo [.int .i64 xa, .int .i64 xb] 61
      have hBa : Below w.heap.size w (wo.alloc (.cells #[.int .i64 xa, .int .i64 xb] 61)) := hbel.alloc hbel.size _
      have hown1 := map_kept (w' := wo.alloc (.cells #[.int .i64 xa, .int .i64 xb] 61)) hown (Below.heap_alloc _ _ _ hsz)
      have hc3 := ((hr'.below hBa (Nat.le_refl _)).at_S (by rw [List.getElem?_map, Hx.out]; rfl : (l.map fun x => x.2)[i]? = some tx))
      obtain ⟨g3, off3, he3, _, hc3⟩ := hc3
      injection he3 with he3
      injection he3 with e31 e32 _
      subst e31 e32
      go_wp2_with fail
      go_loopw [24] (fun j' wv => ∃ (j n' : Nat) (D' : DataW Unit), j' = .int .i64 j ∧ j ≤ tx.length ∧ n' ≤ 100000 * i + j ∧ Hid (KnowsP D' (l.take i ++ [prtK ((xa, xb), tx) j])) ∧ Hid (agreeP (l.take i ++ [prtK ((xa, xb), tx) j])) ∧ wv.ownsMap Tryd.prog 3 (plainElem Tryd.prog 5) w.heap.size n' D' ∧ BoxAt wv wo.heap.size 61 [.int .i64 xa, .int .i64 xb] ∧ Below w.heap.size w wv ∧ w.heap.size < wv.heap.size) (fun j' _ => tx.length - (intOf j').toNat)
      case atStart => exact ⟨0, n, D, rfl, by omega, by omega, Lib.hid (knows_new hkn.out _), Lib.hid (agree_new hag.out _), hown1, bx, hBa, by simp; omega⟩
      case round =>
        obtain ⟨j, n2, D2, rfl, hj, hn2, hkn2, hag2, hown2, bx2, hB2, hs2⟩ := hrel
        by_cases hlj : j < tx.length
        · obtain ⟨y, hy, hd⟩ := drop_step hlj
          have hgy : ∀ h, tx[j]'h = y := fun h => by rw [List.getElem?_eq_getElem h] at hy; exact Option.some.inj hy
          have Hy := Lib.hid (show ((xa, xb), tx).2[j]? = some y from hy)
          obtain ⟨g4, off4, he4, _, hc4⟩ := ((hr'.below hB2 (Nat.le_refl _)).at_S (by rw [List.getElem?_map, Hx.out]; rfl : (l.map fun x => x.2)[i]? = some tx))
          injection he4 with he4
          injection he4 with e41 e42 _
          subst e41 e42
          have q0 := bx2.cell (j := 0) rfl
          have hkwf : (Lit.int .i64 (xa + j)).wf = true := by
            simp only [Lit.wf, IntKind.min, IntKind.max, IntKind.signed, IntKind.bits, Bool.and_eq_true, decide_eq_true_eq, if_true]
            omega
          have hkey : keyOf Tryd.prog 3 (.int .i64 (xa + j)) = some (Lit.int .i64 (xa + j)) := Maps.keyOf_int_mk Tryd.underlying3 hkwf
          have hwrp : IntKind.i64.wrap (xa + (j : Int)) = xa + j := IntWalk.i64_in _ ⟨by omega, by omega⟩
          have hz : ∀ W, (zeroValue 5).run Tryd.prog W = .ok (.int .u8 0) W := fun W => by first | rfl | (simp [go_sem]; done)
          clear hy hd
          have hywf : (Lit.int .u8 y.toNat).wf = true := by have := y.toNat_lt; simp only [Lit.wf, IntKind.min, IntKind.max, IntKind.signed, IntKind.bits, Bool.and_eq_true, decide_eq_true_eq]; simp; omega
          cases hh : Maps.has D2 (.int .i64 (xa + j))
          · have hsame : ∀ z ∈ l.take i ++ [prtK ((xa, xb), tx) j], ∀ d, byteAt z (xa + j) = some d → d = y := fun z hz2 d hd => by
              have := (hkn2.out.has (xa + j)).2 ⟨z, hz2, d, hd⟩
              rw [hh] at this; cases this
            go_wp2_with (at_lookup; refine wpList_lookup_own_ok_int _ rfl _ _ _ rfl 3 5 .u8 (Maps.int_keyed Tryd.underlying3) Tryd.underlying141 Tryd.underlying5 (hz _) w.heap.size n2 D2 rfl hown2 _ _ rfl hkey ?_; intro cv hat hwc; rw [hh])
            refine wp_region_still_tail 11 (by kernel_rfl) (by kernel_rfl) ?_
            simp only [List.take_succ_cons, List.take_zero, List.drop_succ_cons, List.drop_zero]
            repeat still_step
            try refine wpStill_nil ?_
            change wpList _ _ _ _ _ wr.drew
            try rw [hwrp]
            have hown3 : wr.drew.ownsMap Tryd.prog 3 (plainElem Tryd.prog 5) w.heap.size n2 D2 := hown2
            go_wp2_with (at_mapUpdate; refine wpList_mapUpdate_own _ rfl _ _ _ 141 rfl 3 5 (Maps.int_keyed Tryd.underlying3) Tryd.underlying141 _ w.heap.size n2 D2 rfl hown3 (by unfold maxLen; omega) _ _ _ rfl rfl hkey _ [] (plainElem_int Tryd.underlying5 hywf) ?_; intro w5 hown5 hgrow5)
            go_roundw
            case rel => exact ⟨j + 1, n2 + 1, _, by go_num, by omega, by omega, Lib.hid (knows_step Hy.out hkn2.out hsame), Lib.hid (agree_step Hy.out hag2.out hsame), hown5, (hgrow5.block _ (by show wo.heap.size < wr.heap.size; exact bx2.lt) (by simp; omega)).trans bx2, (show Below w.heap.size w wr.drew from hB2.drew).grown hgrow5 hB2.size (fun j e => by cases e; exact Nat.le_refl _), by have := hgrow5.size; have h6 : wr.drew.heap.size = wr.heap.size := rfl; omega⟩
            case measure => simp [intOf]; omega
          · obtain ⟨z, hz2, d, hd⟩ := (hkn2.out.has (xa + j)).1 hh
            have hat2 := hkn2.out.at_ (xa + j) z hz2 d hd
            cases hdy : (d == y)
            · have hne : d ≠ y := by simpa using hdy
              have hI : ((d.toNat : Int) == (y.toNat : Int)) = false := by
                rw [beq_eq_false_iff_ne]; intro h; exact hne (UInt8.toNat_inj.1 (by omega))
              have Hno := Lib.hid (show ¬ agreeP l from by
                have h := agree_no (l := l.take i) (m := l.drop (i + 1)) Hy.out hz2 hd hne
                rwa [show l.take i ++ ((xa, xb), tx) :: l.drop (i + 1) = l from by obtain ⟨hlt', he⟩ := List.getElem?_eq_some_iff.1 Hx.out; rw [← he, List.getElem_cons_drop, List.take_append_drop]] at h)
              go_wp2_with (at_lookup; refine wpList_lookup_own_ok_int _ rfl _ _ _ rfl 3 5 .u8 (Maps.int_keyed Tryd.underlying3) Tryd.underlying141 Tryd.underlying5 (hz _) w.heap.size n2 D2 rfl hown2 _ _ rfl hkey ?_; intro cv hat hwc; rw [hh]; rw [hat2] at hat; injection hat with hat; injection hat with _ hat; subst hat)
              go_ret
              exact ⟨ag_no Hno.out, hB2⟩
            · have hdy2 : d = y := by simpa using hdy
              subst hdy2
              have hsame : ∀ z' ∈ l.take i ++ [prtK ((xa, xb), tx) j], ∀ d', byteAt z' (xa + j) = some d' → d' = d := fun z' hz3 d' hd' => hag2.out z' hz3 z hz2 _ _ _ hd' hd
              go_wp2_with (at_lookup; refine wpList_lookup_own_ok_int _ rfl _ _ _ rfl 3 5 .u8 (Maps.int_keyed Tryd.underlying3) Tryd.underlying141 Tryd.underlying5 (hz _) w.heap.size n2 D2 rfl hown2 _ _ rfl hkey ?_; intro cv hat hwc; rw [hh]; rw [hat2] at hat; injection hat with hat; injection hat with _ hat; subst hat)
              refine wp_region_still_tail 11 (by kernel_rfl) (by kernel_rfl) ?_
              simp only [List.take_succ_cons, List.take_zero, List.drop_succ_cons, List.drop_zero]
              repeat still_step
              try refine wpStill_nil ?_
              change wpList _ _ _ _ _ wr.drew
              try rw [hwrp]
              have hown3 : wr.drew.ownsMap Tryd.prog 3 (plainElem Tryd.prog 5) w.heap.size n2 D2 := hown2
              go_wp2_with (at_mapUpdate; refine wpList_mapUpdate_own _ rfl _ _ _ 141 rfl 3 5 (Maps.int_keyed Tryd.underlying3) Tryd.underlying141 _ w.heap.size n2 D2 rfl hown3 (by unfold maxLen; omega) _ _ _ rfl rfl hkey _ [] (plainElem_int Tryd.underlying5 hywf) ?_; intro w5 hown5 hgrow5)
              go_roundw
              case rel => exact ⟨j + 1, n2 + 1, _, by go_num, by omega, by omega, Lib.hid (knows_step Hy.out hkn2.out hsame), Lib.hid (agree_step Hy.out hag2.out hsame), hown5, (hgrow5.block _ (by show wo.heap.size < wr.heap.size; exact bx2.lt) (by simp; omega)).trans bx2, (show Below w.heap.size w wr.drew from hB2.drew).grown hgrow5 hB2.size (fun j e => by cases e; exact Nat.le_refl _), by have := hgrow5.size; have h6 : wr.drew.heap.size = wr.heap.size := rfl; omega⟩
              case measure => simp [intOf]; omega
        · obtain rfl : j = tx.length := by omega
          go_wp2_with fail
          go_roundw
          case rel => exact ⟨i + 1, n2, D2, by go_num, by omega, by omega, Lib.hid (by rw [Htake.out]; exact hkn2.out), Lib.hid (by rw [Htake.out]; exact hag2.out), hown2, hB2, hs2⟩
          case measure => simp [intOf]; omega
    · obtain rfl : i = l.length := by omega
      have hag2 := hag.out
      rw [List.take_length] at hag2
      go_wp2_with fail
      go_ret
      exact ⟨ag_yes hag2, hbel⟩
end Go.Proofs.YtgjikbhehijnaaaDoor
