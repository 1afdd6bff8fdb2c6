/- Walk: the reference's piles: a text dropped. -/
import Derived.Test.YtbchkaoocobpfaaDoorWPr3
import Derived.StillTailTactics
import Derived.StillTactics
namespace Go.Larder
theorem sliced_self {g hi c sz : Nat} : sliced (some ⟨g, 0, none⟩) 0 hi c sz = .slice (some ⟨g, 0, none⟩) hi c := by
  unfold sliced
  by_cases h : c = 0
  · simp [h]
  · simp [h, addr_add]
theorem run_sliceHS {P : Program} {α : Type} {E : ElemT α} {t e : TypeId} {bytes : Nat} (hel : P.elem t = e) (T : SlT P t e E.size bytes) (g n c hi : Nat) (h2 : hi ≤ c) (w : World) :
    (Instr.slice t (.slice (some ⟨g, 0, none⟩) n c) none (some (.int .i64 (hi : Int))) none).run P w = .ok (.slice (some ⟨g, 0, none⟩) hi c) w := by
  refine (run_slice_h (P := P) (w := w) (t := t) (a := some ⟨g, 0, none⟩) (len := n) (cap := c) (undG hel T) .i64 (hi : Int) (by omega) (by omega)).trans ?_
  rw [hel, sizeOfG hel T]
  simp only [Result.andThen, Int.toNat_natCast, sliced_self]
theorem erase_at {rest : List Txt} {k : Nat} {t : Txt} (hk : rest[k]? = some t) (hn : t ∉ rest.take k) : rest.erase t = rest.take k ++ rest.drop (k + 1) := by
  induction rest generalizing k with
  | nil => simp at hk
  | cons x r ih =>
    cases k with
    | zero =>
      have hx : x = t := by simpa using hk
      subst hx
      simp
    | succ k =>
      have hk' : r[k]? = some t := by simpa using hk
      simp only [List.take_succ_cons, List.mem_cons, not_or] at hn
      rw [List.erase_cons_tail (by simpa using fun e : x = t => hn.1 e.symm), ih hk' hn.2]
      simp
end Go.Larder
namespace Go.Proofs.YtbchkaoocobpfaaDoor
open Go.RowKit Go.Larder
set_option linter.unusedVariables false
set_option linter.unusedSimpArgs false
variable {w w' : World} {c room cap : Nat} {A : Option Addr} {all l : List Txt}
theorem el_strP : (Tryd.prog).elem 22 = 9 := by kernel_rfl
/-- what drop leaves, the reference's -/
def RpDropO (w : World) (c room : Nat) (A : Option Addr) (all l : List Txt) (e : Ending) (w' : World) : Prop :=
  (dropGo nmT all all l = none ∧ e = .returned (.int .i64 4) ∧ Below w.heap.size w w') ∨
  (∃ r', dropGo nmT all all l = some r' ∧ e = .returned (.int .i64 0) ∧ (∃ A3 cap3, RfP w' c room A3 cap3 r' ∧ ∀ j, FRp c A3 j → FRp c A j ∨ w.heap.size ≤ j) ∧ SameBut (fun j => j = c) w w')
set_option maxHeartbeats 8000000 in
set_option maxRecDepth 100000 in
theorem w_RpDrop (hl : l.length ≤ 1048576) (Al : Option Addr) (cl : Nat) (hr : ReadL encS w w.heap.size Al l) (hall : all.length ≤ 2000000) (h5 : ∀ t ∈ all, t.length ≤ 5000) (hA : AS w) (h : RfP w c room A cap all) :
    Calls Tryd.prog 20 #[pgP c, .slice Al l.length cl] w (RpDropO w c room A all l) := by
  have c1 := h.box.cell (j := 1) rfl
  have hcopy := w_CopyP all (by omega) A cap w h.own.read
  have hnm := fun (W : World) (hW : Below w.heap.size w W) (n : Txt) => w_named n (by omega) h5 (hA.keep hW) (h.keep hW)
  have Hh := Lib.hid h
  have Hnm := Lib.hid hnm
  have Hr := Lib.hid hr
  clear h hnm hr h5
  go_enter Tryd.func20, Tryd.ntmps20
  go_upto_region 3 with (go_at_call 41; refine hcopy.mono ?_; rintro e w1 ⟨⟨A1, c1', rfl, how1⟩, hb1⟩)
  clear hcopy c1
  go_loopw [5, 18] (fun o' i' wr => ∃ (i : Nat) (rest : List Txt) (A2 : Option Addr) (c2 : Nat), i' = .int .i64 i ∧ o' = .slice A2 rest.length c2 ∧ i ≤ l.length ∧ rest.length ≤ all.length ∧ Hid (dropGo nmT all all l = dropGo nmT all rest (l.drop i)) ∧ OwnL encS wr w.heap.size 9 A2 c2 rest ∧ Below w.heap.size w wr) (fun _ i' _ => l.length - (intOf i').toNat)
  case atStart => exact ⟨0, all, A1, c1', rfl, rfl, by omega, Nat.le_refl _, Lib.hid (by rw [List.drop_zero]), how1, hb1⟩
  case round =>
    clear how1 hb1
    obtain ⟨i, rest, A2, c2, rfl, rfl, hi, hrl, hdg, hown, hbel⟩ := hrel
    obtain ⟨wo, hwo⟩ : ∃ wo, wo = wr := ⟨_, rfl⟩
    subst hwo
    by_cases hlt : i < l.length
    · obtain ⟨n, hn, hd⟩ := drop_step hlt
      obtain ⟨g0, off0, hA0, hgb0, hc0⟩ := (Hr.out.below hbel (Nat.le_refl _)).at_S hn
      have hnm1 := Hnm.out wo hbel n
      have hz := hbel.size
      have Hd := Lib.hid (show dropGo nmT all all l = match lookT nmT (distT all) n with | none => none | some t => if t ∈ rest then dropGo nmT all (rest.erase t) (l.drop (i + 1)) else none from by
        rw [hdg.out, hd]; rfl)
      subst hA0
      clear hn hd
      obtain ⟨o, ho⟩ : ∃ o, lookT nmT (distT all) n = o := ⟨_, rfl⟩
      rw [ho] at hnm1 Hd
      obtain ⟨tt, htt⟩ : ∃ tt, o.getD [] = tt := ⟨_, rfl⟩
      obtain ⟨ob, hob⟩ : ∃ ob, o.isSome = ob := ⟨_, rfl⟩
      rw [htt, hob] at hnm1
      have Htt := Lib.hid (And.intro htt hob)
      clear ho htt hob
      go_upto_region 7 with (go_at_call 44; refine hnm1.mono ?_; rintro e w2 ⟨rfl, hb2⟩)
      have hown2 := hown.below hb2 (Nat.le_refl _)
      have hbel2 := hbel.trans (hb2.mono hz)
      have hz2 := hbel2.size
      clear hown hnm1 hb2
      go_loopw [10] (fun k' wr => ∃ (k : Nat), k' = .int .i64 k ∧ k ≤ rest.length ∧ Hid (tt ∉ rest.take k) ∧ wr = w2) (fun k' _ => rest.length - (intOf k').toNat)
      case atStart => exact ⟨0, rfl, by omega, Lib.hid (by simp), rfl⟩
      case round =>
        obtain ⟨k, rfl, hk, hnk, rfl⟩ := hrel
        by_cases hkl : k < rest.length
        · obtain ⟨x, hx, hdx⟩ := drop_step hkl
          obtain ⟨g1, off1, hA1, hgb1, hc1⟩ := hown2.read.at_S hx
          have Hx := Lib.hid hx
          clear hdx hx
          by_cases hxt : x = tt
          · subst hxt
            have hE : (x == x) = true := by simp
            cases o with
            | none =>
              have hob := Htt.out.2
              simp only [Option.isSome_none] at hob
              subst hob hA1
              have Hn := Lib.hid (show dropGo nmT all all l = none from Hd.out)
              go_wp2_with fail
              go_ret
              exact Or.inl ⟨Hn.out, rfl, hbel2⟩
            | some t =>
              obtain ⟨h1, hob⟩ := Htt.out
              simp only [Option.isSome_some] at hob
              simp only [Option.getD_some] at h1
              subst hob h1
              have Hdr := Lib.hid (show dropGo nmT all all l = dropGo nmT all (rest.take k ++ rest.drop (k + 1)) (l.drop (i + 1)) from by
                rw [Hd.out]
                simp only [if_pos (List.mem_of_getElem? Hx.out)]
                rw [erase_at Hx.out hnk.out])
              obtain ⟨g2, hA2, hg2, hg3⟩ := hown2.some_ (by omega)
              have hcap := hown2.le_cap
              rw [hA2] at hown2 hA1
              rw [hA2]
              clear hA2
              have hA3 : g1 = g2 ∧ off1 = 0 := by injection hA1 with h1; injection h1 with h1 h2; exact ⟨h1.symm, h2.symm⟩
              obtain ⟨rfl, rfl⟩ := hA3
              clear hA1
              rw [Nat.zero_add] at hc1
              have s1 := fun W => run_sliceHS (E := encS) el_strP sl_strQ g1 rest.length c2 k (by omega) W
              obtain ⟨A4, s2, hk4, hr4⟩ := run_sliceLG (E := encS) el_strP sl_strQ (some ⟨g1, 0, none⟩) rest.length c2 (k + 1) (by omega) hcap
              have hr5 := hr4 rfl hown2.read
              have hwk : IntKind.i64.wrap ((k : Int) + 1) = (k : Int) + 1 := IntWalk.i64_in _ ⟨by omega, by omega⟩
              have hck : ((k + 1 : Nat) : Int) = (k : Int) + 1 := by omega
              rw [hck] at s2
              clear hck hr4
              have hown5 := hown2.take k (by omega)
              have hkk : (rest.take k).length = k := by rw [List.length_take]; omega
              have hdd : (rest.drop (k + 1)).length = rest.length - (k + 1) := List.length_drop
              go_upto_region 11 with fail
              refine wp_region_still_tail 7 (by kernel_rfl) (by kernel_rfl) ?_
              simp only [List.take_succ_cons, List.take_zero, List.drop_succ_cons, List.drop_zero]
              repeat still_step
              try refine wpStill_nil ?_
              change wpList _ _ _ _ _ wr.drew
              go_wp2_with (at_builtin
                           refine wpList_app_any (w := wr.drew) encS sl_strQ (rest.drop (k + 1)) rfl _ _ rfl (show _ = Value.slice (some ⟨g1, 0, none⟩) (rest.take k).length c2 from by rw [hkk]; rfl) (show OwnL encS wr.drew w.heap.size 9 (some ⟨g1, 0, none⟩) c2 (rest.take k) from hown5) (show _ = Value.slice A4 (rest.drop (k + 1)).length _ from by rw [hdd]; rfl) (show ReadL encS wr.drew wr.heap.size A4 (rest.drop (k + 1)) from hr5) (by omega) (by simp only [maxLen]; omega) (show w.heap.size ≤ wr.heap.size from hz2) ?_
                           intro A6 c6 w6 hown6 hb6)
              go_roundw
              case rel => exact ⟨i + 1, rest.take k ++ rest.drop (k + 1), A6, c6, by go_num, by rw [List.length_append, hkk, hdd], by omega, by rw [List.length_append]; omega, Hdr, hown6, hbel2.drew.trans hb6⟩
              case measure => simp [intOf]; omega
          · have hE : (x == tt) = false := beq_neP hxt
            have Hn := Lib.hid (show tt ∉ rest.take (k + 1) from by
              rw [List.take_add_one, Hx.out]
              simp only [Option.toList_some, List.mem_append, List.mem_singleton, not_or]
              exact ⟨hnk.out, fun e => hxt e.symm⟩)
            subst hA1
            clear hxt
            go_wp2_with fail
            go_roundw
            case rel => exact ⟨k + 1, by go_num, by omega, Hn, by first | rfl | trivial⟩
            case measure => simp [intOf]; omega
        · obtain rfl : k = rest.length := by omega
          have hnr := hnk.out
          rw [List.take_length] at hnr
          have Hn := Lib.hid (show dropGo nmT all all l = none from by
            rw [Hd.out]
            cases o with
            | none => rfl
            | some t =>
              have h1 : t = tt := Htt.out.1
              simp only [h1, if_neg hnr])
          clear hnr
          cases ob
          · go_wp2_with fail
            go_ret
            exact Or.inl ⟨Hn.out, rfl, hbel2⟩
          · go_wp2_with fail
            go_ret
            exact Or.inl ⟨Hn.out, rfl, hbel2⟩
    · obtain rfl : i = l.length := by omega
      have hd := hdg.out
      rw [List.drop_length] at hd
      have Hd := Lib.hid (show dropGo nmT all all l = some rest from hd)
      have hbx := (Hh.out.keep hbel).box
      have f1 := hbx.free 1
      have q1 := hbx.cell (j := 1) rfl
      have hw1 : c < w.heap.size := Hh.out.box.lt
      have hol := hown.lt
      have hown9 : OwnL encS (wo.setCell ⟨c, 1, none⟩ (.slice A2 rest.length c2)) 0 9 A2 c2 rest := (hown.base_le (Nat.zero_le _)).keep fun a ha => heap_setCell_other _ _ _ _ (by have := (hol a ha).1; show a.block ≠ c; omega)
      have hR9 : RfP (wo.setCell ⟨c, 1, none⟩ (.slice A2 rest.length c2)) c room A2 c2 rest := ⟨hbx.set 1 (.slice A2 rest.length c2), hown9⟩
      have hs9 : SameBut (fun j => j = c) w (wo.setCell ⟨c, 1, none⟩ (.slice A2 rest.length c2)) := ((Larder.Below.same hbel).mono (fun j hj h2 => absurd h2 (by omega))).setCell ⟨c, 1, none⟩ _ (fun _ => rfl)
      clear hd hbx
      go_wp2_with fail
      go_ret
      refine Or.inr ⟨rest, Hd.out, rfl, ⟨A2, c2, hR9, fun j hj => ?_⟩, hs9⟩
      rcases hj with rfl | hj
      · exact .inl (.inl rfl)
      · refine .inr ?_
        cases A2 with
        | none => simp [blkOf] at hj
        | some a =>
          have h1 : a.block = j := by simpa [blkOf] using hj
          have := (hol a rfl).1
          omega
/-- a text too long -/
theorem w_PPutL (s : Txt) (hs : 5000 < s.length) (hs2 : s.length ≤ 140737488355328) (p : Value) (w : World) : Calls Tryd.prog 16 #[p, S s] w fun e w' => e = .returned (.tuple #[.slice none 0 0, .int .i64 2]) ∧ Below w.heap.size w w' := by
  have h1 : (5000 : Int) < (s.length : Int) := by omega
  go_enter Tryd.func16, Tryd.ntmps16
  go_wp2_with fail
  go_ret2
  exact ⟨rfl, Below.refl _ _⟩
theorem w_RpPutL (s : Txt) (hs : 5000 < s.length) (hs2 : s.length ≤ 140737488355328) (p : Value) (w : World) : Calls Tryd.prog 17 #[p, S s] w fun e w' => e = .returned (.tuple #[.slice none 0 0, .int .i64 2]) ∧ Below w.heap.size w w' := by
  have h1 : (5000 : Int) < (s.length : Int) := by omega
  go_enter Tryd.func17, Tryd.ntmps17
  go_wp2_with fail
  go_ret2
  exact ⟨rfl, Below.refl _ _⟩
end Go.Proofs.YtbchkaoocobpfaaDoor
