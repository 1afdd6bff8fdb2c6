/- Walk: slices.DeleteFunc at a name, of a list in own memory. -/
import Derived.Test.YtiaboojdplcaoaaWFld0
namespace Go.Proofs.Ytiaboojdplcaoaa
open Go.RowKit Go.Larder
set_option linter.unusedVariables false
set_option linter.unusedSimpArgs false

theorem zero_field : ∀ w, (zeroValue 47).run Try.prog w = .ok (.agg #[.string ByteArray.empty, .string ByteArray.empty]) w := Try.zeroValue47

set_option maxHeartbeats 2000000 in
set_option maxRecDepth 100000 in
theorem w_fdelete (nm : List UInt8) (l : List Fld) (hx : ∀ f ∈ l, f.1.length ≤ 140737488351232 ∧ f.2.length ≤ 140737488351232) (hl : l.length * 32 ≤ 140737488351232) (B : Nat) (A : Option Addr) (c b : Nat) (w : World) (hB : B ≤ w.heap.size)
    (hown : OwnL encF w B 47 A c l) (hbl : b < w.heap.size) (hcell : w.cell? ⟨b, 0, none⟩ = some (S nm)) (hne : ∀ g, A = some g → g.block ≠ b) :
    Calls Try.prog 102 #[.slice A l.length c, .func (.func 90) #[] #[.pointer (some ⟨b, 0, none⟩)]] w
      (fun e w' => (∃ A2 c2, e = .returned (.slice A2 (dropL nm l).length c2) ∧ OwnL encF w' B 47 A2 c2 (dropL nm l)) ∧ Below B w w') := by
  have hl2 : l.length ≤ 140737488351232 := by omega
  go_enter Try.func102, Try.ntmps102
  rcases ixFrom_ge nm l 0 with h1 | ⟨m, h1, _, hm, hall, f0, hf0, hit0⟩
  · have hd := dropL_all (ixFrom_none h1)
    go_wp2_with (go_at_call 117; refine (w_fidx nm l hx hl2 A c _ _ hown.read ⟨b, rfl, hbl, hcell⟩).mono ?_; rintro e w2 ⟨rfl, hb2⟩)
    go_ret
    exact ⟨⟨A, c, by rw [hd]; rfl, by rw [hd]; exact hown.below hb2 (Nat.le_refl _)⟩, hb2.mono hB⟩
  · have hml : m < l.length := by omega
    obtain ⟨g, rfl, hg1, hg2⟩ := hown.some_ (by omega)
    have hgb : g ≠ b := hne _ rfl
    have htake : dropL nm (l.take m) = l.take m := dropL_all (by simpa using hall)
    have hdm : dropL nm (l.take (m + 1)) = l.take m := by
      have h8 : l[m]? = some f0 := by simpa using hf0
      rw [List.take_add_one, h8]
      unfold dropL at htake ⊢
      rw [List.filter_append, htake]
      simp [hit0]
    have Hdm := Lib.hid hdm
    clear hdm htake hall hf0
    go_wp2_with (go_at_call 117; refine (w_fidx nm l hx hl2 _ c _ _ hown.read ⟨b, rfl, hbl, hcell⟩).mono ?_; rintro e w2 ⟨rfl, hb2⟩)
    go_loopw [5, 6] (fun i' j' wr => ∃ (i j : Nat) (cur : List Fld), i' = .int .i64 i ∧ j' = .int .i64 j ∧ i < j ∧ j ≤ l.length ∧ cur.length = l.length ∧ cur.take i = dropL nm (l.take j) ∧ cur.drop j = l.drop j ∧
      OwnL encF wr B 47 (some ⟨g, 0, none⟩) c cur ∧ Below B w wr ∧ wr.cell? ⟨b, 0, none⟩ = some (S nm) ∧ b < wr.heap.size) (fun _ j' _ => l.length - (intOf j').toNat)
    case atStart => exact ⟨m, m + 1, l, rfl, by go_num, by omega, by omega, rfl, Hdm.out.symm, rfl, hown.below hb2 (Nat.le_refl _), hb2.mono hB, (hb2.cell (p := ⟨b, 0, none⟩) hbl).trans hcell, by have := hb2.size; omega⟩
    case round =>
      obtain ⟨i, j, cur, rfl, rfl, hij, hj, hcl, htk, hdr, hown2, hbel, hcell2, hbl2⟩ := hrel
      have hbs := hbel.size
      by_cases hlt : j < l.length
      · obtain ⟨⟨n, y⟩, hfx, hs⟩ := drop_step hlt
        have hxl := (hx _ (List.mem_of_getElem? hfx)).1
        have hcj : cur[j]? = some (n, y) := by
          have := congrArg (fun t => t[0]?) hdr
          simpa [hfx] using this
        have hci : ∃ q, cur[i]? = some q := ⟨cur[i]'(by omega), List.getElem?_eq_getElem (by omega)⟩
        obtain ⟨q, hci⟩ := hci
        obtain ⟨hc0, hc1⟩ := hown2.get_F hcj
        have hgw := (hown2.lt _ rfl).2
        have hcell3 : (wr.alloc (.cells #[S n, S y] 47)).cell? ⟨b, 0, none⟩ = some (S nm) := (World.cell?_alloc_lt _ _ _ hbl2).trans hcell2
        have hb3s : ∀ {w3 : World}, Below (wr.alloc (.cells #[S n, S y] 47)).heap.size (wr.alloc (.cells #[S n, S y] 47)) w3 → wr.heap.size + 1 ≤ w3.heap.size := fun h => by have := h.size; simpa using this
        have hBw : B ≤ wr.heap.size := by omega
        have hstep : dropL nm (l.take (j + 1)) = dropL nm (l.take j) ++ (if hits nm (n, y) then [] else [(n, y)]) := by
          rw [List.take_add_one, hfx]
          unfold dropL
          rw [List.filter_append]
          by_cases h : hits nm (n, y) = true <;> simp [h]
        have hdr2 : cur.drop (j + 1) = l.drop (j + 1) := by
          have := congrArg (List.drop 1) hdr
          simpa [List.drop_drop] using this
        have hh : hits nm (n, y) = (lowL n == nm) := rfl
        rw [hh] at hstep
        have Hcj := Lib.hid hcj; clear hcj hs hfx hh hdr
        cases hw : (lowL n == nm)
        · rw [hw, if_neg (by simp)] at hstep
          have Hstep := Lib.hid hstep; clear hstep
          have Htk := Lib.hid htk; clear htk
          have Hdr2 := Lib.hid hdr2; clear hdr2
          go_wp2_with (go_at_call 90
                       refine (w_named1 n y nm hxl b _ (by simp; omega) hcell3).mono ?_
                       rintro e w3 ⟨rfl, hb3⟩
                       have hsz3 := hb3s hb3
                       have hbx := box_kept hb3
                       have hx0 : w3.cell? ⟨wr.heap.size, 0, none⟩ = some (S n) := by rw [Lib.cell_of_heap hbx]; rfl
                       have hx1 : w3.cell? ⟨wr.heap.size, 1, none⟩ = some (S y) := by rw [Lib.cell_of_heap hbx]; rfl
                       have hown3 := (hown2.alloc (.cells #[S n, S y] 47)).below hb3 (Nat.le_refl _)
                       have hcell4 := (hb3.cell (p := ⟨b, 0, none⟩) (by simp; omega)).trans hcell3
                       have hq0 := (hown3.get_F hci).1
                       have hq1 := (hown3.get_F hci).2
                       have hf0 := hown3.frozen (i * 2)
                       have hf1 := hown3.frozen (i * 2 + 1))
          go_roundw
          case rel =>
            refine ⟨_, _, _, _, _, _, _, _, _, _, _, _, _, _, _, _, _, _, _, _, _, _, _, ?_, rfl⟩
            refine ⟨i + 1, j + 1, cur.set i (n, y), by go_num, by go_num, by omega, by omega, by simp [hcl], ?_, ?_, hown3.set_F i (n, y), ?_, ?_, by simp; omega⟩
            · rw [Hstep.out, ← Htk.out, List.take_add_one, List.getElem?_set_self (by omega), List.take_set_of_le (Nat.le_refl i)]; rfl
            · rw [List.drop_set_of_lt (by omega), Hdr2.out]
            · exact ((((hbel.alloc hBw _).trans (hb3.mono (by simp; omega))).setCell (p := ⟨g, i * 2, none⟩) hg1 _).setCell (p := ⟨g, i * 2 + 1, none⟩) hg1 _)
            · rw [World.cell?_setCell_other _ _ _ _ (by simp [hgb]), World.cell?_setCell_other _ _ _ _ (by simp [hgb])]; exact hcell4
          case measure => simp [intOf]; omega
        · rw [hw, if_pos rfl] at hstep
          have Hstep := Lib.hid hstep; clear hstep
          have Htk := Lib.hid htk; clear htk
          have Hdr2 := Lib.hid hdr2; clear hdr2
          go_wp2_with (go_at_call 90
                       refine (w_named1 n y nm hxl b _ (by simp; omega) hcell3).mono ?_
                       rintro e w3 ⟨rfl, hb3⟩
                       have hsz3 := hb3s hb3
                       have hown3 := (hown2.alloc (.cells #[S n, S y] 47)).below hb3 (Nat.le_refl _)
                       have hcell4 := (hb3.cell (p := ⟨b, 0, none⟩) (by simp; omega)).trans hcell3)
          go_roundw
          case rel =>
            refine ⟨_, _, _, _, _, _, _, _, _, _, _, _, _, _, _, _, _, _, _, _, _, _, _, ?_, rfl⟩
            refine ⟨i, j + 1, cur, by go_num, by go_num, by omega, by omega, hcl, ?_, Hdr2.out, hown3, ?_, hcell4, by omega⟩
            · rw [Hstep.out, ← Htk.out]; simp
            · exact (hbel.alloc hBw _).trans (hb3.mono (by simp; omega))
          case measure => simp [intOf]; omega
      · obtain rfl : j = l.length := by omega
        rw [List.take_length] at htk
        have hil : (dropL nm l).length = i := by rw [← htk, List.length_take]; omega
        have hcl2 : ∃ vs, (Builtin.clear_ #[28] 0 #[.slice (some ⟨g, i * 2, none⟩) (l.length - i) (c - i)]).run Try.prog wr = .ok (.tuple #[]) (wr.setCells g (i * 2) vs) := by
          refine run_clear2 wr 28 47 0 _ _ _ Try.underlying28 zero_field rfl rfl rfl g (i * 2) (l.length - i) (c - i) (by omega) (fun k hk => ?_) (fun k hk => hown2.frozen _)
          obtain ⟨z0, hz0⟩ : ∃ z, cur[i + k / 2]? = some z := ⟨cur[i + k / 2]'(by omega), List.getElem?_eq_getElem (by omega)⟩
          have hz := hown2.get_F hz0
          rcases Nat.mod_two_eq_zero_or_one k with h | h
          · rw [show i * 2 + k = (i + k / 2) * 2 from by omega, hz.1]; rfl
          · rw [show i * 2 + k = (i + k / 2) * 2 + 1 from by omega, hz.2]; rfl
        obtain ⟨vs, hclr⟩ := hcl2
        obtain ⟨xs', ho1, ho2⟩ := own_setCells vs (i * 2) wr _ hown2
        have ho3 := row_take ho1 i (by omega)
        rw [show xs'.take (i * encF.size) = (cur.flatMap encF.enc).take (i * 2) from ho2] at ho3
        have ho4 : OwnL encF (wr.setCells g (i * 2) vs) B 47 (some ⟨g, 0, none⟩) c (dropL nm l) := by
          have h5 := row_take hown2 i (by omega)
          unfold OwnL
          rw [hil, ← htk]
          have h6 : (cur.flatMap encF.enc).take (i * 2) = (cur.take i).flatMap encF.enc := by
            have h7 := (hown2.take i (by omega)).1
            have h8 : cur.flatMap encF.enc = (cur.take i).flatMap encF.enc ++ (cur.drop i).flatMap encF.enc := by rw [← List.flatMap_append, List.take_append_drop]
            rw [h8, List.take_left' (by rw [h7, List.length_take]; show _ * 2 = _; congr 1; omega)]
          rw [← h6]
          exact ho3
        have hlc := hown2.le_cap
        have hic1 : i ≤ c := by omega
        have hic2 : i < c := by omega
        have hic3 : ¬ c = i := by omega
        have hic4 : i < l.length := hij
        go_wp2_with fail
        go_ret
        exact ⟨⟨_, c, by rw [hil]; rfl, ho4⟩, below_setCells vs g _ _ _ hg1 hbel⟩
end Go.Proofs.Ytiaboojdplcaoaa
