/- Walk: PileSays. -/
import Derived.Test.YtbchkaoocobpfaaDoorPileT
import Derived.Test.YtbchkaoocobpfaaDoorWDgD
import Derived.Test.YtbchkaoocobpfaaDoorSpecs
import Derived.Deep.DeepCutAuto
namespace Go.Proofs.YtbchkaoocobpfaaDoor.pileSays
open Go.RowKit Go.Larder
set_option linter.unusedVariables false
set_option linter.unusedSimpArgs false
open Go.Proofs.YtbchkaoocobpfaaDoor
theorem wp_world {P : Program} {c : Code} {Q : Exit → Act → World → Prop} {a : Act} {W : World} (B : World → Prop) (hB : B W) (h : ∀ W', B W' → Code.wp P c Q a W') : Code.wp P c Q a W := h W hB
theorem bulk_len : ∀ (l : List Stp), 10 * l.length ≤ (l.map bulkSt).sum
  | [] => by simp
  | x :: l => by
    have := bulk_len l
    simp only [List.length_cons, List.map_cons, List.sum_cons, bulkSt]
    omega
theorem bulk_take (l : List Stp) (i : Nat) : ((l.take i).map bulkSt).sum ≤ (l.map bulkSt).sum := by
  have h : (l.map bulkSt).sum = ((l.take i).map bulkSt).sum + ((l.drop i).map bulkSt).sum := by rw [← List.sum_append_nat, ← List.map_append, List.take_append_drop]
  omega
theorem bulk_step {l : List Stp} {i : Nat} {x : Stp} (h : l[i]? = some x) : ((l.take (i + 1)).map bulkSt).sum = ((l.take i).map bulkSt).sum + bulkSt x := by
  rw [List.take_add_one, h]
  simp
theorem ls_len : ∀ (l : List Txt), l.length ≤ (l.map fun s => s.length + 1).sum
  | [] => by simp
  | x :: l => by
    have := ls_len l
    simp only [List.length_cons, List.map_cons, List.sum_cons]
    omega
set_option maxHeartbeats 8000000 in
set_option maxRecDepth 100000 in
theorem walkL (room : Int) (hroom : -9223372036854775808 ≤ room ∧ room ≤ 9223372036854775807) (l : List Stp) (A : Option Addr) (cl : Nat) (hbk : (l.map bulkSt).sum ≤ 1048576) {w : World} (hok : ∀ x ∈ l, stpOk w x) (hr : ReadL encSt w w.heap.size A l) (hA : AS w) :
    Calls Tryd.prog 5 #[.int .i64 room, .slice A l.length cl] w fun e w' => e = .returned (.bool true) ∧ Below w.heap.size w w' := by
  have hbl := bulk_len l
  have hn1 := w_PNew room hroom w
  have hn2 := fun (W : World) => w_RpNew room hroom (w := W)
  have Hroom := Lib.hid hroom
  clear hroom
  by_cases hin : 1 ≤ room ∧ room ≤ 1000000
  · obtain ⟨n, rfl⟩ : ∃ n : Nat, room = n := ⟨room.toNat, by omega⟩
    have hn3 : n ≤ 1000000 := by omega
    go_enter Tryd.func5, Tryd.ntmps5
    go_wp2_with fail
    refine Calls.mono hn1 ?_
    rintro e w1 (⟨hno, _⟩ | ⟨n', hn', hn1', hn1'', b, gm, rfl, hpl, hF, hb1⟩)
    · exact absurd hin hno
    obtain rfl : n = n' := by omega
    have hn2' := hn2 w1
    clear hn2
    go_wp2_with fail
    refine Calls.mono hn2' ?_
    rintro e w2 (⟨hno, _⟩ | ⟨n2, hn2, hn2'', hn2x, c, rfl, hrf, hc, hb2⟩)
    · exact absurd hin hno
    obtain rfl : n = n2 := by omega
    have hst : StR w b c n [] w2 := by
      refine ⟨gm, [], fun _ => 0, none, 0, hpl.keep hb2, ⟨by intro s hs; simp at hs, by simp, by simp, by simp⟩, hrf, fun j hj hj2 => ?_, fun j hj => ?_, hb1.trans (hb2.mono hb1.size)⟩
      · have := hpl.lt hj
        rcases hj2 with h | h
        · omega
        · simp [blkOf] at h
      · rcases hj with h | h
        · exact hF j h
        · have := hb1.size
          rcases h with h | h
          · omega
          · simp [blkOf] at h
    clear hpl hF hb1 hrf hc hb2
    go_wp2_with fail
    go_loopw [46] (fun i' wr => ∃ (i : Nat) (q : List Txt), i' = .int .i64 i ∧ i ≤ l.length ∧ OkL n (((l.take i).map bulkSt).sum) q ∧ StR w b c n q wr) (fun i' _ => l.length - (intOf i').toNat)
    case atStart => exact ⟨0, [], rfl, by omega, OkL.nil n, hst⟩
    case round =>
      clear hst
      obtain ⟨i, q, rfl, hi, hok2, hst⟩ := hrel
      obtain ⟨wo, hwo⟩ : ∃ wo, wo = wr := ⟨_, rfl⟩
      subst hwo
      have hbq := Nat.le_trans (bulk_take l i) hbk
      by_cases hlt : i < l.length
      · obtain ⟨x, hxi, hd⟩ := drop_step hlt
        have hxm := List.mem_of_getElem? hxi
        have hxo := (hok x hxm).1
        have hxr := (hok x hxm).2.2.2
        have hbx := bulk_step hxi
        have hbx2 := Nat.le_trans (bulk_take l (i + 1)) hbk
        have hxs : x.s.length ≤ 1048576 ∧ x.ls.length ≤ 1048576 ∧ ((l.take i).map bulkSt).sum + x.s.length + 1 ≤ ((l.take (i + 1)).map bulkSt).sum := by
          obtain ⟨rs, hrs⟩ : ∃ rs, (x.ls.map fun s => s.length + 1).sum = rs := ⟨_, rfl⟩
          have h1 : x.ls.length ≤ rs := by rw [← hrs]; exact ls_len x.ls
          have h2 : bulkSt x = x.s.length + x.t.length + rs + 10 := by rw [← hrs]; rfl
          omega
        have hbx3 : ((l.take i).map bulkSt).sum ≤ ((l.take (i + 1)).map bulkSt).sum := by omega
        obtain ⟨B, hB⟩ : ∃ B, ((l.take i).map bulkSt).sum = B := ⟨_, rfl⟩
        obtain ⟨B2, hB2⟩ : ∃ B2, ((l.take (i + 1)).map bulkSt).sum = B2 := ⟨_, rfl⟩
        rw [hB] at hok2 hbq hxs hbx3
        rw [hB2] at hbx2 hxs hbx3
        have HB2 := Lib.hid hB2
        obtain ⟨g, off, hA, hgb, hc0⟩ := (hr.below (show Below w.heap.size w wo from by obtain ⟨_, _, _, _, _, _, _, _, _, _, h⟩ := hst; exact h) (Nat.le_refl _)).at_ hxi
        subst hA
        have hra : wo.rangeAt g (off + i * 22) (encSt.enc x) := fun j u hu => hc0 j u hu
        have hof := fun W => w_Of x 4 (by omega) (by omega) hxo W
        obtain ⟨xs, hxse⟩ : ∃ xs, encSt.enc x = xs := ⟨_, rfl⟩
        have hlen : xs.length = 22 := by rw [← hxse]; exact encSt.len x
        have hx3 : xs[3]? = some (S x.s) := by rw [← hxse]; rfl
        have hx5 : xs[5]? = some (.slice x.lA x.ls.length x.lc) := by rw [← hxse]; rfl
        have hone : xs.toArray.all (·.oneCell') = true := by
          rw [← hxse]
          simp only [List.all_toArray, List.all_eq_true]
          exact encSt.one x
        rw [hxse] at hra hof
        have hofx : ∀ W, Calls Tryd.prog 15 #[.agg xs.toArray, .int .i64 4] W fun e w' => e = .returned (.int .i64 (x.kd % 4)) ∧ Below W.heap.size W w' := hof
        have h4 : x.kd % 4 = 0 ∨ x.kd % 4 = 1 ∨ x.kd % 4 = 2 ∨ x.kd % 4 = 3 := by omega
        have hsz : ((Tryd.prog).info? 46).map (·.size) = some xs.toArray.size := by rw [List.size_toArray, hlen]; kernel_rfl
        have hszL : ((Tryd.prog).info? 46).map (·.size) = some xs.length := by rw [hlen]; kernel_rfl
        have Hold := Lib.hid (show (22 : Nat) = xs.toArray.size from by rw [List.size_toArray, hlen])
        generalize x.s = s at *
        generalize x.lA = lA at *
        generalize x.ls = ls at *
        generalize x.lc = lc at *
        generalize x.kd % 4 = kd at *
        clear hxse hlen hxi hd hxm hxo hc0 hof hbx hB hB2
        go_upto_region 8 with (first
          | (refine wpList_load_mid rfl 46 _ rfl g (off + i * 22) rfl xs _ hra Tryd.underlying46 rfl hszL ?_)
          | (refine wpList_store_row rfl 46 _ _ rfl wo.heap.size xs.toArray rfl rfl 46 _ (heap_alloc_new _ _) hsz Hold.out hone ?_))
        refine wp_world (fun W' => BoxAt W' wo.heap.size 46 xs ∧ Below wo.heap.size wo W') ⟨setRow_heap _ _ _ _ _ _ (heap_alloc_new _ _), below_setRow ((Below.refl _ _).alloc (Nat.le_refl _) _) (Nat.le_refl _) _⟩ ?_
        rintro wp ⟨bx, hbp⟩
        clear hra hone Hold hszL
        have hX := hst.toX hbp bx (Nat.le_refl _)
        have Hst := Lib.hid hst
        clear hst hbp
        generalize hgo : wo.heap.size = go at *
        clear hgo
        rcases h4 with rfl | rfl | rfl | rfl
        · go_wp2_with (refine wpList_load_row (ty := 46) rfl _ rfl go rfl 46 xs.toArray (0, 0) _ bx Tryd.underlying46 rfl hsz ?_)
          refine Calls.mono (hofx _) ?_
          rintro e w3 ⟨rfl, hb3⟩
          have hX3 := hX.keep hb3
          clear hX hb3 bx hofx hsz
          have p3 := hX3.box.cell (j := 3) hx3
          have p5 := hX3.box.cell (j := 5) hx5
          have hok6 := (okPut s hok2).more hxs.2.2
          have hp1 := st_put s hxs.1 hn3 hbq hok2 hX3
          have hc3 : c < w3.heap.size := by obtain ⟨_, _, _, _, _, _, _, h, _⟩ := hX3; exact h.box.lt
          have hp2 := fun (W : World) (hW : StX w b c n go xs (putN n q s) q W) => st_putR hA s hxs.1 hn3 hbq hok2 hW
          have hEl : (putM_ n q s).length ≤ 70000 := by
            unfold putM_
            split
            · have := cutC_cnt s; rw [List.length_map]; omega
            · simp
          go_wp2_with fail
          refine Calls.mono hp1 ?_
          rintro e w4 ⟨⟨A4, c4, rfl, ho4⟩, hX4⟩
          have hp2' := hp2 w4 hX4
          have p3' := hX4.box.cell (j := 3) hx3
          clear hp1 hp2 hX3
          go_wp2_with fail
          refine Calls.mono hp2' ?_
          rintro e w5 ⟨⟨A5, c5, rfl, ho5⟩, hX5, hs5⟩
          have ho4' := hs5.own ho4 (fun a ha => by have := (ho4.lt a ha).1; omega)
          have hEqg := w_Eq_string (putM_ n q s) (by omega) A4 A5 c4 c5 _ _ w5 ho4'.read ho5.read
          clear hp2' hX4 ho4 ho5 ho4' hs5 hEl
          generalize putM_ n q s = gs at *
          generalize putE n q s = er at *
          have herE : (er == er) = true := by simp
          obtain ⟨q6, hq6⟩ : ∃ q6, putN n q s = q6 := ⟨_, rfl⟩
          rw [hq6] at hX5 hok6
          clear hq6
          go_wp2_with fail
          refine Calls.mono hEqg ?_
          rintro e w6 ⟨rfl, rfl⟩
          have hX6 := hX5
          clear hX5
          have hq6 := st_nums hbx2 hok6 hX6
          obtain ⟨k1, k2, k3, k4⟩ := hq6
          have hul : usedT q6 ≤ 1000000 := Nat.le_trans hok6.used hn3
          have hml : manyT q6 ≤ 10000 := hok6.many
          generalize usedT q6 = us at *
          generalize manyT q6 = mn at *
          have husE : ((us : Int) == (us : Int)) = true := by simp
          have hmnE : ((mn : Int) == (mn : Int)) = true := by simp
          have HX6 := Lib.hid hX6
          have Hok6 := Lib.hid hok6
          clear hX6 hok6
          go_wp2_with fail
          refine Calls.mono k1 ?_
          rintro e w7 ⟨rfl, rfl⟩
          go_wp2_with fail
          refine Calls.mono k2 ?_
          rintro e w8 ⟨rfl, hb8⟩
          have k3' := k3 w8 hb8
          go_wp2_with fail
          refine Calls.mono k3' ?_
          rintro e w9 ⟨rfl, rfl⟩
          have k4' := k4 _ hb8
          go_wp2_with fail
          refine Calls.mono k4' ?_
          rintro e w10 ⟨rfl, hb10⟩
          have hst11 := (HX6.out.keep (hb8.trans (hb10.mono hb8.size))).toR
          go_wp2_with fail
          go_roundw
          case rel => exact ⟨i + 1, q6, by go_num, by omega, by rw [HB2.out]; exact Hok6.out, hst11⟩
          case measure => simp [intOf]; omega
        · go_wp2_with (refine wpList_load_row (ty := 46) rfl _ rfl go rfl 46 xs.toArray (0, 0) _ bx Tryd.underlying46 rfl hsz ?_)
          refine Calls.mono (hofx _) ?_
          rintro e w3 ⟨rfl, hb3⟩
          have hX3 := hX.keep hb3
          clear hX hb3 bx hofx hsz
          have p3 := hX3.box.cell (j := 3) hx3
          have p5 := hX3.box.cell (j := 5) hx5
          have hok6 := (okPut s hok2).more hxs.2.2
          have hp1 := st_put s hxs.1 hn3 hbq hok2 hX3
          have hc3 : c < w3.heap.size := by obtain ⟨_, _, _, _, _, _, _, h, _⟩ := hX3; exact h.box.lt
          have hp2 := fun (W : World) (hW : StX w b c n go xs (putN n q s) q W) => st_putR hA s hxs.1 hn3 hbq hok2 hW
          have hEl : (putM_ n q s).length ≤ 70000 := by
            unfold putM_
            split
            · have := cutC_cnt s; rw [List.length_map]; omega
            · simp
          go_wp2_with fail
          refine Calls.mono hp1 ?_
          rintro e w4 ⟨⟨A4, c4, rfl, ho4⟩, hX4⟩
          have hp2' := hp2 w4 hX4
          have p3' := hX4.box.cell (j := 3) hx3
          clear hp1 hp2 hX3
          go_wp2_with fail
          refine Calls.mono hp2' ?_
          rintro e w5 ⟨⟨A5, c5, rfl, ho5⟩, hX5, hs5⟩
          have ho4' := hs5.own ho4 (fun a ha => by have := (ho4.lt a ha).1; omega)
          have hEqg := w_Eq_string (putM_ n q s) (by omega) A4 A5 c4 c5 _ _ w5 ho4'.read ho5.read
          clear hp2' hX4 ho4 ho5 ho4' hs5 hEl
          generalize putM_ n q s = gs at *
          generalize putE n q s = er at *
          have herE : (er == er) = true := by simp
          obtain ⟨q6, hq6⟩ : ∃ q6, putN n q s = q6 := ⟨_, rfl⟩
          rw [hq6] at hX5 hok6
          clear hq6
          go_wp2_with fail
          refine Calls.mono hEqg ?_
          rintro e w6 ⟨rfl, rfl⟩
          have hX6 := hX5
          clear hX5
          have hq6 := st_nums hbx2 hok6 hX6
          obtain ⟨k1, k2, k3, k4⟩ := hq6
          have hul : usedT q6 ≤ 1000000 := Nat.le_trans hok6.used hn3
          have hml : manyT q6 ≤ 10000 := hok6.many
          generalize usedT q6 = us at *
          generalize manyT q6 = mn at *
          have husE : ((us : Int) == (us : Int)) = true := by simp
          have hmnE : ((mn : Int) == (mn : Int)) = true := by simp
          have HX6 := Lib.hid hX6
          have Hok6 := Lib.hid hok6
          clear hX6 hok6
          go_wp2_with fail
          refine Calls.mono k1 ?_
          rintro e w7 ⟨rfl, rfl⟩
          go_wp2_with fail
          refine Calls.mono k2 ?_
          rintro e w8 ⟨rfl, hb8⟩
          have k3' := k3 w8 hb8
          go_wp2_with fail
          refine Calls.mono k3' ?_
          rintro e w9 ⟨rfl, rfl⟩
          have k4' := k4 _ hb8
          go_wp2_with fail
          refine Calls.mono k4' ?_
          rintro e w10 ⟨rfl, hb10⟩
          have hst11 := (HX6.out.keep (hb8.trans (hb10.mono hb8.size))).toR
          go_wp2_with fail
          go_roundw
          case rel => exact ⟨i + 1, q6, by go_num, by omega, by rw [HB2.out]; exact Hok6.out, hst11⟩
          case measure => simp [intOf]; omega
        · go_wp2_with (refine wpList_load_row (ty := 46) rfl _ rfl go rfl 46 xs.toArray (0, 0) _ bx Tryd.underlying46 rfl hsz ?_)
          refine Calls.mono (hofx _) ?_
          rintro e w3 ⟨rfl, hb3⟩
          have hX3 := hX.keep hb3
          clear hX hb3 bx hofx hsz
          have p3 := hX3.box.cell (j := 3) hx3
          have p5 := hX3.box.cell (j := 5) hx5
          have hok6 := (okDrop ls hok2).more hbx3
          have hX3d := hX3.drewX
          have hp1 := st_drop (lc := lc) hxs.2.1 hxr hn3 hbq hok2 hX3d
          have hp2 := fun (W : World) (hW : StX w b c n go xs (dropN q ls) q W) => st_dropR (lc := lc) hA hxs.2.1 hxr hbq hok2 hW
          have q5 := hX3d.box.cell (j := 5) hx5
          obtain ⟨v, hv⟩ : ∃ v, v = dropE q ls := ⟨_, rfl⟩
          rw [← hv] at hp1 hp2
          have hvE : (v == v) = true := by simp
          obtain ⟨q6, hq6⟩ : ∃ q6, dropN q ls = q6 := ⟨_, rfl⟩
          rw [hq6] at hp1 hp2 hok6
          clear hv hq6 hX3
          go_upto_region 16 with fail
          go_region_held3 (fun W => W.cell? ⟨go, 5, none⟩ = some (.slice lA ls.length lc)) ((first | exact q5 | exact u5 | exact v5)) ((first
            | (go_at_call 19; (with_reducible refine Calls.mono hp1 ?_); rintro e w4 ⟨rfl, hX4⟩; have u5 := hX4.box.cell (j := 5) hx5)
            | (go_at_call 20; (with_reducible refine Calls.mono (hp2 w4 hX4) ?_); rintro e w5 ⟨rfl, hX5⟩; have v5 := hX5.box.cell (j := 5) hx5)))
          have hX6 := hX5
          clear hX5 hX4 u5 v5 q5 hp1 hp2
          have hq6 := st_nums hbx2 hok6 hX6
          obtain ⟨k1, k2, k3, k4⟩ := hq6
          have hul : usedT q6 ≤ 1000000 := Nat.le_trans hok6.used hn3
          have hml : manyT q6 ≤ 10000 := hok6.many
          generalize usedT q6 = us at *
          generalize manyT q6 = mn at *
          have husE : ((us : Int) == (us : Int)) = true := by simp
          have hmnE : ((mn : Int) == (mn : Int)) = true := by simp
          have HX6 := Lib.hid hX6
          have Hok6 := Lib.hid hok6
          clear hX6 hok6
          go_wp2_with fail
          refine Calls.mono k1 ?_
          rintro e w7 ⟨rfl, rfl⟩
          go_wp2_with fail
          refine Calls.mono k2 ?_
          rintro e w8 ⟨rfl, hb8⟩
          have k3' := k3 w8 hb8
          go_wp2_with fail
          refine Calls.mono k3' ?_
          rintro e w9 ⟨rfl, rfl⟩
          have k4' := k4 _ hb8
          go_wp2_with fail
          refine Calls.mono k4' ?_
          rintro e w10 ⟨rfl, hb10⟩
          have hst11 := (HX6.out.keep (hb8.trans (hb10.mono hb8.size))).toR
          go_wp2_with fail
          go_roundw
          case rel => exact ⟨i + 1, q6, by go_num, by omega, by rw [HB2.out]; exact Hok6.out, hst11⟩
          case measure => simp [intOf]; omega
        · go_wp2_with (refine wpList_load_row (ty := 46) rfl _ rfl go rfl 46 xs.toArray (0, 0) _ bx Tryd.underlying46 rfl hsz ?_)
          refine Calls.mono (hofx _) ?_
          rintro e w3 ⟨rfl, hb3⟩
          have hX3 := hX.keep hb3
          clear hX hb3 bx hofx hsz
          have p3 := hX3.box.cell (j := 3) hx3
          have p5 := hX3.box.cell (j := 5) hx5
          have hok6 := hok2.more hbx3
          have hrd : ∀ W, Below w.heap.size w W → ReadL encS W W.heap.size lA ls := fun W hW => (hxr.below hW (Nat.le_refl _)).more hW.size
          have hp1 := st_get (lc := lc) hxs.2.1 (hrd w3 hX3.bel) hok2 hX3
          have hp2 := fun (W : World) (hW : StX w b c n go xs q q W) => st_getR (lc := lc) hA hxs.2.1 (hrd W hW.bel) hbq hok2 hW
          obtain ⟨gt, ge, hge⟩ : ∃ gt ge, getE (lookT nmT q) ls = (gt, ge) := ⟨_, _, rfl⟩
          rw [hge] at hp1 hp2
          simp only at hp1 hp2
          have hgE : (gt == gt) = true := by simp
          have hgE2 : (ge == ge) = true := by simp
          clear hge
          go_wp2_with fail
          refine Calls.mono hp1 ?_
          rintro e w4 ⟨rfl, hb4⟩
          have hX4 := hX3.keep hb4
          have hp2' := hp2 w4 hX4
          have p5' := hX4.box.cell (j := 5) hx5
          clear hp1 hp2 hX3 hb4
          go_wp2_with fail
          refine Calls.mono hp2' ?_
          rintro e w5 ⟨rfl, hb5⟩
          have hX6 := hX4.keep hb5
          clear hp2' hX4 hb5
          obtain ⟨q6, hq6⟩ : ∃ q6, q = q6 := ⟨_, rfl⟩
          rw [hq6] at hX6 hok6
          have hq6 := st_nums hbx2 hok6 hX6
          obtain ⟨k1, k2, k3, k4⟩ := hq6
          have hul : usedT q6 ≤ 1000000 := Nat.le_trans hok6.used hn3
          have hml : manyT q6 ≤ 10000 := hok6.many
          generalize usedT q6 = us at *
          generalize manyT q6 = mn at *
          have husE : ((us : Int) == (us : Int)) = true := by simp
          have hmnE : ((mn : Int) == (mn : Int)) = true := by simp
          have HX6 := Lib.hid hX6
          have Hok6 := Lib.hid hok6
          clear hX6 hok6
          go_wp2_with fail
          refine Calls.mono k1 ?_
          rintro e w7 ⟨rfl, rfl⟩
          go_wp2_with fail
          refine Calls.mono k2 ?_
          rintro e w8 ⟨rfl, hb8⟩
          have k3' := k3 w8 hb8
          go_wp2_with fail
          refine Calls.mono k3' ?_
          rintro e w9 ⟨rfl, rfl⟩
          have k4' := k4 _ hb8
          go_wp2_with fail
          refine Calls.mono k4' ?_
          rintro e w10 ⟨rfl, hb10⟩
          have hst11 := (HX6.out.keep (hb8.trans (hb10.mono hb8.size))).toR
          go_wp2_with fail
          go_roundw
          case rel => exact ⟨i + 1, q6, by go_num, by omega, by rw [HB2.out]; exact Hok6.out, hst11⟩
          case measure => simp [intOf]; omega
      · have h0 : StR w b c n q wo := hst
        have hgq := get_q q
        obtain ⟨gm, E, cnt, A', cap, h1, h2, h3, h4, h5, h6⟩ := h0
        have hl := lookT_same h2.inj h2.mem
        have hrd : ReadL encS (wo.alloc (.cells #[S [63]] 9)) (wo.alloc (.cells #[S [63]] 9)).heap.size (some ⟨wo.heap.size, 0, none⟩) [[63]] := by
          rw [World.size_alloc]
          exact ReadL.lit wo #[S [63]] 9 [[63]] rfl
        have hb1 := (Below.refl wo.heap.size wo).alloc (Nat.le_refl _) (.cells #[S [63]] 9)
        have hp := w_PGet [[63]] (by simp) (some ⟨wo.heap.size, 0, none⟩) 1 hrd (h2.inj.sub fun x hx => (h2.mem x).1 hx) (fun e he => (hok2.txt e.2 ((h2.mem e.2).1 (List.mem_map.2 ⟨e, he, rfl⟩))).1) (h1.keep hb1)
        rw [hl, hgq] at hp
        have hbw := h6.trans (hb1.mono h6.size)
        clear h1 h2 h3 h4 h5 hst hl hgq hrd
        go_wp2_with fail
        refine Calls.mono hp ?_
        rintro e w3 ⟨rfl, hb3⟩
        go_wp2_with fail
        go_ret
        exact ⟨rfl, hbw.trans (hb3.mono hbw.size)⟩
  · go_enter Tryd.func5, Tryd.ntmps5
    go_wp2_with fail
    refine Calls.mono hn1 ?_
    rintro e w1 (⟨hno, rfl, hb1⟩ | ⟨n', hn', hn1', hn1'', _⟩)
    · have hn2' := hn2 w1
      clear hn2
      go_wp2_with fail
      refine Calls.mono hn2' ?_
      rintro e w2 (⟨hno2, rfl, hb2⟩ | ⟨n2, hn2, hn2'', hn2x, _⟩)
      · have hfin := hb1.trans (hb2.mono hb1.size)
        go_wp2_with fail
        go_ret
        exact ⟨rfl, hfin⟩
      · exact absurd (by omega) hin
    · exact absurd (by omega) hin
end Go.Proofs.YtbchkaoocobpfaaDoor.pileSays
