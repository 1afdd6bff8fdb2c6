/- RowSays: for every room and every list of steps, of bulk at most 1048576, a row answers as the reference does. -/
import Derived.Test.YtbchkaoocobpfaaRows
import Derived.Test.YtbchkaoocobpfaaFrame
import Derived.Lib.SmallJoins
import Derived.Test.YtbchkaoocobpfaaRowT
import Derived.Test.YtbchkaoocobpfaaOpenSt
import Derived.Test.YtbchkaoocobpfaaBoxC
namespace Go.Proofs.Ytbchkaoocobpfaa.rowSays
open Go.RowKit Go.Larder Go.ChangeShapes Go.WideShapes Go.ChangeAt
open Go.ChangeMaps (open_string shut_string)
open Go.Joins (open_agg2 open_agg3)
set_option linter.unusedVariables false
set_option linter.unusedSimpArgs false
open Go.Proofs.Ytbchkaoocobpfaa
theorem wp_world {P : Program} {c : Code} {Q : Exit → Act → World → Prop} {a : Act} {W : World} (B : World → Prop) (hB : B W) (h : ∀ W', B W' → Code.wp P c Q a W') : Code.wp P c Q a W := h W hB
theorem le_trans_ {a b c d : Nat} (h1 : a ≤ b) (h2 : b ≤ c) (h3 : c ≤ d) : a ≤ d := Nat.le_trans h1 (Nat.le_trans h2 h3)
theorem bulk_len : ∀ (l : List Stp), 10 * l.length ≤ (l.map bulkSt).sum
  | [] => by simp
  | x :: l => by
    have := bulk_len l
    simp only [List.length_cons, List.map_cons, List.sum_cons, bulkSt]
    omega
theorem bulk_mem : ∀ (l : List Stp) (x : Stp), x ∈ l → bulkSt x ≤ (l.map bulkSt).sum
  | y :: l, x, h => by
    simp only [List.map_cons, List.sum_cons]
    rcases List.mem_cons.1 h with rfl | h
    · omega
    · have := bulk_mem l x h; omega
set_option maxHeartbeats 8000000 in
set_option maxRecDepth 100000 in
theorem walkL {w0 : World} (room : Int) (hroom : -9223372036854775808 ≤ room ∧ room ≤ 9223372036854775807) (l : List Stp) (A : Option Addr) (cl : Nat) (hbk : (l.map bulkSt).sum ≤ 1048576) (hok : ∀ x ∈ l, stpOk w0 x) (w : World) (hr : ReadL encSt w w.heap.size A l) :
    Calls Try.prog 3 #[.int .i64 room, .slice A l.length cl] w fun e w' => e = .returned (.bool true) ∧ Below w.heap.size w w' := by
  have hbl := bulk_len l
  have hn1 := w_RNew room hroom w
  have hn2 := fun (W : World) => w_RefNew room hroom (w := W)
  have Hroom := Lib.hid hroom
  clear hroom
  by_cases hin : 1 ≤ room ∧ room ≤ 1000000
  · obtain ⟨n, rfl⟩ : ∃ n : Nat, room = n := ⟨room.toNat, by omega⟩
    go_enter Try.func3, Try.ntmps3
    go_wp2_with fail
    refine Calls.mono hn1 ?_
    rintro e w1 (⟨hno, _⟩ | ⟨n', hn', hn1', b, gc, gm, rfl, hrow, hF, hb1⟩)
    · exact absurd hin hno
    obtain rfl : n = n' := by omega
    have hn2' := hn2 w1
    clear hn2
    go_wp2_with fail
    refine Calls.mono hn2' ?_
    rintro e w2 (⟨hno, _⟩ | ⟨n2, hn2, hn2'', c, rfl, hrf, hc, hb2⟩)
    · exact absurd hin hno
    obtain rfl : n = n2 := by omega
    have hst : StR w b c n [] w2 := by
      refine ⟨gc, gm, [], none, 0, hrow.keep hb2, rfl, hrf, fun j hj hj2 => ?_, fun j hj => ?_, hb1.trans (hb2.mono hb1.size)⟩
      · have := hrow.lt hj
        rcases hj2 with h | h
        · omega
        · simp [blkOf] at h
      · rcases hj with h | h
        · exact hF j h
        · have := hb1.size
          rcases h with h | h
          · omega
          · simp [blkOf] at h
    clear hrow hF hb1 hrf hc hb2
    go_wp2_with fail
    go_loopw [42] (fun i' wr => ∃ (i : Nat) (q : List Thg), i' = .int .i64 i ∧ i ≤ l.length ∧ StR w b c n q wr) (fun i' _ => l.length - (intOf i').toNat)
    case atStart => exact ⟨0, [], rfl, by omega, hst⟩
    case round =>
      clear hst
      obtain ⟨i, q, rfl, hi, hst⟩ := hrel
      obtain ⟨wo, hwo⟩ : ∃ wo, wo = wr := ⟨_, rfl⟩
      subst hwo
      by_cases hlt : i < l.length
      · obtain ⟨x, hxi, hd⟩ := drop_step hlt
        have hxm := List.mem_of_getElem? hxi
        have hxo := (hok x hxm).1
        have hxa := (hok x hxm).2.1
        have hxb := bulk_mem l x hxm
        obtain ⟨g, off, hA, hgb, hc0⟩ := (hr.below (show Below w.heap.size w wo from by obtain ⟨_, _, _, _, _, _, _, _, _, _, h⟩ := hst; exact h) (Nat.le_refl _)).at_ hxi
        subst hA
        have hra : wo.rangeAt g (off + i * 22) (encSt.enc x) := fun j u hu => hc0 j u hu
        have hof := fun W => w_Of x 4 (by omega) (by omega) hxo W
        obtain ⟨xs, hxse⟩ : ∃ xs, encSt.enc x = xs := ⟨_, rfl⟩
        have hlen : xs.length = 22 := by rw [← hxse]; exact encSt.len x
        have hx1 : xs[1]? = some (.int .i64 x.a) := by rw [← hxse]; rfl
        have hx3 : xs[3]? = some (S x.s) := by rw [← hxse]; rfl
        have hone : xs.toArray.all (·.oneCell') = true := by
          rw [← hxse]
          simp only [List.all_toArray, List.all_eq_true]
          exact encSt.one x
        rw [hxse] at hra hof
        have hofx : ∀ W, Calls Try.prog 8 #[.agg xs.toArray, .int .i64 4] W fun e w' => e = .returned (.int .i64 (x.kd % 4)) ∧ Below W.heap.size W w' := hof
        have h4 : x.kd % 4 = 0 ∨ x.kd % 4 = 1 ∨ x.kd % 4 = 2 ∨ x.kd % 4 = 3 := by omega
        have hsz : ((Try.prog).info? 39).map (·.size) = some xs.toArray.size := by rw [List.size_toArray, hlen]; kernel_rfl
        have hszL : ((Try.prog).info? 39).map (·.size) = some xs.length := by rw [hlen]; kernel_rfl
        have Hold := Lib.hid (show (22 : Nat) = xs.toArray.size from by rw [List.size_toArray, hlen])
        generalize x.s = s at *
        generalize x.a = sz at *
        generalize x.kd % 4 = kd at *
        clear hxse hlen hxi hd hxm hxo hxb hc0 hof
        go_upto_region 8 with (first
          | (refine wpList_load_mid rfl 39 _ rfl g (off + i * 22) rfl xs _ hra Try.underlying39 rfl hszL ?_)
          | (refine wpList_store_row rfl 39 _ _ rfl wo.heap.size xs.toArray rfl rfl 39 _ (heap_alloc_new _ _) hsz Hold.out hone ?_))
        refine wp_world (fun W' => BoxAt W' wo.heap.size 39 xs ∧ Below wo.heap.size wo W') ⟨setRow_heap _ _ _ _ _ _ (heap_alloc_new _ _), below_setRow ((Below.refl _ _).alloc (Nat.le_refl _) _) (Nat.le_refl _) _⟩ ?_
        rintro wp ⟨bx, hbp⟩
        clear hra hone Hold hszL
        have hX := hst.toX hbp bx (Nat.le_refl _)
        have Hst := Lib.hid hst
        clear hst hbp
        generalize hgo : wo.heap.size = go at *
        clear hgo
        rcases h4 with rfl | rfl | rfl | rfl
        · go_wp2_with (refine wpList_load_row (ty := 39) rfl _ rfl go rfl 39 xs.toArray (0, 0) _ bx Try.underlying39 rfl hsz ?_)
          refine Calls.mono (hofx _) ?_
          rintro e w3 ⟨rfl, hb3⟩
          have hX3 := hX.keep hb3
          clear hX hb3 bx hofx hsz
          have p1 := hX3.box.cell (j := 1) hx1
          have p3 := hX3.box.cell (j := 3) hx3
          have hp1 := st_put s sz hxa hX3
          have hc3 := hX3.few.2
          have hgl := Nat.le_trans (gone_len n s sz q) hX3.few.1
          have hp2 := fun (W : World) (hW : StX w b c n go xs (thsPut n s sz q) q W) => st_putR s sz hxa hW
          go_wp2_with fail
          refine Calls.mono hp1 ?_
          rintro e w4 ⟨⟨A4, c4, rfl, ho4⟩, hX4⟩
          have hp2' := hp2 w4 hX4
          have p1' := hX4.box.cell (j := 1) hx1
          have p3' := hX4.box.cell (j := 3) hx3
          clear hp1 hp2 hX3
          go_wp2_with fail
          refine Calls.mono hp2' ?_
          rintro e w5 ⟨⟨A5, c5, rfl, ho5⟩, hX5, hs5⟩
          have ho4' := hs5.own ho4 (fun a ha => by have := (ho4.lt a ha).1; omega)
          have hEqg := w_Eq_string (gonePut n s sz q) (by omega) A4 A5 c4 c5 _ _ w5 ho4'.read ho5.read
          clear hp2' hX4 ho4 ho5 ho4' hs5 hgl
          generalize gonePut n s sz q = gs at *
          generalize errPut n sz = er at *
          have herE : (er == er) = true := by simp
          obtain ⟨q6, hq6⟩ : ∃ q6, thsPut n s sz q = q6 := ⟨_, rfl⟩
          rw [hq6] at hX5
          clear hq6
          go_wp2_with fail
          refine Calls.mono hEqg ?_
          rintro e w6 ⟨rfl, rfl⟩
          have hX6 := hX5
          clear hX5
          have hq6 := st_keys hX6
          obtain ⟨k1, k2, k3, k4, hkl⟩ := hq6
          have Hus := Lib.hid (rfl : usedR q6 = usedR q6)
          have hEqk : ∀ A1 A2 c1 c2 w1 w2, ReadL encL w1 w1.heap.size A1 (keysR q6) → Below w1.heap.size w1 w2 → ReadL encL w2 w2.heap.size A2 (keysR q6) → Calls Try.prog 11 #[.slice A1 (keysR q6).length c1, .slice A2 (keysR q6).length c2] w2 fun e w' => e = .returned (.bool true) ∧ w2 = w' :=
            fun A1 A2 c1 c2 w1 w2 h1 hb h2 => w_Eq_string (keysR q6) (by omega) A1 A2 c1 c2 w1.heap.size w2.heap.size w2 (h1.below hb (Nat.le_refl _)) h2
          generalize keysR q6 = ks at *
          generalize usedR q6 = us at *
          have husE : ((us : Int) == (us : Int)) = true := by simp
          have HX6 := Lib.hid hX6
          clear hX6
          go_wp2_with fail
          refine Calls.mono k1 ?_
          rintro e w7 ⟨⟨A7, c7, rfl, hr7⟩, hb7⟩
          have k2' := k2 w7 hb7
          go_wp2_with fail
          refine Calls.mono k2' ?_
          rintro e w8 ⟨⟨A8, c8, rfl, hr8⟩, hb8⟩
          have hb68 := hb7.trans (hb8.mono hb7.size)
          have ke := hEqk A7 A8 c7 c8 w7 w8 hr7.read hb8 hr8.read
          go_wp2_with fail
          refine Calls.mono ke ?_
          rintro e w9 ⟨rfl, rfl⟩
          have k3' := k3 w8 hb68
          go_wp2_with fail
          refine Calls.mono k3' ?_
          rintro e w10 ⟨rfl, rfl⟩
          have k4' := k4 _ hb68
          go_wp2_with fail
          refine Calls.mono k4' ?_
          rintro e w11 ⟨rfl, hb11⟩
          have hst11 := (HX6.out.keep (hb68.trans (hb11.mono hb68.size))).toR
          go_wp2_with fail
          go_roundw
          case rel => exact ⟨i + 1, q6, by go_num, by omega, hst11⟩
          case measure => simp [intOf]; omega
        · go_wp2_with (refine wpList_load_row (ty := 39) rfl _ rfl go rfl 39 xs.toArray (0, 0) _ bx Try.underlying39 rfl hsz ?_)
          refine Calls.mono (hofx _) ?_
          rintro e w3 ⟨rfl, hb3⟩
          have hX3 := hX.keep hb3
          clear hX hb3 bx hofx hsz
          have p1 := hX3.box.cell (j := 1) hx1
          have p3 := hX3.box.cell (j := 3) hx3
          have hp1 := st_put s sz hxa hX3
          have hc3 := hX3.few.2
          have hgl := Nat.le_trans (gone_len n s sz q) hX3.few.1
          have hp2 := fun (W : World) (hW : StX w b c n go xs (thsPut n s sz q) q W) => st_putR s sz hxa hW
          go_wp2_with fail
          refine Calls.mono hp1 ?_
          rintro e w4 ⟨⟨A4, c4, rfl, ho4⟩, hX4⟩
          have hp2' := hp2 w4 hX4
          have p1' := hX4.box.cell (j := 1) hx1
          have p3' := hX4.box.cell (j := 3) hx3
          clear hp1 hp2 hX3
          go_wp2_with fail
          refine Calls.mono hp2' ?_
          rintro e w5 ⟨⟨A5, c5, rfl, ho5⟩, hX5, hs5⟩
          have ho4' := hs5.own ho4 (fun a ha => by have := (ho4.lt a ha).1; omega)
          have hEqg := w_Eq_string (gonePut n s sz q) (by omega) A4 A5 c4 c5 _ _ w5 ho4'.read ho5.read
          clear hp2' hX4 ho4 ho5 ho4' hs5 hgl
          generalize gonePut n s sz q = gs at *
          generalize errPut n sz = er at *
          have herE : (er == er) = true := by simp
          obtain ⟨q6, hq6⟩ : ∃ q6, thsPut n s sz q = q6 := ⟨_, rfl⟩
          rw [hq6] at hX5
          clear hq6
          go_wp2_with fail
          refine Calls.mono hEqg ?_
          rintro e w6 ⟨rfl, rfl⟩
          have hX6 := hX5
          clear hX5
          have hq6 := st_keys hX6
          obtain ⟨k1, k2, k3, k4, hkl⟩ := hq6
          have Hus := Lib.hid (rfl : usedR q6 = usedR q6)
          have hEqk : ∀ A1 A2 c1 c2 w1 w2, ReadL encL w1 w1.heap.size A1 (keysR q6) → Below w1.heap.size w1 w2 → ReadL encL w2 w2.heap.size A2 (keysR q6) → Calls Try.prog 11 #[.slice A1 (keysR q6).length c1, .slice A2 (keysR q6).length c2] w2 fun e w' => e = .returned (.bool true) ∧ w2 = w' :=
            fun A1 A2 c1 c2 w1 w2 h1 hb h2 => w_Eq_string (keysR q6) (by omega) A1 A2 c1 c2 w1.heap.size w2.heap.size w2 (h1.below hb (Nat.le_refl _)) h2
          generalize keysR q6 = ks at *
          generalize usedR q6 = us at *
          have husE : ((us : Int) == (us : Int)) = true := by simp
          have HX6 := Lib.hid hX6
          clear hX6
          go_wp2_with fail
          refine Calls.mono k1 ?_
          rintro e w7 ⟨⟨A7, c7, rfl, hr7⟩, hb7⟩
          have k2' := k2 w7 hb7
          go_wp2_with fail
          refine Calls.mono k2' ?_
          rintro e w8 ⟨⟨A8, c8, rfl, hr8⟩, hb8⟩
          have hb68 := hb7.trans (hb8.mono hb7.size)
          have ke := hEqk A7 A8 c7 c8 w7 w8 hr7.read hb8 hr8.read
          go_wp2_with fail
          refine Calls.mono ke ?_
          rintro e w9 ⟨rfl, rfl⟩
          have k3' := k3 w8 hb68
          go_wp2_with fail
          refine Calls.mono k3' ?_
          rintro e w10 ⟨rfl, rfl⟩
          have k4' := k4 _ hb68
          go_wp2_with fail
          refine Calls.mono k4' ?_
          rintro e w11 ⟨rfl, hb11⟩
          have hst11 := (HX6.out.keep (hb68.trans (hb11.mono hb68.size))).toR
          go_wp2_with fail
          go_roundw
          case rel => exact ⟨i + 1, q6, by go_num, by omega, hst11⟩
          case measure => simp [intOf]; omega
        · go_wp2_with (refine wpList_load_row (ty := 39) rfl _ rfl go rfl 39 xs.toArray (0, 0) _ bx Try.underlying39 rfl hsz ?_)
          refine Calls.mono (hofx _) ?_
          rintro e w3 ⟨rfl, hb3⟩
          have hX3 := hX.keep hb3
          clear hX hb3 bx hofx hsz
          have p1 := hX3.box.cell (j := 1) hx1
          have p3 := hX3.box.cell (j := 3) hx3
          have hp1 := st_touch s hX3.drewX
          have hp2 := fun (W : World) (hW : StX w b c n go xs (touchR s q) q W) => st_touchR s hW
          have hX3d := hX3.drewX
          have q3 := hX3d.box.cell (j := 3) hx3
          obtain ⟨v, hv⟩ : ∃ v, v = (takeR s q).isSome := ⟨_, rfl⟩
          rw [← hv] at hp1 hp2
          have hvE : (v == v) = true := by simp
          obtain ⟨q6, hq6⟩ : ∃ q6, touchR s q = q6 := ⟨_, rfl⟩
          rw [hq6] at hp1 hp2
          clear hv hq6 hX3
          go_upto_region 16 with fail
          go_region_held3 (fun W => W.cell? ⟨go, 3, none⟩ = some (S s)) ((first | exact q3 | exact u3 | exact v3)) ((first
            | (go_at_call 12; (with_reducible refine Calls.mono hp1 ?_); rintro e w4 ⟨rfl, hX4⟩; have u3 := hX4.box.cell (j := 3) hx3)
            | (go_at_call 13; (with_reducible refine Calls.mono (hp2 w4 hX4) ?_); rintro e w5 ⟨rfl, hX5⟩; have v3 := hX5.box.cell (j := 3) hx3)))
          have hX6 := hX5
          clear hX5 hX4 u3 v3 q3 hp1 hp2
          have hq6 := st_keys hX6
          obtain ⟨k1, k2, k3, k4, hkl⟩ := hq6
          have Hus := Lib.hid (rfl : usedR q6 = usedR q6)
          have hEqk : ∀ A1 A2 c1 c2 w1 w2, ReadL encL w1 w1.heap.size A1 (keysR q6) → Below w1.heap.size w1 w2 → ReadL encL w2 w2.heap.size A2 (keysR q6) → Calls Try.prog 11 #[.slice A1 (keysR q6).length c1, .slice A2 (keysR q6).length c2] w2 fun e w' => e = .returned (.bool true) ∧ w2 = w' :=
            fun A1 A2 c1 c2 w1 w2 h1 hb h2 => w_Eq_string (keysR q6) (by omega) A1 A2 c1 c2 w1.heap.size w2.heap.size w2 (h1.below hb (Nat.le_refl _)) h2
          generalize keysR q6 = ks at *
          generalize usedR q6 = us at *
          have husE : ((us : Int) == (us : Int)) = true := by simp
          have HX6 := Lib.hid hX6
          clear hX6
          go_wp2_with fail
          refine Calls.mono k1 ?_
          rintro e w7 ⟨⟨A7, c7, rfl, hr7⟩, hb7⟩
          have k2' := k2 w7 hb7
          go_wp2_with fail
          refine Calls.mono k2' ?_
          rintro e w8 ⟨⟨A8, c8, rfl, hr8⟩, hb8⟩
          have hb68 := hb7.trans (hb8.mono hb7.size)
          have ke := hEqk A7 A8 c7 c8 w7 w8 hr7.read hb8 hr8.read
          go_wp2_with fail
          refine Calls.mono ke ?_
          rintro e w9 ⟨rfl, rfl⟩
          have k3' := k3 w8 hb68
          go_wp2_with fail
          refine Calls.mono k3' ?_
          rintro e w10 ⟨rfl, rfl⟩
          have k4' := k4 _ hb68
          go_wp2_with fail
          refine Calls.mono k4' ?_
          rintro e w11 ⟨rfl, hb11⟩
          have hst11 := (HX6.out.keep (hb68.trans (hb11.mono hb68.size))).toR
          go_wp2_with fail
          go_roundw
          case rel => exact ⟨i + 1, q6, by go_num, by omega, hst11⟩
          case measure => simp [intOf]; omega
        · go_wp2_with (refine wpList_load_row (ty := 39) rfl _ rfl go rfl 39 xs.toArray (0, 0) _ bx Try.underlying39 rfl hsz ?_)
          refine Calls.mono (hofx _) ?_
          rintro e w3 ⟨rfl, hb3⟩
          have hX3 := hX.keep hb3
          clear hX hb3 bx hofx hsz
          have p1 := hX3.box.cell (j := 1) hx1
          have p3 := hX3.box.cell (j := 3) hx3
          have hp1 := st_drop s hX3.drewX
          have hp2 := fun (W : World) (hW : StX w b c n go xs (dropR s q) q W) => st_dropR s hW
          have hX3d := hX3.drewX
          have q3 := hX3d.box.cell (j := 3) hx3
          obtain ⟨v, hv⟩ : ∃ v, v = (if (takeR s q).isSome then (0 : Int) else 4) := ⟨_, rfl⟩
          rw [← hv] at hp1 hp2
          have hvE : (v == v) = true := by simp
          obtain ⟨q6, hq6⟩ : ∃ q6, dropR s q = q6 := ⟨_, rfl⟩
          rw [hq6] at hp1 hp2
          clear hv hq6 hX3
          go_upto_region 18 with fail
          go_region_held3 (fun W => W.cell? ⟨go, 3, none⟩ = some (S s)) ((first | exact q3 | exact u3 | exact v3)) ((first
            | (go_at_call 14; (with_reducible refine Calls.mono hp1 ?_); rintro e w4 ⟨rfl, hX4⟩; have u3 := hX4.box.cell (j := 3) hx3)
            | (go_at_call 15; (with_reducible refine Calls.mono (hp2 w4 hX4) ?_); rintro e w5 ⟨rfl, hX5⟩; have v3 := hX5.box.cell (j := 3) hx3)))
          have hX6 := hX5
          clear hX5 hX4 u3 v3 q3 hp1 hp2
          have hq6 := st_keys hX6
          obtain ⟨k1, k2, k3, k4, hkl⟩ := hq6
          have Hus := Lib.hid (rfl : usedR q6 = usedR q6)
          have hEqk : ∀ A1 A2 c1 c2 w1 w2, ReadL encL w1 w1.heap.size A1 (keysR q6) → Below w1.heap.size w1 w2 → ReadL encL w2 w2.heap.size A2 (keysR q6) → Calls Try.prog 11 #[.slice A1 (keysR q6).length c1, .slice A2 (keysR q6).length c2] w2 fun e w' => e = .returned (.bool true) ∧ w2 = w' :=
            fun A1 A2 c1 c2 w1 w2 h1 hb h2 => w_Eq_string (keysR q6) (by omega) A1 A2 c1 c2 w1.heap.size w2.heap.size w2 (h1.below hb (Nat.le_refl _)) h2
          generalize keysR q6 = ks at *
          generalize usedR q6 = us at *
          have husE : ((us : Int) == (us : Int)) = true := by simp
          have HX6 := Lib.hid hX6
          clear hX6
          go_wp2_with fail
          refine Calls.mono k1 ?_
          rintro e w7 ⟨⟨A7, c7, rfl, hr7⟩, hb7⟩
          have k2' := k2 w7 hb7
          go_wp2_with fail
          refine Calls.mono k2' ?_
          rintro e w8 ⟨⟨A8, c8, rfl, hr8⟩, hb8⟩
          have hb68 := hb7.trans (hb8.mono hb7.size)
          have ke := hEqk A7 A8 c7 c8 w7 w8 hr7.read hb8 hr8.read
          go_wp2_with fail
          refine Calls.mono ke ?_
          rintro e w9 ⟨rfl, rfl⟩
          have k3' := k3 w8 hb68
          go_wp2_with fail
          refine Calls.mono k3' ?_
          rintro e w10 ⟨rfl, rfl⟩
          have k4' := k4 _ hb68
          go_wp2_with fail
          refine Calls.mono k4' ?_
          rintro e w11 ⟨rfl, hb11⟩
          have hst11 := (HX6.out.keep (hb68.trans (hb11.mono hb68.size))).toR
          go_wp2_with fail
          go_roundw
          case rel => exact ⟨i + 1, q6, by go_num, by omega, hst11⟩
          case measure => simp [intOf]; omega
      · have h0 : StR w b c n q wo := hst
        obtain ⟨gc, gm, L, A2, cap, hrow, hq, hrf, hap, hlo, hbel⟩ := hst
        have hpt := w_RPut b gc gm n L [] 0 (by omega) wo hrow
        clear hq hrf hap hlo
        go_wp2_with fail
        refine Calls.mono hpt ?_
        rintro e w3 (⟨hs, rfl, hb⟩ | ⟨hs, _⟩ | ⟨n1, hn1, hn2, _⟩)
        · have hfin := hbel.trans (hb.mono hbel.size)
          go_wp2_with fail
          go_ret
          exact ⟨rfl, hfin⟩
        · exact absurd hs (by omega)
        · exact absurd hn2 (by omega)
  · go_enter Try.func3, Try.ntmps3
    go_wp2_with fail
    refine Calls.mono hn1 ?_
    rintro e w1 (⟨hno, rfl, hb1⟩ | ⟨n', hn', hn1', b, gc, gm, _, hrow, _⟩)
    · have hn2' := hn2 w1
      clear hn2
      go_wp2_with fail
      refine Calls.mono hn2' ?_
      rintro e w2 (⟨hno2, rfl, hb2⟩ | ⟨n2, hn2, hn2'', c, rfl, hrf, hc, hb2⟩)
      · have hfin := hb1.trans (hb2.mono hb1.size)
        go_wp2_with fail
        go_ret
        exact ⟨rfl, hfin⟩
      · have := hrf.rm
        exact absurd (by omega) hin
    · have := hrow.rm
      exact absurd (by omega) hin

theorem own : ownKnob Try.prog.godebug = none := by kernel_rfl
theorem laidOut : laidOutB Try.prog = true := by kernel_rfl
set_option maxRecDepth 100000 in
theorem lifted (os : Os) (started : os.Started) (H : Type) (enc : TypeId × Value → H) (F : Stop.Interp) :
    ReturnsInHanded {} Try.checked os 3 .any ((Rows.OpenSpec.upto Rows.rowSaysSpec).pre6 enc Try.prog Try.f3 Rows.rowSaysUptoRow.domain false) (((Rows.OpenSpec.upto Rows.rowSaysSpec).at F).post enc Try.prog Try.f3 false true false false) := by
  refine cond_shaped (C := Try.checked) (s := Rows.OpenSpec.upto Rows.rowSaysSpec) (k := Rows.uptoSmall) rfl own started (by kernel_rfl) Try.func3
    (OpenSpec.witness (enc := enc) (C := Try.checked) (s := Rows.OpenSpec.upto Rows.rowSaysSpec) (k := Rows.uptoSmall) rfl false ⟨#[], #[.int .i64 0, .slice none 0 0], []⟩ 8 (by kernel_rfl) (by kernel_rfl) (by kernel_rfl)
      (x := ([.lit (.int .i64 0), .nil], [], [])) (by kernel_rfl) rfl (by kernel_rfl)) ?_
  intro W base args ds gs before hval0 hW hcnd hk0 hsh _
  have hval : ∀ (j : Nat) t v, Try.f3.params[j]? = some t → args[j]? = some v → Value.okWide Try.prog W .any base t v := hval0
  have hW' := hW
  obtain ⟨p, q, hA0, hV, rfl, hfz, hnd⟩ := hW
  have hA : DataW.TrodAll enc Try.prog W 0 (fun _ => true) true Try.f3.params.toList args.toList ds p := hA0
  rw [Try.params3] at hA hval
  obtain ⟨v0, vs0, d0, ds0, p0, q0, hargs, rfl, rfl, h0, r0⟩ := trodAll_cons hA
  obtain ⟨v1, vs1, d1, ds1, p1, q1, rfl, rfl, rfl, h1, r1⟩ := trodAll_cons r0
  obtain ⟨rfl, rfl, rfl⟩ := trodAll_nil r1
  obtain rfl : args = #[v0, v1] := by cases args; simp_all
  obtain ⟨rfl, rfl⟩ := trodVars_none hV
  simp only [List.append_nil] at hk0
  have hbulk := of_decide_eq_true hk0
  simp only [Rows.uptoBulkAll] at hbulk
  have k0 := h0
  have lt0 : ∀ x ∈ p0, x.block < W.heap.size := by obtain ⟨m, hm⟩ := k0; exact DataW.trod_lt m _ _ _ hm
  obtain ⟨a0, rfl, rfl, rfl, w0⟩ := open_int Try.underlying3 (hval 0 3 v0 rfl rfl) h0
  have k1 := h1
  have lt1 : ∀ x ∈ p1, x.block < W.heap.size := by obtain ⟨m, hm⟩ := k1; exact DataW.trod_lt m _ _ _ hm
  obtain ⟨A1, l1, c1, rfl, rd1, ok1, bk1⟩ := open_steps (hval 1 22 v1 rfl rfl) h1
  have b1 : (l1.map bulkSt).sum ≤ 1048576 := by (try simp only [Rows.uptoBulk] at hbulk); omega
  clear hA0 hval0
  refine (walkL a0 (bounds_i64 w0) l1 A1 c1 b1 ok1 W rd1).mono fun e W' ⟨he, bel⟩ => ?_
  subst he
  exact ⟨_, rfl, _, _, _, [], _, [], hW', trodAll_mk1 (shut_bool Try.underlying4 _), (trodAll_cons_mk (Below.trod laidOut (by kernel_rfl) (of_decide_eq_true (by kernel_rfl)) k0 bel lt0) (trodAll_cons_mk (Below.trod laidOut (by kernel_rfl) (of_decide_eq_true (by kernel_rfl)) k1 bel lt1) trodAll_mk0)), rfl, bel.frame _, fun h => by cases h⟩

/-- The statement. -/
theorem proved : Rows.RowSaysUptoSaid :=
  OpenClaim.holds_of_cond 3 Try.f3 rfl rfl rfl rfl rfl rfl rfl ⟨rfl, rfl, rfl, rfl, rfl⟩ rfl rfl rfl rfl rfl (by kernel_rfl) Try.func3 (by kernel_rfl)
    (of_decide_eq_true (by kernel_rfl)) (by unfold Func.isWrapper; first | (rw [if_pos (by decide +kernel)]; kernel_rfl) | (rw [if_neg (by decide +kernel)]; exact ⟨rfl, rfl⟩))
    (fun os started H enc _ F => lifted os started H enc F)
#print axioms proved
end Go.Proofs.Ytbchkaoocobpfaa.rowSays
