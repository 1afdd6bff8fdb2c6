/- WDgT, WDgN -/
import Derived.Test.YtemjoiaapfhenaaGreatDoorGd15
import Derived.Deep.DeepCutAuto
import Derived.Test.YtemjoiaapfhenaaGreatDoorWDgB
import Derived.Test.YtemjoiaapfhenaaGreatDoorGd01

/- WDgT -/
section
namespace Go.Proofs.YtemjoiaapfhenaaGreatDoor
open Go.RowKit Go.Larder
set_option linter.unusedVariables false
set_option linter.unusedSimpArgs false
set_option maxHeartbeats 8000000 in
set_option maxRecDepth 100000 in
theorem w_block_true (h : List Nat) (hh : OkV 8 h) (b : List UInt8) (hbl : b.length = 64) (A : Option Addr) (c : Nat) (many : Nat) (hm : many < 18446744073709551616) (w : World) (hr : ReadL encB w w.heap.size A b) :
    Calls Tryz.prog 176 #[.agg (h.map U).toArray, .slice A 64 c, .int .u64 many, .bool true] w fun e w' => e = .returned (.agg ((blockN h b many true).map U).toArray) ∧ Below w.heap.size w w' := by
  have hst := fun v hv => blockN_of (h := h) (b := b) (many := many) (last := true) (v := v) hv
  have hsv := hh.startV many true
  obtain ⟨h0, h1, h2, h3, h4, h5, h6, h7, rfl⟩ := eight hh.len
  have Hbl := Lib.hid hbl
  have Hh := Lib.hid hh
  have Hst := Lib.hid hst
  have Hsb := Lib.hid (start_box h0 h1 h2 h3 h4 h5 h6 h7 many true)
  clear hbl hst hh
  show Calls _ _ #[.agg #[.int .u32 (h0 : Nat), .int .u32 (h1 : Nat), .int .u32 (h2 : Nat), .int .u32 (h3 : Nat), .int .u32 (h4 : Nat), .int .u32 (h5 : Nat), .int .u32 (h6 : Nat), .int .u32 (h7 : Nat)], _, _, _] _ _
  have bh := ((BoxAt.new w [.int .u32 (h0 : Nat), .int .u32 (h1 : Nat), .int .u32 (h2 : Nat), .int .u32 (h3 : Nat), .int .u32 (h4 : Nat), .int .u32 (h5 : Nat), .int .u32 (h6 : Nat), .int .u32 (h7 : Nat)] 181).alloc (.cells #[.int .u32 0, .int .u32 0, .int .u32 0, .int .u32 0, .int .u32 0, .int .u32 0, .int .u32 0, .int .u32 0] 181)).alloc (.cells #[.int .u32 0, .int .u32 0, .int .u32 0, .int .u32 0, .int .u32 0, .int .u32 0, .int .u32 0, .int .u32 0, .int .u32 0, .int .u32 0, .int .u32 0, .int .u32 0, .int .u32 0, .int .u32 0, .int .u32 0, .int .u32 0] 213)
  have br := (BoxAt.new (w.alloc (.cells #[.int .u32 (h0 : Nat), .int .u32 (h1 : Nat), .int .u32 (h2 : Nat), .int .u32 (h3 : Nat), .int .u32 (h4 : Nat), .int .u32 (h5 : Nat), .int .u32 (h6 : Nat), .int .u32 (h7 : Nat)] 181)) [.int .u32 0, .int .u32 0, .int .u32 0, .int .u32 0, .int .u32 0, .int .u32 0, .int .u32 0, .int .u32 0] 181).alloc (.cells #[.int .u32 0, .int .u32 0, .int .u32 0, .int .u32 0, .int .u32 0, .int .u32 0, .int .u32 0, .int .u32 0, .int .u32 0, .int .u32 0, .int .u32 0, .int .u32 0, .int .u32 0, .int .u32 0, .int .u32 0, .int .u32 0] 213)
  have bv := BoxAt.new ((w.alloc (.cells #[.int .u32 (h0 : Nat), .int .u32 (h1 : Nat), .int .u32 (h2 : Nat), .int .u32 (h3 : Nat), .int .u32 (h4 : Nat), .int .u32 (h5 : Nat), .int .u32 (h6 : Nat), .int .u32 (h7 : Nat)] 181)).alloc (.cells #[.int .u32 0, .int .u32 0, .int .u32 0, .int .u32 0, .int .u32 0, .int .u32 0, .int .u32 0, .int .u32 0] 181)) [.int .u32 0, .int .u32 0, .int .u32 0, .int .u32 0, .int .u32 0, .int .u32 0, .int .u32 0, .int .u32 0, .int .u32 0, .int .u32 0, .int .u32 0, .int .u32 0, .int .u32 0, .int .u32 0, .int .u32 0, .int .u32 0] 213
  have hB0 : Below w.heap.size w (((w.alloc (.cells #[.int .u32 (h0 : Nat), .int .u32 (h1 : Nat), .int .u32 (h2 : Nat), .int .u32 (h3 : Nat), .int .u32 (h4 : Nat), .int .u32 (h5 : Nat), .int .u32 (h6 : Nat), .int .u32 (h7 : Nat)] 181)).alloc (.cells #[.int .u32 0, .int .u32 0, .int .u32 0, .int .u32 0, .int .u32 0, .int .u32 0, .int .u32 0, .int .u32 0] 181)).alloc (.cells #[.int .u32 0, .int .u32 0, .int .u32 0, .int .u32 0, .int .u32 0, .int .u32 0, .int .u32 0, .int .u32 0, .int .u32 0, .int .u32 0, .int .u32 0, .int .u32 0, .int .u32 0, .int .u32 0, .int .u32 0, .int .u32 0] 213)) := (((Below.refl _ _).alloc (Nat.le_refl _) _).alloc (by simp) _).alloc (by simp; omega) _
  rw [World.size_alloc] at br
  rw [World.size_alloc, World.size_alloc] at bv
  go_enter Tryz.func176, Tryz.ntmps176
  go_wp2_with fail
  generalize ((w.alloc (.cells #[.int .u32 (h0 : Nat), .int .u32 (h1 : Nat), .int .u32 (h2 : Nat), .int .u32 (h3 : Nat), .int .u32 (h4 : Nat), .int .u32 (h5 : Nat), .int .u32 (h6 : Nat), .int .u32 (h7 : Nat)] 181)).alloc (.cells #[.int .u32 0, .int .u32 0, .int .u32 0, .int .u32 0, .int .u32 0, .int .u32 0, .int .u32 0, .int .u32 0] 181)).alloc (.cells #[.int .u32 0, .int .u32 0, .int .u32 0, .int .u32 0, .int .u32 0, .int .u32 0, .int .u32 0, .int .u32 0, .int .u32 0, .int .u32 0, .int .u32 0, .int .u32 0, .int .u32 0, .int .u32 0, .int .u32 0, .int .u32 0] 213) = W0 at *
  generalize hgh : w.heap.size = gh at *
  generalize hgr : gh + 1 = gr at *
  generalize hgv : gr + 1 = gv at *
  refine wp_region_still_tail 2 (by kernel_rfl) (by kernel_rfl) ?_
  simp only [List.take_succ_cons, List.take_zero, List.drop_succ_cons, List.drop_zero]
  repeat still_step
  try refine wpStill_nil ?_
  change wpList _ _ _ _ _ W0.drew
  refine wpList_copy_box rfl _ _ _ _ rfl 61 Tryz.underlying97 info_u32 [.int .u32 (h0 : Nat), .int .u32 (h1 : Nat), .int .u32 (h2 : Nat), .int .u32 (h3 : Nat), .int .u32 (h4 : Nat), .int .u32 (h5 : Nat), .int .u32 (h6 : Nat), .int .u32 (h7 : Nat)] (by rfl) (by rfl) bv.drew rfl (by simp) bh.drew.srcs (by simp) (by simp [Value.oneCell']) 8 rfl ?_
  intro W1 bv1 hs1
  have bh1 := hs1.box bh.drew (by omega)
  have br1 := hs1.box br.drew (by omega)
  have hB1 := hB0.drew.trans (hs1.toBelow (by have := hB0.size; show gh ≤ W0.heap.size; omega) (fun j hj => by omega))
  clear bh br bv hB0 hs1
  have hiv : ∀ W, Calls Tryz.prog 175 #[] W fun e w' => e = .returned (.agg #[.int .u32 1779033703, .int .u32 3144134277, .int .u32 1013904242, .int .u32 2773480762, .int .u32 1359893119, .int .u32 2600822924, .int .u32 528734635, .int .u32 1541459225]) ∧ Below W.heap.size W w' := fun W => w_iv W
  go_wp2_with fail
  refine (hiv _).mono ?_
  rintro e W2 ⟨rfl, hb2⟩
  have bv2 := (bv1.keep hb2)
  have bh2 := (bh1.keep hb2)
  have br2 := (br1.keep hb2)
  have hB2 := hB1.trans (hb2.mono (by have := hB1.size; omega))
  clear bh1 br1 bv1 hB1 hb2
  have bs2 := BoxAt.new W2 [.int .u32 1779033703, .int .u32 3144134277, .int .u32 1013904242, .int .u32 2773480762, .int .u32 1359893119, .int .u32 2600822924, .int .u32 528734635, .int .u32 1541459225] 181
  have bv3 := bv2.alloc (.cells #[.int .u32 1779033703, .int .u32 3144134277, .int .u32 1013904242, .int .u32 2773480762, .int .u32 1359893119, .int .u32 2600822924, .int .u32 528734635, .int .u32 1541459225] 181)
  have bh3 := bh2.alloc (.cells #[.int .u32 1779033703, .int .u32 3144134277, .int .u32 1013904242, .int .u32 2773480762, .int .u32 1359893119, .int .u32 2600822924, .int .u32 528734635, .int .u32 1541459225] 181)
  have br3 := br2.alloc (.cells #[.int .u32 1779033703, .int .u32 3144134277, .int .u32 1013904242, .int .u32 2773480762, .int .u32 1359893119, .int .u32 2600822924, .int .u32 528734635, .int .u32 1541459225] 181)
  have hB3 := hB2.alloc (by have := hB2.size; omega) (.cells #[.int .u32 1779033703, .int .u32 3144134277, .int .u32 1013904242, .int .u32 2773480762, .int .u32 1359893119, .int .u32 2600822924, .int .u32 528734635, .int .u32 1541459225] 181)
  have hvs : gv ≠ W2.heap.size := Nat.ne_of_lt bv2.lt
  clear bh2 br2 bv2 hB2
  go_wp2_with fail
  generalize W2.alloc (.cells #[.int .u32 1779033703, .int .u32 3144134277, .int .u32 1013904242, .int .u32 2773480762, .int .u32 1359893119, .int .u32 2600822924, .int .u32 528734635, .int .u32 1541459225] 181) = W3 at *
  generalize W2.heap.size = gs at *
  refine wp_region_still_tail 2 (by kernel_rfl) (by kernel_rfl) ?_
  simp only [List.take_succ_cons, List.take_zero, List.drop_succ_cons, List.drop_zero]
  repeat still_step
  try refine wpStill_nil ?_
  change wpList _ _ _ _ _ W3.drew
  refine wpList_copy_box rfl _ _ _ _ rfl 61 Tryz.underlying97 info_u32 [.int .u32 1779033703, .int .u32 3144134277, .int .u32 1013904242, .int .u32 2773480762, .int .u32 1359893119, .int .u32 2600822924, .int .u32 528734635, .int .u32 1541459225] (by rfl) (by rfl) bv3.drew rfl (by simp) bs2.drew.srcs (by simp) (by simp [Value.oneCell']) 8 rfl ?_
  intro W4 bv4 hs4
  have bh4 := hs4.box bh3.drew (by omega)
  have br4 := hs4.box br3.drew (by omega)
  have hB4 := hB3.drew.trans (hs4.toBelow (by have := hB3.size; show gh ≤ W3.heap.size; omega) (fun j hj => by omega))
  have bv4 : BoxAt W4 gv 213 [.int .u32 (h0 : Nat), .int .u32 (h1 : Nat), .int .u32 (h2 : Nat), .int .u32 (h3 : Nat), .int .u32 (h4 : Nat), .int .u32 (h5 : Nat), .int .u32 (h6 : Nat), .int .u32 (h7 : Nat), .int .u32 1779033703, .int .u32 3144134277, .int .u32 1013904242, .int .u32 2773480762, .int .u32 1359893119, .int .u32 2600822924, .int .u32 528734635, .int .u32 1541459225] := bv4
  clear bh3 br3 bv3 hB3 hs4 bs2
  try simp only [Act.put, List.setIfInBounds_toArray, List.set_cons_zero, List.set_cons_succ]
  have e1 : bits .xor .u32 1359893119 ((many : Int) % 4294967296) = ((1359893119 ^^^ many % 4294967296 : Nat) : Int) := by
    rw [cast_mod]; exact u32_xor_nat 1359893119 _ (by omega) (Nat.mod_lt _ (by omega))
  have e2 : bits .xor .u32 2600822924 ((many : Int) / 4294967296) = ((2600822924 ^^^ many / 4294967296 % 4294967296 : Nat) : Int) := by
    rw [Nat.mod_eq_of_lt (a := many / 4294967296) (by omega), cast_div]; exact u32_xor_nat 2600822924 _ (by omega) (by omega)
  have q12 := bv4.cell (j := 12) rfl
  have q13 := bv4.cell (j := 13) rfl
  have q14 := bv4.cell (j := 14) rfl
  have f12 := bv4.free 12
  have f13 := bv4.free 13
  have f14 := bv4.free 14
  have e14 : bits .xor .u32 IntKind.u32.max 528734635 = 3766232660 := by decide
  have bv5 := ((bv4.set 12 (.int .u32 ((1359893119 ^^^ many % 4294967296 : Nat) : Int))).set 13 (.int .u32 ((2600822924 ^^^ many / 4294967296 % 4294967296 : Nat) : Int))).set 14 (.int .u32 3766232660)
  have hs5 := (((SameBut.refl (B := fun j => j = gv) W4).setCell ⟨gv, 12, none⟩ (.int .u32 ((1359893119 ^^^ many % 4294967296 : Nat) : Int)) (fun _ => rfl)).setCell ⟨gv, 13, none⟩ (.int .u32 ((2600822924 ^^^ many / 4294967296 % 4294967296 : Nat) : Int)) (fun _ => rfl)).setCell ⟨gv, 14, none⟩ (.int .u32 3766232660) (fun _ => rfl)
  go_wp2_with fail
  clear q12 q13 q14 f12 f13 f14 e1 e2
  have hwcs : (((W4.setCell ⟨gv, 12, none⟩ (.int .u32 ((1359893119 ^^^ many % 4294967296 : Nat) : Int))).setCell ⟨gv, 13, none⟩ (.int .u32 ((2600822924 ^^^ many / 4294967296 % 4294967296 : Nat) : Int))).setCell ⟨gv, 14, none⟩ (.int .u32 3766232660)).heap.size = W4.heap.size := by simp
  generalize ((W4.setCell ⟨gv, 12, none⟩ (.int .u32 ((1359893119 ^^^ many % 4294967296 : Nat) : Int))).setCell ⟨gv, 13, none⟩ (.int .u32 ((2600822924 ^^^ many / 4294967296 % 4294967296 : Nat) : Int))).setCell ⟨gv, 14, none⟩ (.int .u32 3766232660) = wc at *
  have bv6 : BoxAt wc gv 213 ((startV [h0, h1, h2, h3, h4, h5, h6, h7] many true).map U) := by rw [Hsb.out]; exact bv5
  have bh6 := hs5.box bh4 (by omega)
  have br6 := hs5.box br4 (by omega)
  have hB6 : Below gh w wc := hB4.trans (hs5.toBelow (by have := hB4.size; omega) (fun j hj => by omega))
  clear bh4 br4 hB4 hs5 bv4 bv5
  have hvm : gv < wc.heap.size := bv6.lt
  have hhm : gh < wc.heap.size := bh6.lt
  have hrm : gr < wc.heap.size := br6.lt
  have bm7 := BoxAt.new wc [.int .u32 0, .int .u32 0, .int .u32 0, .int .u32 0, .int .u32 0, .int .u32 0, .int .u32 0, .int .u32 0, .int .u32 0, .int .u32 0, .int .u32 0, .int .u32 0, .int .u32 0, .int .u32 0, .int .u32 0, .int .u32 0] 212
  have bv7 := bv6.alloc (.cells #[.int .u32 0, .int .u32 0, .int .u32 0, .int .u32 0, .int .u32 0, .int .u32 0, .int .u32 0, .int .u32 0, .int .u32 0, .int .u32 0, .int .u32 0, .int .u32 0, .int .u32 0, .int .u32 0, .int .u32 0, .int .u32 0] 212)
  have bh7 := bh6.alloc (.cells #[.int .u32 0, .int .u32 0, .int .u32 0, .int .u32 0, .int .u32 0, .int .u32 0, .int .u32 0, .int .u32 0, .int .u32 0, .int .u32 0, .int .u32 0, .int .u32 0, .int .u32 0, .int .u32 0, .int .u32 0, .int .u32 0] 212)
  have br7 := br6.alloc (.cells #[.int .u32 0, .int .u32 0, .int .u32 0, .int .u32 0, .int .u32 0, .int .u32 0, .int .u32 0, .int .u32 0, .int .u32 0, .int .u32 0, .int .u32 0, .int .u32 0, .int .u32 0, .int .u32 0, .int .u32 0, .int .u32 0] 212)
  have hB7 := hB6.alloc (Nat.le_of_lt hhm) (.cells #[.int .u32 0, .int .u32 0, .int .u32 0, .int .u32 0, .int .u32 0, .int .u32 0, .int .u32 0, .int .u32 0, .int .u32 0, .int .u32 0, .int .u32 0, .int .u32 0, .int .u32 0, .int .u32 0, .int .u32 0, .int .u32 0] 212)
  clear bv6 bh6 br6 hB6
  generalize (wc.alloc (.cells #[.int .u32 0, .int .u32 0, .int .u32 0, .int .u32 0, .int .u32 0, .int .u32 0, .int .u32 0, .int .u32 0, .int .u32 0, .int .u32 0, .int .u32 0, .int .u32 0, .int .u32 0, .int .u32 0, .int .u32 0, .int .u32 0] 212)) = W7 at *
  rw [hwcs] at hvm hhm hrm bm7
  clear hwcs
  generalize W4.heap.size = gm at *
  go_loopw [12, 13, 45] (fun _ _ i' wr => ∃ i : Nat, i' = .int .i64 i ∧ i ≤ 16 ∧ BoxAt wr gm 212 (((words b).take i ++ List.replicate (16 - i) 0).map U) ∧ SameBut (fun j => j = gm) W7 wr) (fun _ _ i' _ => 16 - (intOf i').toNat)
  case atStart => exact ⟨0, rfl, by omega, bm7, SameBut.refl _⟩
  case round =>
    obtain ⟨i, rfl, hi, bm, hsm⟩ := hrel
    by_cases hlt : i < 16
    · have hi16 : (i : Int) < 16 := by omega
      go_wp2_with fail
      go_loopw [13, 48] (fun _ k' wx => ∃ k : Nat, k' = .int .i64 k ∧ k ≤ 4 ∧ BoxAt wx gm 212 (((words b).take i ++ Go.Larder.part b i k :: List.replicate (15 - i) 0).map U) ∧ SameBut (fun j => j = gm) W7 wx) (fun _ k' _ => 4 - (intOf k').toNat)
      case atStart => exact ⟨0, rfl, by omega, by rw [show (16 - i) = (15 - i) + 1 by omega, List.replicate_succ] at bm; exact bm, hsm⟩
      case round =>
        clear bm hsm
        obtain ⟨k, rfl, hk, bm, hsm⟩ := hrel
        obtain ⟨wo, hwo⟩ : ∃ wo, wo = wr := ⟨_, rfl⟩
        subst hwo
        by_cases hk4 : k < 4
        · have hbx := Hbl.out
          have hwl : ((words b).take i).length = i := by rw [List.length_take]; simp [words]; omega
          have cm : wo.cell? ⟨gm, i, none⟩ = some (.int .u32 ((Go.Larder.part b i k : Nat) : Int)) := bm.cell (j := i) (by
            rw [List.getElem?_map, List.getElem?_append_right (by omega), hwl, Nat.sub_self]; rfl)
          have fm := bm.free i
          have hBw := hB7.trans (hsm.toBelow (by have := hB7.size; omega) (fun j hj => by omega))
          have hx : b[4 * i + k]? = some (b.getD (4 * i + k) 0) := by rw [List.getD_eq_getElem?_getD, List.getElem?_eq_getElem (by omega)]; rfl
          obtain ⟨g, off, hA, hgb, hc0⟩ := (hr.below hBw (Nat.le_refl _)).at_B hx
          subst hA
          have hx8 := byteN_lt b (4 * i + k)
          have HxB := Lib.hid (show (b.getD (4 * i + k) 0).toNat = byteN b (4 * i + k) from rfl)
          rw [HxB.out] at hc0
          have hpl := part_lt b i k
          have Hps := Lib.hid (show Go.Larder.part b i (k + 1) = Go.Larder.part b i k ||| (byteN b (4 * i + k) * 2 ^ (8 * k)) % 4294967296 from rfl)
          clear hx hbx
          generalize byteN b (4 * i + k) = x at *
          generalize Go.Larder.part b i k = p at *
          obtain rfl | rfl | rfl | rfl : k = 0 ∨ k = 1 ∨ k = 2 ∨ k = 3 := by omega
          · have hw1 : IntKind.i64.wrap (4 * (i : Int)) = 4 * (i : Int) := by simp [IntKind.wrap, IntKind.bits, IntKind.signed]; omega
            have ht : (4 * (i : Int)).toNat = 4 * i := by omega
            have hg0 : (0 : Int) ≤ 4 * (i : Int) := by omega
            have hg1 : 4 * (i : Int) < 64 := by omega
            have hi0 : (0 : Int) ≤ i := by omega
            try simp only [Nat.add_zero] at hc0
            have hw3 : IntKind.i64.wrap (8 * 0) = 0 := by decide
            have hw4 : IntKind.i64.wrap 0 = 0 := by decide
            have hor : bits .or .u32 (p : Int) (x : Int) = ((p ||| (x * 2 ^ (8 * 0)) % 4294967296 : Nat) : Int) := by
              rw [show (x : Int) = ((x * 2 ^ (8 * 0) % 4294967296 : Nat) : Int) from by rw [Nat.mod_eq_of_lt (by omega)]; omega]
              exact u32_or_nat _ _ hpl (Nat.mod_lt _ (by omega))
            obtain ⟨pn, hpn⟩ : ∃ pn : Nat, (p ||| (x * 2 ^ (8 * 0)) % 4294967296) = pn := ⟨_, rfl⟩
            rw [hpn] at hor
            have Hps2 := Lib.hid (Hps.out.trans hpn)
            clear hpn
            go_wp2_with fail
            refine wp_region_still_tail 16 (by kernel_rfl) (by kernel_rfl) ?_
            simp only [List.take_succ_cons, List.take_zero, List.drop_succ_cons, List.drop_zero]
            repeat still_step
            try refine wpStill_nil ?_
            change wpList _ _ _ _ _ wo.drew
            go_wp2_with fail
            go_roundw
            case rel => exact ⟨0 + 1, by go_num, by omega, by rw [Hps2.out, ← set_mid hwl]; exact (box_set bm i pn).drew, (hsm.setCell ⟨gm, i, none⟩ _ (fun _ => rfl)).drew⟩
            case measure => simp [intOf]
          · have hw1 : IntKind.i64.wrap (4 * (i : Int)) = 4 * (i : Int) := by simp [IntKind.wrap, IntKind.bits, IntKind.signed]; omega
            have hw2 : IntKind.i64.wrap (4 * (i : Int) + 1) = 4 * (i : Int) + 1 := by simp [IntKind.wrap, IntKind.bits, IntKind.signed]; omega
            have ht : (4 * (i : Int) + 1).toNat = 4 * i + 1 := by omega
            have hg0 : (0 : Int) ≤ 4 * (i : Int) + 1 := by omega
            have hg1 : 4 * (i : Int) + 1 < 64 := by omega
            have hi0 : (0 : Int) ≤ i := by omega
            try simp only [Nat.add_zero] at hc0
            have hw3 : IntKind.i64.wrap (8 * 1) = 8 := by decide
            have hw4 : IntKind.i64.wrap 8 = 8 := by decide
            have hor : bits .or .u32 (p : Int) ((x : Int) * 256) = ((p ||| (x * 2 ^ (8 * 1)) % 4294967296 : Nat) : Int) := by
              rw [show ((x : Int) * 256) = ((x * 2 ^ (8 * 1) % 4294967296 : Nat) : Int) from by rw [Nat.mod_eq_of_lt (by omega)]; omega]
              exact u32_or_nat _ _ hpl (Nat.mod_lt _ (by omega))
            obtain ⟨pn, hpn⟩ : ∃ pn : Nat, (p ||| (x * 2 ^ (8 * 1)) % 4294967296) = pn := ⟨_, rfl⟩
            rw [hpn] at hor
            have Hps2 := Lib.hid (Hps.out.trans hpn)
            clear hpn
            go_wp2_with fail
            refine wp_region_still_tail 16 (by kernel_rfl) (by kernel_rfl) ?_
            simp only [List.take_succ_cons, List.take_zero, List.drop_succ_cons, List.drop_zero]
            repeat still_step
            try refine wpStill_nil ?_
            change wpList _ _ _ _ _ wo.drew
            go_wp2_with fail
            go_roundw
            case rel => exact ⟨1 + 1, by go_num, by omega, by rw [Hps2.out, ← set_mid hwl]; exact (box_set bm i pn).drew, (hsm.setCell ⟨gm, i, none⟩ _ (fun _ => rfl)).drew⟩
            case measure => simp [intOf]
          · have hw1 : IntKind.i64.wrap (4 * (i : Int)) = 4 * (i : Int) := by simp [IntKind.wrap, IntKind.bits, IntKind.signed]; omega
            have hw2 : IntKind.i64.wrap (4 * (i : Int) + 2) = 4 * (i : Int) + 2 := by simp [IntKind.wrap, IntKind.bits, IntKind.signed]; omega
            have ht : (4 * (i : Int) + 2).toNat = 4 * i + 2 := by omega
            have hg0 : (0 : Int) ≤ 4 * (i : Int) + 2 := by omega
            have hg1 : 4 * (i : Int) + 2 < 64 := by omega
            have hi0 : (0 : Int) ≤ i := by omega
            try simp only [Nat.add_zero] at hc0
            have hw3 : IntKind.i64.wrap (8 * 2) = 16 := by decide
            have hw4 : IntKind.i64.wrap 16 = 16 := by decide
            have hor : bits .or .u32 (p : Int) ((x : Int) * 65536) = ((p ||| (x * 2 ^ (8 * 2)) % 4294967296 : Nat) : Int) := by
              rw [show ((x : Int) * 65536) = ((x * 2 ^ (8 * 2) % 4294967296 : Nat) : Int) from by rw [Nat.mod_eq_of_lt (by omega)]; omega]
              exact u32_or_nat _ _ hpl (Nat.mod_lt _ (by omega))
            obtain ⟨pn, hpn⟩ : ∃ pn : Nat, (p ||| (x * 2 ^ (8 * 2)) % 4294967296) = pn := ⟨_, rfl⟩
            rw [hpn] at hor
            have Hps2 := Lib.hid (Hps.out.trans hpn)
            clear hpn
            go_wp2_with fail
            refine wp_region_still_tail 16 (by kernel_rfl) (by kernel_rfl) ?_
            simp only [List.take_succ_cons, List.take_zero, List.drop_succ_cons, List.drop_zero]
            repeat still_step
            try refine wpStill_nil ?_
            change wpList _ _ _ _ _ wo.drew
            go_wp2_with fail
            go_roundw
            case rel => exact ⟨2 + 1, by go_num, by omega, by rw [Hps2.out, ← set_mid hwl]; exact (box_set bm i pn).drew, (hsm.setCell ⟨gm, i, none⟩ _ (fun _ => rfl)).drew⟩
            case measure => simp [intOf]
          · have hw1 : IntKind.i64.wrap (4 * (i : Int)) = 4 * (i : Int) := by simp [IntKind.wrap, IntKind.bits, IntKind.signed]; omega
            have hw2 : IntKind.i64.wrap (4 * (i : Int) + 3) = 4 * (i : Int) + 3 := by simp [IntKind.wrap, IntKind.bits, IntKind.signed]; omega
            have ht : (4 * (i : Int) + 3).toNat = 4 * i + 3 := by omega
            have hg0 : (0 : Int) ≤ 4 * (i : Int) + 3 := by omega
            have hg1 : 4 * (i : Int) + 3 < 64 := by omega
            have hi0 : (0 : Int) ≤ i := by omega
            try simp only [Nat.add_zero] at hc0
            have hw3 : IntKind.i64.wrap (8 * 3) = 24 := by decide
            have hw4 : IntKind.i64.wrap 24 = 24 := by decide
            have hor : bits .or .u32 (p : Int) ((x : Int) * 16777216) = ((p ||| (x * 2 ^ (8 * 3)) % 4294967296 : Nat) : Int) := by
              rw [show ((x : Int) * 16777216) = ((x * 2 ^ (8 * 3) % 4294967296 : Nat) : Int) from by rw [Nat.mod_eq_of_lt (by omega)]; omega]
              exact u32_or_nat _ _ hpl (Nat.mod_lt _ (by omega))
            obtain ⟨pn, hpn⟩ : ∃ pn : Nat, (p ||| (x * 2 ^ (8 * 3)) % 4294967296) = pn := ⟨_, rfl⟩
            rw [hpn] at hor
            have Hps2 := Lib.hid (Hps.out.trans hpn)
            clear hpn
            go_wp2_with fail
            refine wp_region_still_tail 16 (by kernel_rfl) (by kernel_rfl) ?_
            simp only [List.take_succ_cons, List.take_zero, List.drop_succ_cons, List.drop_zero]
            repeat still_step
            try refine wpStill_nil ?_
            change wpList _ _ _ _ _ wo.drew
            go_wp2_with fail
            go_roundw
            case rel => exact ⟨3 + 1, by go_num, by omega, by rw [Hps2.out, ← set_mid hwl]; exact (box_set bm i pn).drew, (hsm.setCell ⟨gm, i, none⟩ _ (fun _ => rfl)).drew⟩
            case measure => simp [intOf]
        · obtain rfl : k = 4 := by omega
          go_wp2_with fail
          go_roundw
          case rel => exact ⟨i + 1, by go_num, by omega, by rw [words_step b hlt] at bm; exact bm, hsm⟩
          case measure => simp [intOf]; omega
    · obtain rfl : i = 16 := by omega
      rw [words_all] at bm
      have hB8 := hB7.trans (hsm.toBelow (by have := hB7.size; omega) (fun j hj => by omega))
      have bv8 := hsm.box bv7 (by omega)
      have bh8 := hsm.box bh7 (by omega)
      have br8 := hsm.box br7 (by omega)
      have hmb := bm.lt
      have hW9b := hB8.size
      clear bm7 bv7 bh7 br7 hB7 hsm
      obtain ⟨V, hV⟩ : ∃ V, allGo b sigN (startV [h0, h1, h2, h3, h4, h5, h6, h7] many true) = V := ⟨_, rfl⟩
      have HV := Lib.hid hV
      have hVok : OkV 16 V := by rw [← hV]; exact hsv.allGo b sigN
      have HR := Lib.hid (Hst.out V hV)
      have hsv2 := hsv
      generalize startV [h0, h1, h2, h3, h4, h5, h6, h7] many true = v0 at *
      clear hV
      have hli := fun W => w_lines W
      obtain ⟨SG, hSG⟩ : ∃ SG, (sigN.flatten.map U8).toArray = SG := ⟨_, rfl⟩
      rw [hSG] at hli
      have hix : ∀ (r : Nat) (l : List Nat), sigN[r]? = some l → ∀ W, (Instr.index 217 (.agg SG) (.int .i64 (r : Int))).run Tryz.prog W = .ok (.agg (l.map U8).toArray) W := by
        subst hSG
        exact index_lines
      clear hSG
      go_wp2_with (first
        | (refine wpList_build (t := 215) rfl _ rfl (by kernel_rfl) ?_)
        | (refine wpList_store_row (ty := 215) rfl _ _ rfl _ _ rfl rfl 215 _ (heap_alloc_new _ _) (by kernel_rfl) (by kernel_rfl) (by kernel_rfl) ?_))
      refine calls_at (fun W' => BoxAt W' wr.heap.size 215 plV ∧ SameBut (fun _ => False) wr W') ⟨box_built (heap_alloc_new _ _) (by kernel_rfl), same_row _ _ _⟩ ?_
      rintro W9 ⟨bp9, hs9⟩
      refine (hli _).mono ?_
      rintro e W10 ⟨rfl, hb10⟩
      have bm10 := (hs9.box bm (fun h => h)).keep hb10
      have bv10 := (hs9.box bv8 (fun h => h)).keep hb10
      have bh10 := (hs9.box bh8 (fun h => h)).keep hb10
      have br10 := (hs9.box br8 (fun h => h)).keep hb10
      have bp10 := bp9.keep hb10
      have hB10 : Below gh w W10 := (hB8.trans (hs9.toBelow (by omega) (fun _ _ h => h))).trans (hb10.mono (by have := hs9.size; omega))
      have hpv : gv ≠ wr.heap.size := Nat.ne_of_lt bv8.lt
      clear bm bv8 bh8 br8 hB8 bp9 hs9 hb10
      generalize wr.heap.size = gp at *
      obtain ⟨PL, hPL⟩ : ∃ PL, plV = PL := ⟨_, rfl⟩
      have hpl : PL.length = 32 := by rw [← hPL]; exact plV_len
      have hpx : ∀ (i : Nat), i < 8 → ∀ W, (Instr.index 215 (.agg PL.toArray) (.int .i64 (i : Int))).run Tryz.prog W = .ok (.agg #[.int .i64 ((plA i : Nat) : Int), .int .i64 ((plB i : Nat) : Int), .int .i64 ((Go.Larder.plC i : Nat) : Int), .int .i64 ((plD i : Nat) : Int)]) W := by
        rw [← hPL]; exact index_places
      rw [hPL] at bp10
      have Hpl := Lib.hid hpl
      clear hPL hpl
      go_wp2_with fail
      go_loopw [16, 17, 18, 79] (fun _ _ _ r' wx => ∃ (r : Nat) (v : List Nat), r' = .int .i64 r ∧ r ≤ 10 ∧ OkV 16 v ∧ Hid (allGo b (sigN.drop r) v = V) ∧ BoxAt wx gv 213 (v.map U) ∧ SameBut (fun j => j = gv) W10 wx) (fun _ _ _ r' _ => 10 - (intOf r').toNat)
      case atStart => exact ⟨0, v0, rfl, by omega, hsv2, HV, bv10, SameBut.refl _⟩
      case round =>
        obtain ⟨r, v, rfl, hr10, hvo, hgo, bv, hsm⟩ := hrel
        obtain ⟨wq, hwq⟩ : ∃ wq, wq = wr := ⟨_, rfl⟩
        subst hwq
        by_cases hlt : r < 10
        · obtain ⟨l, hl, hd⟩ := drop_step (l := sigN) (show r < sigN.length from hlt)
          have hlk := sig_ok l (List.mem_of_getElem? hl)
          have hix2 := hix r l hl
          have Hgo := Lib.hid (show allGo b (sigN.drop (r + 1)) (lineGo b l 8 0 v) = V from by
            have h := hgo.out
            rw [hd] at h
            exact h)
          have hr0 : (r : Int) < 10 := by omega
          have bp := hsm.box bp10 (fun h => hpv h.symm)
          have bm := hsm.box bm10 (by omega)
          clear hl hgo hd
          have hlk1 := Lib.hid hlk
          clear hlk
          go_upto_region 23 with (refine wpList_store_row (ty := 216) rfl _ _ rfl _ _ rfl rfl 216 _ (heap_alloc_new _ _) (st_size hlk1.out.1) (st_old hlk1.out.1) (st_one l) ?_)
          simp only [Act.put]
          have bl := box_built (heap_alloc_new wq (.cells #[.int .u8 0, .int .u8 0, .int .u8 0, .int .u8 0, .int .u8 0, .int .u8 0, .int .u8 0, .int .u8 0, .int .u8 0, .int .u8 0, .int .u8 0, .int .u8 0, .int .u8 0, .int .u8 0, .int .u8 0, .int .u8 0] 216)) (rfl : (l.map U8).toArray = (l.map U8).toArray)
          have hsl := same_row wq (.cells #[.int .u8 0, .int .u8 0, .int .u8 0, .int .u8 0, .int .u8 0, .int .u8 0, .int .u8 0, .int .u8 0, .int .u8 0, .int .u8 0, .int .u8 0, .int .u8 0, .int .u8 0, .int .u8 0, .int .u8 0, .int .u8 0] 216) (l.map U8).toArray
          have bp2 := hsl.box bp (fun h => h)
          have bm2 := hsl.box bm (fun h => h)
          have bv2 := hsl.box bv (fun h => h)
          have hlv : wq.heap.size ≠ gv := Nat.ne_of_gt bv.lt
          have hsl2 : SameBut (fun j => j = gv) W10 ((wq.alloc (.cells #[.int .u8 0, .int .u8 0, .int .u8 0, .int .u8 0, .int .u8 0, .int .u8 0, .int .u8 0, .int .u8 0, .int .u8 0, .int .u8 0, .int .u8 0, .int .u8 0, .int .u8 0, .int .u8 0, .int .u8 0, .int .u8 0] 216)).setRow wq.heap.size (l.map U8).toArray) := hsm.trans hsl (fun _ _ h => h.elim)
          clear bp bm bv hsl hsm
          generalize ((wq.alloc (.cells #[.int .u8 0, .int .u8 0, .int .u8 0, .int .u8 0, .int .u8 0, .int .u8 0, .int .u8 0, .int .u8 0, .int .u8 0, .int .u8 0, .int .u8 0, .int .u8 0, .int .u8 0, .int .u8 0, .int .u8 0, .int .u8 0] 216)).setRow wq.heap.size (l.map U8).toArray) = Wl at *
          generalize wq.heap.size = gl at *
          have hszP : ((Tryz.prog).info? 215).map (·.size) = some PL.toArray.size := by rw [List.size_toArray, Hpl.out]; kernel_rfl
          refine wp_region_lit ?_
          refine wpList_load_row (ty := 215) rfl _ rfl gp rfl 215 PL.toArray (0, 0) _ bp2 Tryz.underlying215 rfl hszP ?_
          simp only [Act.put, List.setIfInBounds_toArray, List.set_cons_zero, List.set_cons_succ]
          go_wp2_with fail
          go_loopw [17, 18, 83] (fun _ _ i' wx => ∃ (i : Nat) (v : List Nat), i' = .int .i64 i ∧ i ≤ 8 ∧ OkV 16 v ∧ Hid (allGo b (sigN.drop (r + 1)) (lineGo b l (8 - i) i v) = V) ∧ BoxAt wx gv 213 (v.map U) ∧ SameBut (fun j => j = gv) Wl wx) (fun _ _ i' _ => 8 - (intOf i').toNat)
          case atStart => exact ⟨0, v, rfl, by omega, hvo, Hgo, bv2, SameBut.refl _⟩
          case round =>
            clear bv2 hvo Hgo
            obtain ⟨i, v, rfl, hi8, hvo, hgo, bv, hsm2⟩ := hrel
            obtain ⟨wz, hwz⟩ : ∃ wz, wz = wr := ⟨_, rfl⟩
            subst hwz
            by_cases hlt8 : i < 8
            · have hi0 : (i : Int) < 8 := by omega
              have hpi := hpx i hlt8
              clear hpx
              have hll := hlk1.out
              have hg0 : l[2 * i]? = some (l.getD (2 * i) 0) := by rw [List.getD_eq_getElem?_getD, List.getElem?_eq_getElem (by omega)]; rfl
              have hg1 : l[2 * i + 1]? = some (l.getD (2 * i + 1) 0) := by rw [List.getD_eq_getElem?_getD, List.getElem?_eq_getElem (by omega)]; rfl
              have bl3 := (hsm2.box bl hlv).alloc (.cells #[.int .i64 ((plA i : Nat) : Int), .int .i64 ((plB i : Nat) : Int), .int .i64 ((Go.Larder.plC i : Nat) : Int), .int .i64 ((plD i : Nat) : Int)] 214)
              have bm3 := (hsm2.box bm2 (by omega)).alloc (.cells #[.int .i64 ((plA i : Nat) : Int), .int .i64 ((plB i : Nat) : Int), .int .i64 ((Go.Larder.plC i : Nat) : Int), .int .i64 ((plD i : Nat) : Int)] 214)
              have cl0 : (wz.alloc (.cells #[.int .i64 ((plA i : Nat) : Int), .int .i64 ((plB i : Nat) : Int), .int .i64 ((Go.Larder.plC i : Nat) : Int), .int .i64 ((plD i : Nat) : Int)] 214)).cell? ⟨gl, 2 * i, none⟩ = some (.int .u8 ((l.getD (2 * i) 0 : Nat) : Int)) := bl3.cell (by rw [List.getElem?_map, hg0]; rfl)
              have cl1 : (wz.alloc (.cells #[.int .i64 ((plA i : Nat) : Int), .int .i64 ((plB i : Nat) : Int), .int .i64 ((Go.Larder.plC i : Nat) : Int), .int .i64 ((plD i : Nat) : Int)] 214)).cell? ⟨gl, 2 * i + 1, none⟩ = some (.int .u8 ((l.getD (2 * i + 1) 0 : Nat) : Int)) := bl3.cell (by rw [List.getElem?_map, hg1]; rfl)
              have hx0 : l.getD (2 * i) 0 < 16 := hll.2 _ (List.mem_of_getElem? hg0)
              have hx1 : l.getD (2 * i + 1) 0 < 16 := hll.2 _ (List.mem_of_getElem? hg1)
              have cm0 : (wz.alloc (.cells #[.int .i64 ((plA i : Nat) : Int), .int .i64 ((plB i : Nat) : Int), .int .i64 ((Go.Larder.plC i : Nat) : Int), .int .i64 ((plD i : Nat) : Int)] 214)).cell? ⟨gm, l.getD (2 * i) 0, none⟩ = some (.int .u32 ((wd b (l.getD (2 * i) 0) : Nat) : Int)) := bm3.cell (by rw [List.getElem?_map, words_at b hx0]; rfl)
              have cm1 : (wz.alloc (.cells #[.int .i64 ((plA i : Nat) : Int), .int .i64 ((plB i : Nat) : Int), .int .i64 ((Go.Larder.plC i : Nat) : Int), .int .i64 ((plD i : Nat) : Int)] 214)).cell? ⟨gm, l.getD (2 * i + 1) 0, none⟩ = some (.int .u32 ((wd b (l.getD (2 * i + 1) 0) : Nat) : Int)) := bm3.cell (by rw [List.getElem?_map, words_at b hx1]; rfl)
              have HM := Lib.hid (show mixAt b l i v = mixV v (plA i) (plB i) (Go.Larder.plC i) (plD i) (wd b (l.getD (2 * i) 0)) (wd b (l.getD (2 * i + 1) 0)) from rfl)
              have hpa : plA i < 16 := by unfold plA; omega
              have hpb : plB i < 16 := by unfold plB; omega
              have hpc : Go.Larder.plC i < 16 := by unfold Go.Larder.plC; omega
              have hpd : plD i < 16 := by unfold plD; omega
              have hmx := fun W hW => w_mix gv v hvo (plA i) (plB i) (Go.Larder.plC i) (plD i) (wd b (l.getD (2 * i) 0)) (wd b (l.getD (2 * i + 1) 0)) hpa hpb hpc hpd (wd_lt b _) (wd_lt b _) W hW
              have Hv2 := Lib.hid (hvo.mixAt b l i)
              have Hgo2 := Lib.hid (show allGo b (sigN.drop (r + 1)) (lineGo b l (8 - (i + 1)) (i + 1) (mixAt b l i v)) = V from by
                have h := hgo.out
                rw [show 8 - i = (8 - (i + 1)) + 1 from by omega] at h
                exact h)
              generalize mixAt b l i v = v2 at *
              generalize l.getD (2 * i) 0 = x0 at *
              generalize l.getD (2 * i + 1) 0 = x1 at *
              generalize wd b x0 = y0 at *
              generalize wd b x1 = y1 at *
              generalize plA i = pa at *
              generalize plB i = pb at *
              generalize Go.Larder.plC i = pc at *
              generalize plD i = pd at *
              have hw1 : IntKind.i64.wrap (2 * (i : Int)) = 2 * (i : Int) := by simp [IntKind.wrap, IntKind.bits, IntKind.signed]; omega
              have hw2 : IntKind.i64.wrap (2 * (i : Int) + 1) = 2 * (i : Int) + 1 := by simp [IntKind.wrap, IntKind.bits, IntKind.signed]; omega
              have ht1 : (2 * (i : Int)).toNat = 2 * i := by omega
              have ht2 : (2 * (i : Int) + 1).toNat = 2 * i + 1 := by omega
              have hc1 : 2 * (i : Int) < 16 := by omega
              have hc2 : 2 * (i : Int) + 1 < 16 := by omega
              have hc3 : (0 : Int) ≤ 2 * (i : Int) := by omega
              have hc4 : (0 : Int) ≤ 2 * (i : Int) + 1 := by omega
              have hc5 : (x0 : Int) < 16 := by omega
              have hc6 : (x1 : Int) < 16 := by omega
              have ba := BoxAt.new wz [.int .i64 (pa : Nat), .int .i64 (pb : Nat), .int .i64 (pc : Nat), .int .i64 (pd : Nat)] 214
              have q0 := ba.cell (j := 0) rfl
              have q1 := ba.cell (j := 1) rfl
              have q2 := ba.cell (j := 2) rfl
              have q3 := ba.cell (j := 3) rfl
              have bv3 := (bv.alloc (.cells #[.int .i64 (pa : Nat), .int .i64 (pb : Nat), .int .i64 (pc : Nat), .int .i64 (pd : Nat)] 214))
              have hsm3 := (hsm2.alloc (.cells #[.int .i64 (pa : Nat), .int .i64 (pb : Nat), .int .i64 (pc : Nat), .int .i64 (pd : Nat)] 214))
              clear hg0 hg1 hll hgo bl3 bm3 ba
              go_upto_region 26 with fail
              generalize (wz.alloc (.cells #[.int .i64 (pa : Nat), .int .i64 (pb : Nat), .int .i64 (pc : Nat), .int .i64 (pd : Nat)] 214)) = wy at *
              generalize wz.heap.size = ga at *
              refine wp_region_still_tail 14 (by kernel_rfl) (by kernel_rfl) ?_
              simp only [List.take_succ_cons, List.take_zero, List.drop_succ_cons, List.drop_zero]
              repeat still_step
              try refine wpStill_nil ?_
              change wpList _ _ _ _ _ wy.drew
              go_wp2_with (go_at_call 215; refine (hmx _ bv3.drew).mono ?_; rintro e w5 ⟨rfl, bv5, hs5⟩)
              go_roundw
              case rel => exact ⟨i + 1, v2, by go_num, by omega, Hv2.out, Hgo2, by rw [HM.out]; exact bv5, hsm3.drew.trans hs5 (fun _ _ h => h)⟩
              case measure => simp [intOf]; omega
            · obtain rfl : i = 8 := by omega
              go_wp2_with fail
              go_roundw
              case rel => exact ⟨r + 1, v, by go_num, by omega, hvo, hgo, bv, hsl2.trans hsm2 (fun _ _ h => h)⟩
              case measure => simp [intOf]; omega
        · obtain rfl : r = 10 := by omega
          have hVe : v = V := hgo.out
          subst hVe
          have bh11 := hsm.box bh10 (by omega)
          have br11 := hsm.box br10 (by omega)
          have hB11 := hB10.trans (hsm.toBelow (by have := hB10.size; omega) (fun j hj => by omega))
          clear bh10 br10 hB10 bv10 bm10 bp10 hsm hgo
          obtain ⟨RR, hRR⟩ : ∃ RR, blockN [h0, h1, h2, h3, h4, h5, h6, h7] b many true = RR := ⟨_, rfl⟩
          have HRb := Lib.hid hRR
          have HRR := Lib.hid (show endGo v 8 0 [h0, h1, h2, h3, h4, h5, h6, h7] = RR from by rw [← hRR]; exact HR.out.symm)
          clear hRR HR HV hli hix hpx hsv hsv2
          go_wp2_with fail
          go_loopw [19, 104] (fun _ i' wx => ∃ (i : Nat) (hl : List Nat), i' = .int .i64 i ∧ i ≤ 8 ∧ OkV 8 hl ∧ Hid (endGo v (8 - i) i hl = RR) ∧ BoxAt wx gh 181 (hl.map U) ∧ SameBut (fun j => j = gh) wq wx) (fun _ i' _ => 8 - (intOf i').toNat)
          case atStart => exact ⟨0, [h0, h1, h2, h3, h4, h5, h6, h7], rfl, by omega, Hh.out, HRR, bh11, SameBut.refl _⟩
          case round =>
            obtain ⟨i, hl, rfl, hi8, hho, hgo, bh, hsm⟩ := hrel
            obtain ⟨wz, hwz⟩ : ∃ wz, wz = wr := ⟨_, rfl⟩
            subst hwz
            by_cases hlt8 : i < 8
            · have hi0 : (i : Int) < 8 := by omega
              have hi1 : (i : Int) + 8 < 16 := by omega
              have hi2 : (0 : Int) ≤ (i : Int) + 8 := by omega
              have hi3 : (i : Int) < 16 := by omega
              have hw1 : IntKind.i64.wrap ((i : Int) + 8) = (i : Int) + 8 := by simp [IntKind.wrap, IntKind.bits, IntKind.signed]; omega
              have ht1 : ((i : Int) + 8).toNat = i + 8 := by omega
              have bv3 := hsm.box bv (by omega)
              have cv := okv_cell hvo bv3 (show i < 16 by omega)
              have cv8 := okv_cell hvo bv3 (show i + 8 < 16 by omega)
              have ch : wz.cell? ⟨gh, i, none⟩ = some (.int .u32 ((hl.getD i 0 : Nat) : Int)) := bh.cell (j := i) (by
                have hil : i < hl.length := by rw [hho.len]; exact hlt8
                rw [List.getElem?_map, List.getD_eq_getElem?_getD, List.getElem?_eq_getElem hil]
                rfl)
              have fh := bh.free i
              have lp := hho.get i
              have lq := hvo.get i
              have lr := hvo.get (i + 8)
              have Hst2 := Lib.hid (show endGo v (8 - (i + 1)) (i + 1) (hl.set i (hl.getD i 0 ^^^ (v.getD i 0 ^^^ v.getD (i + 8) 0))) = RR from by
                have h := hgo.out
                rw [show 8 - i = (8 - (i + 1)) + 1 from by omega] at h
                exact h)
              generalize hl.getD i 0 = p at *
              generalize v.getD i 0 = q at *
              generalize v.getD (i + 8) 0 = s8 at *
              have hx1 : bits .xor .u32 (q : Int) (s8 : Int) = ((q ^^^ s8 : Nat) : Int) := u32_xor_nat _ _ lq lr
              have lqr := xor_lt32 lq lr
              have hx2 : bits .xor .u32 (p : Int) ((q ^^^ s8 : Nat) : Int) = ((p ^^^ (q ^^^ s8) : Nat) : Int) := u32_xor_nat _ _ lp lqr
              have lpq := xor_lt32 lp lqr
              generalize q ^^^ s8 = qs at *
              obtain ⟨pq, hpq⟩ : ∃ pq : Nat, p ^^^ qs = pq := ⟨_, rfl⟩
              rw [hpq] at hx2 lpq Hst2
              clear hpq hgo bv3
              go_wp2_with fail
              refine wp_region_still_tail 13 (by kernel_rfl) (by kernel_rfl) ?_
              simp only [List.take_succ_cons, List.take_zero, List.drop_succ_cons, List.drop_zero]
              repeat still_step
              try refine wpStill_nil ?_
              go_wp2_with fail
              go_roundw
              case rel =>
                (repeat apply Exists.intro)
                refine ⟨?_, rfl⟩
                exact ⟨i + 1, hl.set i pq, by go_num, by omega, hho.set i lpq, Hst2, (box_set bh i pq).drew, (hsm.setCell ⟨gh, i, none⟩ _ (fun _ => rfl)).drew⟩
              case measure => simp [intOf]; omega
            · obtain rfl : i = 8 := by omega
              have hRl : hl = RR := hgo.out
              have br12 := hsm.box br11 (by omega)
              have hB12 := hB11.trans (hsm.toBelow (by have := hB11.size; omega) (fun j hj => by omega))
              subst hRl
              have h8 : (hl.map U).length = 8 := by rw [List.length_map, hho.len]
              have hszH : ((Tryz.prog).info? 181).map (·.size) = some ((hl.map U).toArray).size := by rw [List.size_toArray, h8]; kernel_rfl
              have honeH : ((hl.map U).toArray).all (·.oneCell') = true := by
                simp
                intro x _
                rfl
              have holdH : (#[.int .u32 0, .int .u32 0, .int .u32 0, .int .u32 0, .int .u32 0, .int .u32 0, .int .u32 0, .int .u32 0] : Array Value).size = ((hl.map U).toArray).size := by
                show 8 = _
                rw [List.size_toArray, h8]
              have Hho := Lib.hid hho
              clear h8 hho hgo
              go_upto_region 34 with fail
              refine wp_region_lit ?_
              refine wpList_load_row (ty := 181) rfl _ rfl gh rfl 181 (hl.map U).toArray (0, 0) _ bh Tryz.underlying181 rfl hszH ?_
              refine wpList_store_row rfl 181 _ _ rfl gr (hl.map U).toArray rfl rfl 181 _ br12 hszH holdH honeH ?_
              go_wp2_with fail
              refine bodyPost_ret (results_cell_row (by rfl) _ _ gr 181 (hl.map U).toArray (0, 0) _ (by rfl) (setRow_heap _ _ _ _ _ _ br12) Tryz.underlying181 (by rfl) hszH) rfl ?_
              rw [← HRb.out]
              rw [hgh]
              exact ⟨rfl, below_setRow hB12 (show gh ≤ gr by omega) _⟩
end Go.Proofs.YtemjoiaapfhenaaGreatDoor
end

/- WDgN -/
section
namespace Go.Proofs.YtemjoiaapfhenaaGreatDoor
open Go.RowKit Go.Larder
set_option linter.unusedVariables false
set_option linter.unusedSimpArgs false
theorem w_block (h : List Nat) (hh : OkV 8 h) (b : List UInt8) (hbl : b.length = 64) (A : Option Addr) (c : Nat) (many : Nat) (hm : many < 18446744073709551616) (last : Bool) (w : World) (hr : ReadL encB w w.heap.size A b) :
    Calls Tryz.prog 176 #[.agg (h.map U).toArray, .slice A 64 c, .int .u64 many, .bool last] w fun e w' => e = .returned (.agg ((blockN h b many last).map U).toArray) ∧ Below w.heap.size w w' := by
  cases last
  · exact w_block_false h hh b hbl A c many hm w hr
  · exact w_block_true h hh b hbl A c many hm w hr
/-- a hash that has taken 'all' in -/
structure HashAt (w : World) (gx base : Nat) (all : List UInt8) (h : List Nat) (many : Nat) (rest : List UInt8) (A : Option Addr) (c : Nat) : Prop where
  box : BoxAt w gx 184 (h.map U ++ [.slice A rest.length c, .int .u64 (many : Int)])
  own : OwnW w base 5 A c rest
  dg : DgAt all h many rest
theorem w_DNew (w : World) : Calls Tryz.prog 128 #[] w fun e w' => ∃ g, e = .returned (.pointer (some ⟨g, 0, none⟩)) ∧ w.heap.size ≤ g ∧ HashAt w' g w.heap.size [] startH 0 [] none 0 ∧ Below w.heap.size w w' := by
  have hiv : ∀ W, Calls Tryz.prog 175 #[] W fun e w' => e = .returned (.agg #[.int .u32 1779033703, .int .u32 3144134277, .int .u32 1013904242, .int .u32 2773480762, .int .u32 1359893119, .int .u32 2600822924, .int .u32 528734635, .int .u32 1541459225]) ∧ Below W.heap.size W w' := fun W => w_iv W
  have e0 : bits .xor .u32 1779033703 16842784 = 1795745351 := by decide
  go_enter Tryz.func128, Tryz.ntmps128
  go_wp2_with fail
  refine (hiv _).mono ?_
  rintro e w1 ⟨rfl, hb1⟩
  go_wp2_with fail
  go_ret
  have bx := BoxAt.new (w1.alloc (.cells #[.int .u32 1795745351, .int .u32 3144134277, .int .u32 1013904242, .int .u32 2773480762, .int .u32 1359893119, .int .u32 2600822924, .int .u32 528734635, .int .u32 1541459225] 181)) [.int .u32 1795745351, .int .u32 3144134277, .int .u32 1013904242, .int .u32 2773480762, .int .u32 1359893119, .int .u32 2600822924, .int .u32 528734635, .int .u32 1541459225, .slice none 0 0, .int .u64 0] 184
  rw [World.size_alloc] at bx
  have hB := (hb1.alloc hb1.size (.cells #[.int .u32 1795745351, .int .u32 3144134277, .int .u32 1013904242, .int .u32 2773480762, .int .u32 1359893119, .int .u32 2600822924, .int .u32 528734635, .int .u32 1541459225] 181)).alloc (by simp; have := hb1.size; omega) (.cells #[.int .u32 1795745351, .int .u32 3144134277, .int .u32 1013904242, .int .u32 2773480762, .int .u32 1359893119, .int .u32 2600822924, .int .u32 528734635, .int .u32 1541459225, .slice none 0 0, .int .u64 0] 184)
  exact ⟨w1.heap.size + 1, rfl, by have := hb1.size; omega, ⟨bx, OwnW.nil _ _ _, DgAt.start⟩, hB⟩
end Go.Proofs.YtemjoiaapfhenaaGreatDoor
end
