/- Walk: the reference's Digest. -/
import Derived.Test.YtemjoiaapfhenaaGreatDoorWDgRd
import Derived.Test.YtemjoiaapfhenaaGreatDoorGd00
import Derived.Test.YtemjoiaapfhenaaGreatDoorGd02
import Derived.Deep.DeepCutAuto
import Derived.StillTailTactics
import Derived.Outline
namespace Go.Proofs.YtemjoiaapfhenaaGreatDoor
open Go.RowKit Go.Larder
set_option linter.unusedVariables false
set_option linter.unusedSimpArgs false
set_option maxHeartbeats 40000000 in
set_option maxRecDepth 100000 in
theorem w_DigestR (s : List UInt8) (hs : s.length ≤ 4000000) (w : World) (hA : AS w) :
    Calls Tryz.prog 32 #[S s] w fun e w' => e = .returned (S (digL s)) ∧ Below w.heap.size w w' := by
  have bp := BoxAt.new w [.int .u64 2, .int .u64 3, .int .u64 5, .int .u64 7, .int .u64 11, .int .u64 13, .int .u64 17, .int .u64 19] 75
  have hb0 := (Below.refl w.heap.size w).alloc (Nat.le_refl _) (.cells #[.int .u64 2, .int .u64 3, .int .u64 5, .int .u64 7, .int .u64 11, .int .u64 13, .int .u64 17, .int .u64 19] 75)
  have hsg : ∀ W, AS W → Calls Tryz.prog 95 #[S sgT] W fun e w' => e = .returned (.slice (some ⟨W.heap.size, 0, none⟩) 10 10) ∧ OwnL encS w' W.heap.size 9 (some ⟨W.heap.size, 0, none⟩) 10 sgL ∧ Below W.heap.size W w' := fun W h => by
    have := w_FieldsA sgT (by decide) (by rw [sg_fields]; decide) sg_ascii W h
    rw [sg_fields] at this
    exact this
  go_enter Tryz.func32, Tryz.ntmps32
  go_wp2_with fail
  generalize w.alloc (.cells #[.int .u64 2, .int .u64 3, .int .u64 5, .int .u64 7, .int .u64 11, .int .u64 13, .int .u64 17, .int .u64 19] 75) = W1 at *
  go_loopw [3, 5, 29] (fun v' _ i' wr => ∃ (k : Nat) (iv : List Nat) (A : Option Addr) (c : Nat), i' = .int .i64 k ∧ v' = .slice A iv.length c ∧ k ≤ 8 ∧ iv.length ≤ k ∧ Hid (iv = ivN.take k) ∧ OwnL encU wr w.heap.size 61 A c iv ∧ BoxAt wr w.heap.size 75 [.int .u64 2, .int .u64 3, .int .u64 5, .int .u64 7, .int .u64 11, .int .u64 13, .int .u64 17, .int .u64 19] ∧ Below w.heap.size w wr) (fun _ _ i' _ => 8 - (intOf i').toNat)
  case atStart => exact ⟨0, [], none, 0, rfl, rfl, by omega, by simp, Lib.hid rfl, OwnL.nil _ _ _, bp, hb0⟩
  case round =>
    obtain ⟨k, iv, A, c, rfl, rfl, hk, hil, heq, hown, hbx, hbel⟩ := hrel
    obtain ⟨wo, hwo⟩ : ∃ wo, wo = wr := ⟨_, rfl⟩
    subst hwo
    clear bp hb0
    by_cases hlt : k < 8
    · obtain ⟨p, hp⟩ : ∃ p, primesN[k]? = some p := ⟨_, List.getElem?_eq_getElem hlt⟩
      obtain ⟨hr, hp100⟩ := roots hp
      have hc : wo.cell? ⟨w.heap.size, k, none⟩ = some (.int .u64 (p : Int)) := hbx.cell (by
        have : (primesN.map fun n => Value.int .u64 ((n : Nat) : Int))[k]? = some (.int .u64 (p : Int)) := by rw [List.getElem?_map, hp]; rfl
        exact this)
      have hrt := fun W => w_root p hp100 W
      have Hn := Lib.hid (show iv ++ [rootN p] = ivN.take (k + 1) from by rw [List.take_add_one, hr, heq.out]; rfl)
      generalize rootN p = x at *
      clear hp hr
      have hbz := hbel.size
      go_wp2_with (first | (go_at_call 94; ((with_reducible refine Calls.mono (hrt _) ?_); rintro e w1 ⟨rfl, rfl⟩))
                         | (at_builtin
                            refine wpList_app encU sl_u32D [x] rfl _ _ rfl (by rfl) hown #[.int .u32 (x : Int)] rfl 0 rfl rfl (by omega) (by simp only [maxLen]; omega) hbz ?_
                            intro g3 c3 w3 hown3 hg3 hb3 hbg3))
      have hbx3 := hbx.alloc (.cells #[.int .u32 (x : Int)] 61)
      have hbel3 := hbel.trans hb3
      have hbx4 := BoxAt.apart hown hbx (by decide)
      have hbx5 : BoxAt w3 w.heap.size 75 [.int .u64 2, .int .u64 3, .int .u64 5, .int .u64 7, .int .u64 11, .int .u64 13, .int .u64 17, .int .u64 19] := (hg3.block _ hbx.lt (by
        intro he
        cases A with
        | none => simp [Value.ownBlock] at he
        | some a =>
          obtain ⟨g0, off0, no0⟩ := a
          have h9 := hbx4 _ rfl
          cases off0 <;> cases no0 <;> simp [Value.ownBlock] at he
          all_goals exact h9 he.symm)).trans hbx
      go_roundw
      case rel => exact ⟨k + 1, iv ++ [x], some ⟨g3, 0, none⟩, c3, by go_num, by simp, by omega, by simp; omega, Hn, hown3, hbx5, hbel3⟩
      case measure => simp [intOf]; omega
    · obtain rfl : k = 8 := by omega
      have hA0 := hA.keep hbel
      have hl8 : iv.length = 8 := by rw [heq.out]; rfl
      obtain ⟨gi, rfl, hgi, hgi2⟩ := own_someU hown (by omega)
      obtain rfl : iv = ivN := by rw [heq.out]; rfl
      clear hl8 heq hil
      have hlen : ivN.length = 8 := rfl
      rw [hlen]
      go_wp2_with fail
      refine Calls.mono (hsg _ hA0) ?_
      rintro e W2 ⟨rfl, hs2, hb2⟩
      have hown2 := hown.below hb2 (Nat.le_refl _)
      have hB2 := hbel.trans (hb2.mono hbel.size)
      have hcp := w_CopyU ivN (by decide) (some ⟨gi, 0, none⟩) c W2 hown2.read
      rw [hlen] at hcp
      go_wp2_with fail
      refine Calls.mono hcp ?_
      rintro e W3 ⟨⟨A3, c3, rfl, ho3⟩, hb3⟩
      obtain ⟨gh, rfl, hgh, hgh2⟩ := own_someU ho3 (by decide)
      have hs3 := hs2.below hb3 (Nat.le_refl _)
      have hown3 := hown2.below hb3 (Nat.le_refl _)
      have hB3 := hB2.trans (hb3.mono hB2.size)
      have c0 : W3.cell? ⟨gh, 0, none⟩ = some (.int .u32 1779033703) := RowU.cell ho3 (j := 0) (x := 1779033703) rfl
      have f0 := RowU.free ho3 0
      have ho4 : RowU (W3.setCell ⟨gh, 0, none⟩ (.int .u32 1795745351)) W2.heap.size gh c3 startH := RowU.set ho3 0 1795745351
      have e0 : bits .xor .u32 1779033703 16842784 = 1795745351 := by decide
      have hiv4 : RowU (W3.setCell ⟨gh, 0, none⟩ (.int .u32 1795745351)) w.heap.size gi c ivN := hown3.keep fun a ha => heap_setCell_other _ _ _ _ (by injection ha with ha; subst ha; show gi ≠ gh; have := hb2.size; omega)
      have hs4 : OwnL encS (W3.setCell ⟨gh, 0, none⟩ (.int .u32 1795745351)) wo.heap.size 9 (some ⟨wo.heap.size, 0, none⟩) 10 sgL := hs3.keep fun a ha => heap_setCell_other _ _ _ _ (by injection ha with ha; subst ha; show wo.heap.size ≠ gh; have := (hs2.lt _ rfl).2; simp only at this; omega)
      have hB4 := hB3.setCell (p := ⟨gh, 0, none⟩) (by show w.heap.size ≤ gh; have := hB2.size; omega) (.int .u32 1795745351)
      have hgh0 : w.heap.size ≤ gh := by have := hB2.size; omega
      have hgs0 : w.heap.size ≤ wo.heap.size := hbel.size
      have hgs1 : wo.heap.size < gh := by have := (hs2.lt _ rfl).2; simp only at this; omega
      have hgi1 : gi < gh := by have := hb2.size; omega
      have hghS : gh < (W3.setCell ⟨gh, 0, none⟩ (.int .u32 1795745351)).heap.size := by simpa using hgh2
      have ho5 : RowU (W3.setCell ⟨gh, 0, none⟩ (.int .u32 1795745351)) gh gh c3 startH := RowU.up ho4
      clear ho4 ho3 hown3 hs3 hB3 hb3 hcp hown2 hs2 hb2 hB2 hown hbx hbel hA0 hgi2 hgh2 hgh hsg
      go_wp2_with fail
      clear c0 f0 e0
      generalize (W3.setCell ⟨gh, 0, none⟩ (.int .u32 1795745351)) = W4 at *
      generalize wo.heap.size = gs at *
      go_loopw [8] (fun at' wr => ∃ (a : Nat) (h : List Nat), at' = .int .i64 a ∧ a ≤ s.length ∧ OkV 8 h ∧ Hid (digGo h a (s.drop a) = digN s) ∧ RowU wr gh gh c3 h ∧ RowU wr w.heap.size gi c ivN ∧ OwnL encS wr gs 9 (some ⟨gs, 0, none⟩) 10 sgL ∧ Below w.heap.size w wr) (fun at' _ => s.length - (intOf at').toNat)
      case atStart => exact ⟨0, startH, rfl, by omega, startH_ok, Lib.hid (by rw [List.drop_zero]; rfl), ho5, hiv4, hs4, hB4⟩
      case round =>
        clear ho5 hiv4 hs4 hB4 hghS
        obtain ⟨a, h, rfl, ha, hok, hgo, hh, hiv, hsg, hbel⟩ := hrel
        obtain ⟨wa, hwa⟩ : ∃ wa, wa = wr := ⟨_, rfl⟩
        subst hwa
        obtain ⟨blk, hblk⟩ : ∃ blk, (s.drop a).take 64 = blk := ⟨_, rfl⟩
        obtain ⟨lst, hlst⟩ : ∃ lst, decide ((s.length : Int) ≤ (a : Int) + 64) = lst := ⟨_, rfl⟩
        have hbl64 : blk.length ≤ 64 := by rw [← hblk, List.length_take]; omega
        have hbla : a + blk.length ≤ s.length := by rw [← hblk, List.length_take, List.length_drop]; omega
        have Hblk := Lib.hid hblk
        clear hblk
        have Hlst := Lib.hid hlst
        clear hlst
        go_upto_region 12 with fail
        go_cut [9] (fun p' wx => p' = .pointer (some ⟨wa.heap.size, 0, none⟩) ∧ wx = wa.alloc (.cells #[S blk] 9))
        case first =>
          by_cases hl : s.length ≤ a + 64
          · have h1 : (s.length : Int) ≤ (a : Int) + 64 := by omega
            have h2 : (s.length : Int) < (a : Int) + 64 + 1 := by omega
            go_wp2_with fail
            go_meet
            case rel => exact ⟨rfl, by rw [blk_eq s a ha, Hblk.out]⟩
          · have h1 : ¬ (s.length : Int) ≤ (a : Int) + 64 := by omega
            have h2 : (a : Int) + 64 < (s.length : Int) := by omega
            go_wp2_with fail
            go_meet
            case rel => exact ⟨rfl, by rw [blk_eq s a ha, Hblk.out]⟩
        case rest =>
          obtain ⟨rfl, rfl⟩ := hcut
          have bb := BoxAt.new wa [S blk] 9
          have hh1 := hh.alc (.cells #[S blk] 9)
          have hiv1 := hiv.alc (.cells #[S blk] 9)
          have hsg1 := hsg.alc (.cells #[S blk] 9)
          have hbel1 := hbel.alloc hbel.size (.cells #[S blk] 9)
          have hghl := (hh.lt (by rw [hok.len]; omega)).2
          have hbl0 := hbel.size
          generalize hwb : wa.alloc (.cells #[S blk] 9) = wb at *
          clear hwb hh hiv hsg hbel
          generalize hgb : wa.heap.size = gb at *
          clear hgb
          have cb := bb.cell (j := 0) rfl
          have hdl := Hlst.out
          have hsI : (s.length : Int) ≤ 4000000 := by omega
          have haI : (a : Int) + (blk.length : Int) ≤ 4000000 := by omega
          go_upto_region 15 with fail
          clear hdl
          go_cut [] (fun wx => BoxAt wx gb 9 [S (padB blk)] ∧ SameBut (fun j => j = gb) wb wx)
          case first =>
            refine wp_no_else fun K hK => ?_
            refine w_DigPad _ (by kernel_rfl) blk gb wb hbl64 bb _ _ _ _ _ _ _ _ _ _ _ _ _ _ _ _ _ _ _ _ _ _ _ _ _ _ _ _ _ _ _ _ _ _ _ _ _ _ _ _ _ _ _ _ _ _ _ _ _ _ _ _ _ _ _ _ _ _ _ _ _ _ _ _ _ _ _ _ _ _ _ _ _ _ _ _ _ _ _ _ _ _ _ _ _ _ _ _ _ _ _ _ _ _ _ _ _ _ _ _ _ _ _ _ _ _ _ _ _ _ _ _ _ _ _ _ _ _ _ _ _ _ _ _ _ _ _ _ _ _ _ _ _ _ _ _ _ _ _ _ _ _ _ _ _ _ _ _ _ _ _ _ _ _ _ _ _ _ _ _ _ _ _ _ _ _ _ _ _ _ _ _ _ _ _ _ _ _ _ _ _ _ _ _ _ _ _ _ _ _ _ _ _ _ _ _ _ _ _ _ _ _ _ _ _ _ _ _ _ _ _ _ _ _ _ _ _ _ _ _ _ _ _ _ _ _ _ _ _ _ _ _ _ _ _ _ _ _ _ _ _ _ _ K ?_
            intro y67 y68 y69 y70 y71 y72 y73 w' h1 h2
            refine hK _ _ ?_
            clear hK
            clear K
            (try dsimp only)
            repeat go_step
            go_meet
            case rel =>
              first
                | exact ⟨h1, h2⟩
                | ((repeat apply Exists.intro); refine ⟨?_, rfl⟩; exact ⟨h1, h2⟩)
          case rest =>
            obtain ⟨bb2, hsb2⟩ := hcut
            obtain ⟨wd, hwd⟩ : ∃ wd, wd = wc := ⟨_, rfl⟩
            subst hwd
            have hgi2 : gi ≠ gb := by omega
            have hh2 : RowU wd gh gh c3 h := hh1.keep fun a ha => hsb2.block _ (hh1.lt _ ha).2 (by injection ha with ha; subst ha; show ¬ gh = gb; omega)
            have hiv2 : RowU wd w.heap.size gi c ivN := hiv1.keep fun a ha => hsb2.block _ (hiv1.lt _ ha).2 (by injection ha with ha; subst ha; show ¬ gi = gb; omega)
            have hsg2 : OwnL encS wd gs 9 (some ⟨gs, 0, none⟩) 10 sgL := hsg1.keep fun a ha => hsb2.block _ (hsg1.lt _ ha).2 (by injection ha with ha; subst ha; show ¬ gs = gb; omega)
            have hbel2 := hbel1.trans (hsb2.toBelow (N := w.heap.size) hbel1.size (fun j hj => by omega))
            clear hh1 hiv1 hsg1 hbel1 hsb2 cb bb
            obtain ⟨mny, hmny⟩ : ∃ mny, a + blk.length = mny := ⟨_, rfl⟩
            have hmI : (a : Int) + (blk.length : Int) = (mny : Int) := by omega
            rw [hmI]
            have hmnl : mny ≤ 4000000 := by omega
            have hm0 : (mny : Int) / 4294967296 = 0 := by omega
            have hm1 : (mny : Int) % 4294967296 = (mny : Int) := by omega
            have e1 : bits .xor .u32 1359893119 (mny : Int) = ((1359893119 ^^^ mny : Nat) : Int) := u32_xor_nat 1359893119 _ (by omega) (by omega)
            have e2 : bits .xor .u32 2600822924 0 = 2600822924 := by decide
            have Hm := Lib.hid hmny
            clear hmny hmI
            have hcp := w_CopyU h (by rw [hok.len]; decide) (some ⟨gh, 0, none⟩) c3 wd hh2.read
            rw [hok.len] at hcp
            have hl8 := hok.len
            have Hl8 := Lib.hid hl8
            clear hl8
            go_upto_if 93 with (first
              | (go_at_call 96; (with_reducible refine Calls.mono hcp ?_); rintro e w6 ⟨⟨A4, c4, rfl, ho6⟩, hb6⟩; have hiv6 := hiv2.below hb6 (Nat.le_refl _); have hrd := hiv6.read)
              | (at_builtin; refine wpList_app_any encU sl_u32D ivN rfl _ _ rfl ?_ ho6 (by rfl) hrd ?_ ?_ hb6.size ?_
                 · rw [Hl8.out]; rfl
                 · rw [Hl8.out]; decide
                 · rw [Hl8.out]; decide
                 intro A5 c5 w7 ho7 hb7
                 obtain ⟨gv, hgv, hgvb, hgvl⟩ := own_someU ho7 (by rw [List.length_append]; exact Nat.add_pos_right _ (by decide))
                 subst hgv
                 have c12 := RowU.cell ho7 (j := 12) (x := 1359893119) (by rw [List.getElem?_append_right (by rw [Hl8.out]; decide), Hl8.out]; rfl)
                 have f12 := RowU.free ho7 12
                 have c13 := RowU.cell ho7 (j := 13) (x := 2600822924) (by rw [List.getElem?_append_right (by rw [Hl8.out]; decide), Hl8.out]; rfl)
                 have f13 := RowU.free ho7 13
                 have hlE : ((h.length : Nat) : Int) = 8 := by rw [Hl8.out]; rfl
                 have hlN : h.length = 8 := Hl8.out))
            have ho8 := RowU.set (RowU.set ho7 12 (1359893119 ^^^ mny)) 13 2600822924
            have hs8 : SameBut (fun j => wd.heap.size ≤ j) wd ((w7.setCell ⟨gv, 12, none⟩ (.int .u32 ((1359893119 ^^^ mny : Nat) : Int))).setCell ⟨gv, 13, none⟩ (.int .u32 ((2600822924 : Nat) : Int))) :=
              ((Go.Larder.Below.same (hb6.trans hb7)).setCell ⟨gv, 12, none⟩ (.int .u32 ((1359893119 ^^^ mny : Nat) : Int)) (fun _ => hgvb)).setCell ⟨gv, 13, none⟩ (.int .u32 ((2600822924 : Nat) : Int)) (fun _ => hgvb)
            have hsv := Lib.hid (show ∀ l, startV h mny l = if l then (((h ++ ivN).set 12 (1359893119 ^^^ mny)).set 13 2600822924).set 14 (4294967295 - 528734635) else ((h ++ ivN).set 12 (1359893119 ^^^ mny)).set 13 2600822924 from fun l => startV_small h Hl8.out mny hmnl l)
            clear hlE hlN c12 c13 f12 f13 e1 e2 hm0 hm1 ho6 hb6 hb7 hrd hiv6
            clear ho7
            change Code.wp _ _ _ _ ((w7.setCell ⟨gv, 12, none⟩ (.int .u32 ((1359893119 ^^^ mny : Nat) : Int))).setCell ⟨gv, 13, none⟩ (.int .u32 ((2600822924 : Nat) : Int)))
            generalize (w7.setCell ⟨gv, 12, none⟩ (.int .u32 ((1359893119 ^^^ mny : Nat) : Int))).setCell ⟨gv, 13, none⟩ (.int .u32 ((2600822924 : Nat) : Int)) = w8 at *
            go_cut [] (fun wx => RowU wx wd.heap.size gv c5 (startV h mny lst) ∧ SameBut (fun j => j = gv) w8 wx)
            case first =>
              have c14 := RowU.cell ho8 (j := 14) (x := 528734635) (by rw [List.getElem?_set_ne (by decide), List.getElem?_set_ne (by decide), List.getElem?_append_right (by rw [Hl8.out]; decide), Hl8.out]; rfl)
              have f14 := RowU.free ho8 14
              have ho9 := RowU.set ho8 14 (4294967295 - 528734635)
              clear hgo
              cases lst
              · go_wp2_with fail
                go_meet
                case rel => exact ⟨by rw [hsv.out false]; exact ho8, SameBut.refl _⟩
              · go_wp2_with fail
                go_meet
                case rel => exact ⟨by rw [hsv.out true]; exact ho9, (SameBut.refl _).setCell _ _ (fun _ => rfl)⟩
            case rest =>
              obtain ⟨ho9, hs9⟩ := hcut
              have HBf : Below wd.heap.size wd wc := (hs8.trans hs9 (fun j _ hj => by subst hj; exact hgvb)).toBelow (Nat.le_refl _) (fun j hj h => by omega)
              obtain ⟨wf, hwf⟩ : ∃ wf, wf = wc := ⟨_, rfl⟩
              subst hwf
              obtain ⟨V, hV⟩ : ∃ V, allGo (padB blk) sigN (startV h mny lst) = V := ⟨_, rfl⟩
              have HV := Lib.hid hV
              have HV0 := Lib.hid (show ∀ _ : Unit, allGo (padB blk) sigN (startV h mny lst) = V from fun _ => hV)
              have hvok : OkV 16 (startV h mny lst) := hok.startV mny lst
              have hVok : OkV 16 V := by rw [← hV]; exact hvok.allGo _ _
              clear hV hs8 hs9 ho8 hsv
              have hpl := padB_lenD blk hbl64
              have Hpl := Lib.hid hpl
              clear hpl
              have hgbd := bb2.lt
              have hghd := (hh2.lt (by rw [Hl8.out]; decide)).2
              go_wp2_with fail
              go_loopw [103] (fun r' wr => ∃ (r : Nat) (v : List Nat), r' = .int .i64 r ∧ r ≤ 10 ∧ OkV 16 v ∧ Hid (allGo (padB blk) (sigN.drop r) v = V) ∧ RowU wr wd.heap.size gv c5 v ∧ Below wd.heap.size wd wr) (fun r' _ => 10 - (intOf r').toNat)
              case atStart => exact ⟨0, _, rfl, by omega, hvok, HV, ho9, HBf⟩
              case round =>
                clear HV ho9 HBf hvok
                obtain ⟨r, v, rfl, hr10, hvo, hgo3, hv, hB3⟩ := hrel
                obtain ⟨wq, hwq⟩ : ∃ wq, wq = wr := ⟨_, rfl⟩
                subst hwq
                by_cases hlt3 : r < 10
                · refine wp_no_else fun K hK => ?_
                  refine w_DigLine _ (by kernel_rfl) blk V gv gb gs c5 r wd wq Hpl bb2 hsg2 v hlt3 hvo hgo3 hv hB3 _ _ _ _ _ _ _ _ _ _ _ _ _ _ _ _ _ _ _ _ _ _ _ _ _ _ _ _ _ _ _ _ _ _ _ _ _ _ _ _ _ _ _ _ _ _ _ _ _ _ _ _ _ _ _ _ _ _ _ _ _ _ _ _ _ _ _ _ _ _ _ _ _ _ _ _ _ _ _ _ _ _ _ _ _ _ _ _ _ _ _ _ _ _ _ _ _ _ _ _ _ _ _ _ _ _ _ _ _ _ _ _ _ _ _ _ _ _ _ _ _ _ _ _ _ _ _ _ _ _ _ _ _ _ _ _ _ _ _ _ _ _ _ _ _ _ _ _ _ _ _ _ _ _ _ _ _ _ _ _ _ _ _ _ _ _ _ _ _ _ _ _ _ _ _ _ _ _ _ _ _ _ _ _ _ _ _ _ _ _ _ _ _ _ _ _ _ _ _ _ _ _ _ _ _ _ _ _ _ _ _ _ _ _ _ _ _ _ _ _ _ _ _ _ _ _ _ _ _ _ _ _ _ _ _ _ _ _ _  K ?_
                  intro y15 y16 y17 y18 y19 y20 y21 y22 y104 y105 y106 y107 y108 y109 y110 y111 y112 y113 y114 y115 y116 y117 y118 y119 y120 y121 y122 y123 y124 y125 y126 y127 y128 y129 y130 y131 y132 y133 y134 y135 y136 y137 y138 y139 y140 y141 y142 y143 y144 y145 y146 y147 y148 y149 y150 y151 y152 y153 y154 y155 y156 y157 y158 y159 y160 y161 y162 y163 y164 y165 y166 y167 y168 y169 y170 y171 y172 y173 y174 y175 y176 y177 y178 y179 y180 y181 y182 y183 y184 y185 y186 y187 y188 y189 y190 y191 y192 y193 y194 y195 y196 y197 y198 y199 y200 y201 w' v4 hvo4 Hg4 hv4 hB4
                  refine hK _ _ ?_
                  go_roundw
                  case rel =>
                    first
                      | exact ⟨r + 1, v4, by go_num, by omega, hvo4, Hg4, hv4, hB4⟩
                      | ((repeat apply Exists.intro); refine ⟨?_, rfl⟩; exact ⟨r + 1, v4, by go_num, by omega, hvo4, Hg4, hv4, hB4⟩)
                  case measure => simp [intOf]; omega
                · obtain rfl : r = 10 := by omega
                  have hVe : v = V := hgo3.out
                  have Hve := Lib.hid (show ∀ _ : Unit, allGo (padB blk) sigN (startV h mny lst) = v from fun _ => (HV0.out ()).trans hVe.symm)
                  clear hVe HV0 hgo3 Hpl
                  have hh3 := hh2.below hB3 (Nat.le_refl _)
                  have hiv3 := hiv2.below hB3 (Nat.le_refl _)
                  have hsg3 := hsg2.below hB3 (Nat.le_refl _)
                  have hbel3 := hbel2.trans (hB3.mono hbel2.size)
                  have hgv6 := (RowU.lt hv (by rw [hvo.len]; decide)).1
                  obtain ⟨H2, hH2⟩ : ∃ H2, endGo v 8 0 h = H2 := ⟨_, rfl⟩
                  have HH2 := Lib.hid hH2
                  have HH2b := Lib.hid (show ∀ _ : Unit, endGo v 8 0 h = H2 from fun _ => hH2)
                  have hH2o : OkV 8 H2 := by rw [← hH2]; exact OkV.endGo hvo 8 0 hok
                  have Hhh2 := Lib.hid hh2
                  clear hH2 hh2 hiv2 hsg2 hbel2 bb2 hB3
                  go_wp2_with fail
                  go_loopw [204] (fun i' wr => ∃ (i : Nat) (g : List Nat), i' = .int .i64 i ∧ i ≤ 8 ∧ OkV 8 g ∧ Hid (endGo v (8 - i) i g = H2) ∧ RowU wr gh gh c3 g ∧ SameBut (fun j => j = gh) wq wr) (fun i' _ => 8 - (intOf i').toNat)
                  case atStart => exact ⟨0, h, rfl, by omega, hok, HH2, hh3, SameBut.refl _⟩
                  case round =>
                    clear HH2 hh3
                    obtain ⟨i, g, rfl, hi8, hgk, hgo5, hg, hsb5⟩ := hrel
                    obtain ⟨wz, hwz⟩ : ∃ wz, wz = wr := ⟨_, rfl⟩
                    subst hwz
                    by_cases hlt6 : i < 8
                    · obtain ⟨q, p0, p1, x1, x2, hq, hp0, hp1, hx1, hx2, hst, hgk2⟩ := mix4 hgk hvo hlt6
                      have Hg6 := Lib.hid (show endGo v (8 - (i + 1)) (i + 1) (g.set i x2) = H2 from by
                        have h0 := hgo5.out
                        rw [show 8 - i = (8 - (i + 1)) + 1 from by omega] at h0
                        rw [← hst]; exact h0)
                      have hv6 := hsb5.own hv (by intro a ha; injection ha with ha; subst ha; show ¬ gv = gh; omega)
                      have cq := RowU.cell hg hq
                      have cp0 := RowU.cell hv6 hp0
                      have cp1 := RowU.cell hv6 hp1
                      have fq := RowU.free hg i
                      have Hfin := Lib.hid (RowU.set hg.drw i x2)
                      have Hsb6 := Lib.hid ((hsb5.drew).setCell ⟨gh, i, none⟩ (.int .u32 (x2 : Int)) (fun _ => rfl))
                      clear hq hp0 hp1 hst hgo5 hg hv6 hsb5 hv hiv3 hsg3 hbel3 Hhh2
                      go_upto_region 42 with fail
                      have hi0 : (0 : Int) ≤ (i : Int) := Int.natCast_nonneg _
                      have hiI : (i : Int) < 8 := by omega
                      have hi16 : (i : Int) + 8 < 16 := by omega
                      have hi20 : (i : Int) < 16 := by omega
                      have hi17 : (0 : Int) ≤ (i : Int) + 8 := by omega
                      have hi18 : ((i : Int) + 8).toNat = i + 8 := by omega
                      have hi19 : IntKind.i64.wrap ((i : Int) + 8) = (i : Int) + 8 := by simp [IntKind.wrap, IntKind.bits, IntKind.signed]; omega
                      refine wp_region_still_tail 16 (by kernel_rfl) (by kernel_rfl) ?_
                      simp only [List.take_succ_cons, List.take_zero, List.drop_succ_cons, List.drop_zero]
                      repeat still_step
                      try refine wpStill_nil ?_
                      change wpList _ _ _ _ _ wz.drew
                      go_wp2_with fail
                      clear hi0 hiI hi16 hi20 hi17 hi18 hi19 cq cp0 cp1 fq hx1 hx2
                      go_roundw
                      case rel =>
                        first
                        | (show ∃ (_ : Nat) (_ : List Nat), _
                           exact ⟨i + 1, g.set i x2, by go_num, by omega, hgk2, Hg6, Hfin.out, Hsb6.out⟩)
                        | ((repeat apply Exists.intro)
                           refine ⟨?_, rfl⟩
                           exact ⟨i + 1, g.set i x2, by go_num, by omega, hgk2, Hg6, Hfin.out, Hsb6.out⟩)
                      case measure => simp [intOf]; omega
                    · obtain rfl : i = 8 := by omega
                      have hgE : g = H2 := hgo5.out
                      subst hgE
                      have HB8 := hbel3.trans (hsb5.toBelow (N := w.heap.size) hbel3.size (fun j hj h => by omega))
                      have hiv8 := hsb5.own hiv3 (by intro a ha; injection ha with ha; subst ha; show ¬ gi = gh; omega)
                      have hsg8 := hsb5.own hsg3 (by intro a ha; injection ha with ha; subst ha; show ¬ gs = gh; omega)
                      clear hv hiv3 hsg3 hbel3 hsb5 hgo5
                      cases lst
                      · have hdl : a + 64 < s.length := by
                          have := Hlst.out
                          simp at this
                          omega
                        have Hnx := Lib.hid (dig_more Hblk.out hdl Hm.out (Hve.out ()) (HH2b.out ()) hgo.out)
                        have haI2 : IntKind.i64.wrap ((a : Int) + 64) = (a : Int) + 64 := by simp [IntKind.wrap, IntKind.bits, IntKind.signed]; omega
                        go_wp2_with fail
                        go_roundw
                        case rel => exact ⟨a + 64, g, by go_num, by omega, hH2o, Hnx, hg, hiv8, hsg8, HB8⟩
                        case measure => simp [intOf]; omega
                      · have hdl : s.length ≤ a + 64 := by
                          have := Hlst.out
                          simp at this
                          omega
                        have Hfin := Lib.hid (dig_last Hblk.out hdl ha Hm.out (Hve.out ()) (HH2b.out ()) hgo.out)
                        go_wp2_with fail
                        clear hiv8 hsg8
                        go_loopw [24, 227] (fun o' j' wr => ∃ (k : Nat) (out : List UInt8), j' = .int .i64 k ∧ o' = S out ∧ k ≤ 8 ∧ out.length ≤ 4 * k ∧ Hid (out = (g.take k).flatMap le4) ∧ Below wz.heap.size wz wr) (fun _ j' _ => 8 - (intOf j').toNat)
                        case atStart => exact ⟨0, [], rfl, rfl, by omega, by simp, Lib.hid rfl, Below.refl _ _⟩
                        case round =>
                          obtain ⟨k, out, rfl, rfl, hk8, hol, heq, hB9⟩ := hrel
                          obtain ⟨wu, hwu⟩ : ∃ wu, wu = wr := ⟨_, rfl⟩
                          subst hwu
                          by_cases hlt9 : k < 8
                          · obtain ⟨x, hx⟩ : ∃ x, g[k]? = some x := ⟨_, List.getElem?_eq_getElem (by rw [hH2o.len]; exact hlt9)⟩
                            have hxl : x < 4294967296 := hH2o.lt x (List.mem_of_getElem? hx)
                            have cx := RowU.cell (hg.below hB9 (Nat.le_refl _)) hx
                            have Hn := Lib.hid (show out ++ le4 x = (g.take (k + 1)).flatMap le4 from by
                              rw [List.take_add_one, hx, heq.out, List.flatMap_append]; simp)
                            have hkI : (k : Int) < 8 := by omega
                            clear hx heq
                            go_wp2_with fail
                            go_loopw [24, 26, 231] (fun o' x' i' wr => ∃ (m : Nat), i' = .int .i64 m ∧ o' = S (out ++ (le4 x).take m) ∧ x' = .int .u32 ((x / 256 ^ m : Nat) : Int) ∧ m ≤ 4 ∧ Below wz.heap.size wz wr) (fun _ _ i' _ => 4 - (intOf i').toNat)
                            case atStart => exact ⟨0, rfl, by simp, by simp, by omega, hB9⟩
                            case round =>
                              clear hB9 cx
                              obtain ⟨m, rfl, rfl, rfl, hm4, hB10⟩ := hrel
                              obtain ⟨wp, hwp⟩ : ∃ wp, wp = wr := ⟨_, rfl⟩
                              subst hwp
                              by_cases hlt10 : m < 4
                              · have hls := le4_step x hxl m hlt10
                                have hdiv := pow_step x m
                                have hyl : x / 256 ^ m < 4294967296 := Nat.lt_of_le_of_lt (Nat.div_le_self _ _) hxl
                                have hzl : (out ++ (le4 x).take m).length ≤ 100 := by rw [List.length_append, List.length_take]; omega
                                generalize x / 256 ^ m = y at *
                                have Hdiv := Lib.hid hdiv
                                clear hdiv
                                have hchr := fun W => w_chrD (y % 256) (by omega) W
                                rw [show ((y % 256 : Nat) : Int) = (y : Int) % 256 from by omega] at hchr
                                have a1 : ∀ W, (Op.stringOp .add ⟨(out ++ (le4 x).take m).toArray⟩ ⟨([UInt8.ofNat (y % 256)] : List UInt8).toArray⟩).run Tryz.prog W = .ok (.string ⟨((out ++ (le4 x).take m) ++ [UInt8.ofNat (y % 256)]).toArray⟩) W := fun W => run_cat (P := Tryz.prog) _ _ (by omega) (by simp) W
                                rw [List.append_assoc, hls] at a1
                                generalize UInt8.ofNat (y % 256) = b0 at *
                                go_wp2_with (go_at_call 36; (with_reducible refine Calls.mono (hchr _) ?_); rintro e w5 ⟨rfl, hb5⟩)
                                have hB11 := hB10.trans (hb5.mono hB10.size)
                                go_roundw
                                case rel =>
                                  first
                                  | (show ∃ (_ : Nat), _
                                     exact ⟨m + 1, by go_num, rfl, by rw [Hdiv.out]; go_num, by omega, hB11⟩)
                                  | ((repeat apply Exists.intro)
                                     refine ⟨?_, rfl⟩
                                     exact ⟨m + 1, by go_num, rfl, by rw [Hdiv.out]; go_num, by omega, hB11⟩)
                                case measure => simp [intOf]; omega
                              · obtain rfl : m = 4 := by omega
                                go_wp2_with fail
                                go_roundw
                                case rel =>
                                  first
                                  | (show ∃ (_ : Nat) (_ : List UInt8), _
                                     exact ⟨k + 1, out ++ le4 x, by go_num, rfl, by omega, by simp [le4]; omega, Hn, hB10⟩)
                                  | ((repeat apply Exists.intro)
                                     refine ⟨?_, rfl⟩
                                     exact ⟨k + 1, out ++ le4 x, by go_num, rfl, by omega, by simp [le4]; omega, Hn, hB10⟩)
                                case measure => simp [intOf]; omega
                          · obtain rfl : k = 8 := by omega
                            have Hall := Lib.hid (show out = digL s from by rw [heq.out, List.take_of_length_le (by rw [hH2o.len]; omega), Hfin.out]; rfl)
                            go_wp2_with fail
                            go_ret
                            exact ⟨ret_S Hall.out, HB8.trans (hB9.mono HB8.size)⟩
end Go.Proofs.YtemjoiaapfhenaaGreatDoor
