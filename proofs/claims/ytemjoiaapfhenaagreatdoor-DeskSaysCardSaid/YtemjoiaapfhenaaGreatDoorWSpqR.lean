/- Walk: the reference's SpanParse. -/
import Derived.Test.YtemjoiaapfhenaaGreatDoorWWnt
import Derived.Test.YtemjoiaapfhenaaGreatDoorWSpp
import Derived.Test.YtemjoiaapfhenaaGreatDoorGd03
import Derived.Test.YtemjoiaapfhenaaGreatDoorGd07
import Derived.Test.YtemjoiaapfhenaaGreatDoorGd02
import Derived.Test.YtemjoiaapfhenaaGreatDoorGd00
import Derived.Deep.RegionWith
import Derived.Deep.LoopGhost
namespace Go.Proofs.YtemjoiaapfhenaaGreatDoor
open Go.RowKit Go.Larder
set_option linter.unusedVariables false
set_option linter.unusedSimpArgs false
theorem sl_wantR : SlT Tryz.prog 63 109 2 16 := SlT.mk' (z := .agg #[.int .i64 0, .int .i64 0]) Tryz.underlying63 (by kernel_rfl) rfl
theorem spE_one (p : Int × Int) : spE [p] = if isWant p = true then .ok (bytesEq ++ wantS p) else .error 1 := by
  unfold spE checkR spL
  cases h : isWant p <;> simp [h, Lib.join_one]
theorem wOf_no {t : List UInt8} (h : Lib.indexByte t 45 = -1) : wOf t = none := by
  unfold wOf wK
  rw [h, if_neg (by omega)]
theorem wOf_at {t : List UInt8} {k : Nat} (h : Lib.indexByte t 45 = (k : Int)) : wOf t = if isWant (cnt (t.take k) 99999, cnt (t.drop (k + 1)) 99999) = true ∧ wantS (cnt (t.take k) 99999, cnt (t.drop (k + 1)) 99999) = t then some (cnt (t.take k) 99999, cnt (t.drop (k + 1)) 99999) else none := by
  unfold wOf wA wB wK
  rw [h, Int.toNat_natCast]
  by_cases hc : isWant (cnt (t.take k) 99999, cnt (t.drop (k + 1)) 99999) = true ∧ wantS (cnt (t.take k) 99999, cnt (t.drop (k + 1)) 99999) = t
  · rw [if_pos hc, if_pos ⟨by omega, hc⟩]
  · rw [if_neg hc, if_neg (fun h => hc h.2)]
set_option maxHeartbeats 8000000 in
set_option maxRecDepth 100000 in
theorem w_SParseR (s : List UInt8) (hs : s.length ≤ 1048576) (w : World) (hM : ML w) :
    Calls Tryz.prog 34 #[S s] w (SlPost encII 109 w (spnE s)) := by
  have hpf := fun W => w_HasPre s [98, 121, 116, 101, 115, 61] W
  have h0 := Lib.hasPrefix_of_take s [98, 121, 116, 101, 115, 61]
  cases hpx : Lib.hasPrefix s [98, 121, 116, 101, 115, 61]
  · rw [hpx] at hpf h0
    have hne : ¬ s.take 6 = bytesEq := fun h => by
      have hl := congrArg List.length h
      rw [List.length_take] at hl
      simp only [bytesEq, List.length_cons, List.length_nil] at hl h
      simp [h] at h0
      omega
    rw [show spnE s = .error 3 from by unfold spnE; rw [if_neg hne]]
    clear h0
    go_enter Tryz.func34, Tryz.ntmps34
    go_wp2_with (go_at_call 83; with_reducible refine Calls.mono (hpf _) ?_; rintro e w' ⟨rfl, rfl⟩)
    go_ret2
    exact ⟨rfl, Below.refl _ _⟩
  · rw [hpx] at hpf h0
    have h6 : 6 ≤ s.length ∧ s.take 6 = [98, 121, 116, 101, 115, 61] := by simpa using h0
    have hsp : spnE s = (match wAll (spl 44 (s.drop 6)) with
      | none => .error 3
      | some l => if 20 < l.length then .error 2 else .ok l) := by
      unfold spnE
      rw [if_pos (show s.take 6 = bytesEq from h6.2)]
      cases wAll (spl 44 (s.drop 6)) <;> rfl
    rw [hsp]
    have sd := fun w => run_sliceT (P := Tryz.prog) 9 Tryz.underlying9 s 6 (by omega) (by omega) w
    rw [show (6 : Int).toNat = 6 from rfl] at sd
    have hdl : (s.drop 6).length ≤ 1048576 := by rw [List.length_drop]; omega
    clear h0 h6 hsp
    generalize s.drop 6 = t at *
    have hpl := fun W hM => w_Split t [44] (by omega) (by decide) W hM
    rw [split_spl] at hpl
    have hml : ∀ x ∈ spl 44 t, x.length ≤ 1048576 := fun x hx => Nat.le_trans (spl_mem_len hx) hdl
    have hwl : (spl 44 t).length ≤ 1048577 := by have := spl_len 44 t; have := List.count_le_length (a := (44 : UInt8)) (l := t); omega
    generalize spl 44 t = ws at *
    obtain ⟨R, hRR⟩ : ∃ R, (match wAll ws with
      | none => (.error 3 : Except Int (List (Int × Int)))
      | some l => if 20 < l.length then .error 2 else .ok l) = R := ⟨_, rfl⟩
    rw [hRR]
    have HR := Lib.hid hRR
    clear hRR
    go_enter Tryz.func34, Tryz.ntmps34
    go_wp2_with (first
      | (go_at_call 83; with_reducible refine Calls.mono (hpf _) ?_; rintro e w' ⟨rfl, rfl⟩)
      | (go_at_call 8; refine (hpl _ hM).mono ?_; rintro e w1 ⟨rfl, hown0, hb1⟩))
    have hg1 := (hown0.lt _ rfl).2
    have hb1s := hb1.size
    go_loopw [4, 18] (fun o i' wr => ∃ (k : Nat) (acc : List (Int × Int)) (A2 : Option Addr) (c2 : Nat), i' = .int .i64 k ∧ o = .slice A2 acc.length c2 ∧ k ≤ ws.length ∧ acc.length ≤ k ∧
      OwnL encII wr w1.heap.size 109 A2 c2 acc ∧ Below w1.heap.size w1 wr ∧ wAll (ws.take k) = some acc) (fun _ i' _ => ws.length - (intOf i').toNat)
    case atStart => exact ⟨0, [], none, 0, rfl, rfl, by omega, by simp, OwnL.nil _ _ _, Below.refl _ _, by simp [wAll]⟩
    case round =>
      obtain ⟨k, acc, A2, c2, rfl, rfl, hk, hacc, hown, hbel, heq⟩ := hrel
      have hbs := hbel.size
      by_cases hlt : k < ws.length
      · obtain ⟨x, hx, hd⟩ := drop_step hlt
        have hcell := (hbel.cell (p := ⟨w.heap.size, k, none⟩) hg1).trans (hown0.get_S hx)
        have hxl := hml x (List.mem_of_getElem? hx)
        have hwse : ws = ws.take k ++ x :: ws.drop (k + 1) := by rw [← hd, List.take_append_drop]
        have htk : ws.take (k + 1) = ws.take k ++ [x] := by rw [List.take_add_one, hx]; rfl
        have Hbad : Hid (wOf (trim x) = none → R = .error 3) := Lib.hid fun h => by rw [← HR.out, hwse, wAll_bad h]
        have Hgood : Hid (∀ p, wOf (trim x) = some p → wAll (ws.take (k + 1)) = some (acc ++ [p])) := Lib.hid fun p h => by rw [htk]; exact wAll_snoc heq h
        have htr := fun W => w_TrimR x.length x W (Nat.le_refl _) (by omega)
        have htl := trim_lenF x
        clear heq hwse htk hd hx
        generalize trim x = t' at *
        have hix := fun W => c1_Index t' 45 W
        rcases ixb_cases t' 45 with hi | ⟨j, hi⟩
        · rw [hi] at hix
          have HE := Lib.hid (Hbad.out (wOf_no hi))
          clear hi
          go_wp2_with (first
            | (go_at_call 101; with_reducible refine Calls.mono (htr _) ?_; rintro e w2 ⟨rfl, hb2⟩)
            | (go_at_call 71; with_reducible refine Calls.mono (hix _) ?_; rintro e w' ⟨rfl, rfl⟩))
          go_ret2
          rw [HE.out]
          exact ⟨rfl, hb1.trans ((hbel.trans (hb2.mono hbs)).mono hb1s)⟩
        · have hwo := wOf_at hi
          have hjl := (cut1_at hi).2
          rw [hi] at hix
          have sl : ∀ w, (Instr.slice 9 (.string ⟨t'.toArray⟩) none (some (.int .i64 (j : Int))) none).run Tryz.prog w = .ok (.string ⟨(t'.take j).toArray⟩) w := fun w => by
            have := run_sliceU (P := Tryz.prog) 9 Tryz.underlying9 t' (j : Int) (by omega) (by omega) w
            rw [Int.toNat_natCast] at this
            exact this
          have sr : ∀ w, (Instr.slice 9 (.string ⟨t'.toArray⟩) (some (.int .i64 ((j : Int) + 1))) none none).run Tryz.prog w = .ok (.string ⟨(t'.drop (j + 1)).toArray⟩) w := fun w => by
            have := run_sliceT (P := Tryz.prog) 9 Tryz.underlying9 t' ((j : Int) + 1) (by omega) (by omega) w
            rw [show ((j : Int) + 1).toNat = j + 1 from by omega] at this
            exact this
          have l1 : (t'.take j).length ≤ t'.length := by rw [List.length_take]; omega
          have l2 : (t'.drop (j + 1)).length ≤ t'.length := by rw [List.length_drop]; omega
          have hjb : (j : Int) ≤ 140737488351232 := by omega
          have e1 : IntKind.i64.wrap ((j : Int) + 1) = (j : Int) + 1 := IntWalk.i64_in _ ⟨by omega, by omega⟩
          have k1 := fun W => w_count (t'.take j) (by omega) 99999 (by omega) W
          have k2 := fun W => w_count (t'.drop (j + 1)) (by omega) 99999 (by omega) W
          have bd1 := cnt_bd (t'.take j) 99999 (by omega)
          have bd2 := cnt_bd (t'.drop (j + 1)) 99999 (by omega)
          generalize t'.take j = S1 at *
          generalize t'.drop (j + 1) = S2 at *
          generalize cnt S1 99999 = a at *
          generalize cnt S2 99999 = b at *
          obtain ⟨bd10, bd11⟩ := bd1
          obtain ⟨bd20, bd21⟩ := bd2
          clear l1 l2 hjl
          have hSP : ∀ (W : World) (g : Nat), g = W.heap.size → Calls Tryz.prog 102 #[.slice (some ⟨g, 0, none⟩) 1 1] (W.alloc (.cells #[.int .i64 a, .int .i64 b] 109)).drew (StPost (W.alloc (.cells #[.int .i64 a, .int .i64 b] 109)).drew (spE [(a, b)])) := fun W g hg => by
            subst hg
            have hrd : ReadL encII (W.alloc (.cells #[.int .i64 a, .int .i64 b] 109)).drew (W.alloc (.cells #[.int .i64 a, .int .i64 b] 109)).drew.heap.size (some ⟨W.heap.size, 0, none⟩) [(a, b)] := by
              have h := ReadL.lit W #[.int .i64 a, .int .i64 b] 109 [(a, b)] (E := encII) rfl
              rw [← World.size_alloc] at h
              exact h
            exact w_SPrintR [(a, b)] (by simp) _ 1 _ hrd
          rw [spE_one] at hSP
          clear hi
          cases hiw : isWant (a, b)
          · rw [hiw] at hSP hwo
            simp only [Bool.false_eq_true, false_and, if_false] at hSP hwo
            have HE := Lib.hid (Hbad.out hwo)
            clear hwo hiw
            go_wp2_with (first
              | (go_at_call 101; with_reducible refine Calls.mono (htr _) ?_; rintro e w2 ⟨rfl, hb2⟩; have bxx := (BoxAt.new w2 [.int .i64 a, .int .i64 b] 109).drew; have z0 := bxx.cell (j := 0) rfl; have z1 := bxx.cell (j := 1) rfl)
              | (go_at_call 71; with_reducible refine Calls.mono (hix _) ?_; rintro e w' ⟨rfl, rfl⟩))
            go_region_with (first
              | (go_at_call 23; (with_reducible refine Calls.mono (k1 _) ?_); rintro e w' ⟨rfl, rfl⟩)
              | (go_at_call 23; (with_reducible refine Calls.mono (k2 _) ?_); rintro e w' ⟨rfl, rfl⟩))
            all_goals
              go_wp2_with fail
              refine Calls.mono (hSP _ _ (by simp)) ?_
              rintro e w6 ⟨rfl, hb6⟩
              go_wp2_with fail
              go_ret2
              rw [HE.out]
              have hB2 := hb1.trans ((hbel.trans (hb2.mono hbs)).mono hb1s)
              have hB3 := ((hB2.alloc hB2.size (.cells #[.int .i64 a, .int .i64 b] 109)).alloc (Nat.le_trans hB2.size (by simp)) (.cells #[.int .i64 a, .int .i64 b] 109)).drew
              exact ⟨rfl, hB3.trans (hb6.mono hB3.size)⟩
          · rw [hiw] at hSP hwo
            simp only [true_and, if_true] at hSP hwo
            clear hiw
            by_cases hq : wantS (a, b) = t'
            · rw [if_pos hq] at hwo
              have HG := Lib.hid (Hgood.out _ hwo)
              rw [hq] at hSP
              have hq3 : (bytesEq ++ t' == 98 :: 121 :: 116 :: 101 :: 115 :: 61 :: t') = true := beq_iff_eq.2 rfl
              generalize bytesEq ++ t' = u at *
              clear hwo hq
              go_wp2_with (first
                | (go_at_call 101; with_reducible refine Calls.mono (htr _) ?_; rintro e w2 ⟨rfl, hb2⟩; have bxx := (BoxAt.new w2 [.int .i64 a, .int .i64 b] 109).drew; have z0 := bxx.cell (j := 0) rfl; have z1 := bxx.cell (j := 1) rfl)
                | (go_at_call 71; with_reducible refine Calls.mono (hix _) ?_; rintro e w' ⟨rfl, rfl⟩))
              go_region_with (first
                | (go_at_call 23; (with_reducible refine Calls.mono (k1 _) ?_); rintro e w' ⟨rfl, rfl⟩)
                | (go_at_call 23; (with_reducible refine Calls.mono (k2 _) ?_); rintro e w' ⟨rfl, rfl⟩))
              all_goals
                go_wp2_with fail
                refine Calls.mono (hSP _ _ (by simp)) ?_
                rintro e w6 ⟨rfl, hb6⟩
                have b6 := ((BoxAt.new w2 [.int .i64 a, .int .i64 b] 109).alloc (.cells #[.int .i64 a, .int .i64 b] 109)).drew.keep hb6
                have c60 := b6.cell (j := 0) rfl
                have c61 := b6.cell (j := 1) rfl
                have hW0 := ((hb2.alloc hb2.size (.cells #[.int .i64 a, .int .i64 b] 109)).alloc (Nat.le_trans hb2.size (by simp)) (.cells #[.int .i64 a, .int .i64 b] 109)).drew
                have hW := hW0.trans (hb6.mono hW0.size)
                have hWs := hW.size
                have hown6 : OwnL encII w6 w1.heap.size 109 A2 c2 acc := hown.keep fun g hg => hW.block g.block (hown.lt g hg).2
                have hacl : acc.length ≤ 1048577 := by omega
                clear hW0
                go_wp2_with (at_builtin
                             refine wpList_app encII sl_wantR [(a, b)] rfl _ _ rfl rfl hown6 #[.int .i64 a, .int .i64 b] rfl 0 rfl (by first | rfl | (simp [go_sem]; done)) (by omega) (by simp only [maxLen]; omega) (by omega) ?_
                             intro g' c' w7 hown7 hg7 hb7 hbg)
                go_roundw
                case rel => exact ⟨k + 1, acc ++ [(a, b)], _, c', by go_num, by simp, by omega, by simp; omega, hown7, (hbel.trans (hW.mono hbs)).trans hb7, HG.out⟩
                case measure => simp [intOf]; omega
            · rw [if_neg hq] at hwo
              have HE := Lib.hid (Hbad.out hwo)
              have hq2 : ¬ bytesEq ++ wantS (a, b) = [98, 121, 116, 101, 115, 61] ++ t' := fun h => hq (List.append_cancel_left h)
              generalize bytesEq ++ wantS (a, b) = u at *
              have hq3 : (u == 98 :: 121 :: 116 :: 101 :: 115 :: 61 :: t') = false := by simpa using hq2
              clear hq2
              clear hwo hq
              go_wp2_with (first
                | (go_at_call 101; with_reducible refine Calls.mono (htr _) ?_; rintro e w2 ⟨rfl, hb2⟩; have bxx := (BoxAt.new w2 [.int .i64 a, .int .i64 b] 109).drew; have z0 := bxx.cell (j := 0) rfl; have z1 := bxx.cell (j := 1) rfl)
                | (go_at_call 71; with_reducible refine Calls.mono (hix _) ?_; rintro e w' ⟨rfl, rfl⟩))
              go_region_with (first
                | (go_at_call 23; (with_reducible refine Calls.mono (k1 _) ?_); rintro e w' ⟨rfl, rfl⟩)
                | (go_at_call 23; (with_reducible refine Calls.mono (k2 _) ?_); rintro e w' ⟨rfl, rfl⟩))
              all_goals
                go_wp2_with fail
                refine Calls.mono (hSP _ _ (by simp)) ?_
                rintro e w6 ⟨rfl, hb6⟩
                go_wp2_with fail
                go_ret2
                rw [HE.out]
                have hB2 := hb1.trans ((hbel.trans (hb2.mono hbs)).mono hb1s)
                have hB3 := ((hB2.alloc hB2.size (.cells #[.int .i64 a, .int .i64 b] 109)).alloc (Nat.le_trans hB2.size (by simp)) (.cells #[.int .i64 a, .int .i64 b] 109)).drew
                exact ⟨rfl, hB3.trans (hb6.mono hB3.size)⟩
      · have hak : ws.take k = ws := by rw [List.take_of_length_le (by omega)]
        rw [hak] at heq
        have hb9 := hb1.trans (hbel.mono hb1s)
        have hal : acc.length ≤ 1048577 := by omega
        by_cases h20 : 20 < acc.length
        · have h20i : (20 : Int) < acc.length := by omega
          have HE := Lib.hid (show R = .error 2 from by rw [← HR.out, heq]; simp only [if_pos h20])
          clear heq hak
          go_wp2_with fail
          go_ret2
          rw [HE.out]
          exact ⟨rfl, hb9⟩
        · have h20i : ¬ (20 : Int) < acc.length := by omega
          have HE := Lib.hid (show R = .ok acc from by rw [← HR.out, heq]; simp only [if_neg h20])
          clear heq hak
          go_wp2_with fail
          go_ret2
          rw [HE.out]
          exact ⟨A2, c2, rfl, hown.base_le hb1s, hb9⟩
end Go.Proofs.YtemjoiaapfhenaaGreatDoor
