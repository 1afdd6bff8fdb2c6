/- Walk: the reference's ContentParse. -/
import Derived.Test.YtgjikbhehijnaaaDoorWCtN
import Derived.Test.YtgjikbhehijnaaaDoorWNum
import Derived.Test.YtgjikbhehijnaaaDoorSpecCtr
namespace Go.Proofs.YtgjikbhehijnaaaDoor
open Go.RowKit Go.Larder
set_option linter.unusedVariables false
set_option linter.unusedSimpArgs false
set_option maxHeartbeats 4000000 in
set_option maxRecDepth 100000 in
theorem w_CtParseR (s : List UInt8) (hl : s.length ≤ 140737488351232) (w : World) :
    Calls Tryd.prog 59 #[S s] w (CtOut w s) := by
  have hat := fun a b z h => ct_at (a := a) (b := b) (z := z) (s := s) h
  have Hat := Lib.hid hat
  clear hat
  have hi := fun w => c1_Index s 45 w
  have hj := fun w => c1_Index s 47 w
  have hB0 := (Below.refl w.heap.size w).alloc (Nat.le_refl _) (.cells #[.int .i64 0, .int .i64 0] 61)
  have bxr := BoxAt.new w [.int .i64 0, .int .i64 0] 61
  by_cases hbad : s.length < 6 ∨ Lib.indexByte s 45 < 6 ∨ Lib.indexByte s 47 < Lib.indexByte s 45
  · have Hn := Lib.hid (show ∀ a b z, ¬ isCt a b z s from fun a b z h => by
      obtain ⟨i, j, g⟩ := Hat.out a b z h
      have := g.i6
      have := g.ij
      have := g.jl
      have := g.ix
      have := g.jx
      omega)
    have q0 := bxr.cell (j := 0) rfl
    have q1 := bxr.cell (j := 1) rfl
    have f0 := bxr.free 0
    have f1 := bxr.free 1
    generalize Lib.indexByte s 45 = m1 at *
    generalize Lib.indexByte s 47 = m2 at *
    have hG : (s.length : Int) < 6 ∨ (6 ≤ (s.length : Int) ∧ m1 < 6) ∨ (6 ≤ (s.length : Int) ∧ 6 ≤ m1 ∧ m2 < m1) := by omega
    clear hbad
    rcases hG with h | ⟨h, h'⟩ | ⟨h, h', h''⟩
    all_goals
      go_enter Tryd.func59, Tryd.ntmps59
      go_wp2_with (first
        | (go_at_call 58; (with_reducible refine Calls.mono (hi _) ?_); rintro e w' ⟨rfl, rfl⟩)
        | (go_at_call 58; (with_reducible refine Calls.mono (hj _) ?_); rintro e w' ⟨rfl, rfl⟩))
      refine bodyPost_ret (results_box3 (by rfl) _ _ w.heap.size [.int .i64 0, .int .i64 0] _ (by rfl) bxr.all Tryd.underlying61 (by rfl) (by kernel_rfl)) rfl ?_
      exact CtOut.no Hn.out hB0
  · rcases ixb_cases s 45 with h1 | ⟨i, h1⟩
    · omega
    · rcases ixb_cases s 47 with h2 | ⟨j, h2⟩
      · omega
      · have hil := (cut1_at h1).2
        have hjl := (cut1_at h2).2
        have hij : i ≠ j := fun h => by
          subst h
          have a1 := (Lib.indexByte_some h1).1
          have a2 := (Lib.indexByte_some h2).1
          rw [a1] at a2
          cases a2
        rw [h1] at hi
        rw [h2] at hj
        have hs6 : 6 ≤ s.length := by omega
        have hi6 : 6 ≤ i := by omega
        have hlt : i < j := by omega
        have Hnum := Lib.hid (fun a b z (h : isCt a b z s) => (by
          obtain ⟨i', j', g⟩ := Hat.out a b z h
          have := g.ix
          have := g.jx
          obtain rfl : i' = i := by omega
          obtain rfl : j' = j := by omega
          exact g.nums h.1 : rA s i = a ∧ rB s i j = b - 1 ∧ rZ s j = z))
        have l1 : (sg s 6 i).length ≤ s.length := by unfold sg; rw [List.length_take, List.length_drop]; omega
        have l2 : (sg s (i + 1) j).length ≤ s.length := by unfold sg; rw [List.length_take, List.length_drop]; omega
        have l3 : (s.drop (j + 1)).length ≤ s.length := by rw [List.length_drop]; omega
        have t1 : ∀ w, (Instr.slice 9 (.string ⟨s.toArray⟩) (some (.int .i64 6)) (some (.int .i64 (i : Int))) none).run Tryd.prog w = .ok (.string ⟨(sg s 6 i).toArray⟩) w := fun w => run_sliceS 9 Tryd.underlying9 s 6 i (by omega) (by omega) (by omega) w
        have t2 : ∀ w, (Instr.slice 9 (.string ⟨s.toArray⟩) (some (.int .i64 ((i : Int) + 1))) (some (.int .i64 (j : Int))) none).run Tryd.prog w = .ok (.string ⟨(sg s (i + 1) j).toArray⟩) w := fun w => by
          have := run_sliceS (P := Tryd.prog) 9 Tryd.underlying9 s ((i : Int) + 1) j (by omega) (by omega) (by omega) w
          rw [show ((i : Int) + 1).toNat = i + 1 from by omega] at this
          exact this
        have t3 : ∀ w, (Instr.slice 9 (.string ⟨s.toArray⟩) (some (.int .i64 ((j : Int) + 1))) none none).run Tryd.prog w = .ok (.string ⟨(s.drop (j + 1)).toArray⟩) w := fun w => by
          have := run_sliceT (P := Tryd.prog) 9 Tryd.underlying9 s ((j : Int) + 1) (by omega) (by omega) w
          rw [show ((j : Int) + 1).toNat = j + 1 from by omega] at this
          exact this
        have k1 := fun w => w_count (sg s 6 i) (by omega) 99999 (by omega) w
        have k2 := fun w => w_count (sg s (i + 1) j) (by omega) 99999 (by omega) w
        have k3 := fun w => w_count (s.drop (j + 1)) (by omega) 99999 (by omega) w
        have b1 := cnt_bd (sg s 6 i) 99999 (by omega)
        have b2 := cnt_bd (sg s (i + 1) j) 99999 (by omega)
        have b3 := cnt_bd (s.drop (j + 1)) 99999 (by omega)
        unfold rA rB rZ at Hnum
        generalize sg s 6 i = S1 at *
        generalize sg s (i + 1) j = S2 at *
        generalize s.drop (j + 1) = S3 at *
        generalize cnt S1 99999 = n1 at *
        generalize cnt S2 99999 = n2 at *
        generalize cnt S3 99999 = n3 at *
        obtain ⟨b10, b11⟩ := b1
        obtain ⟨b20, b21⟩ := b2
        obtain ⟨b30, b31⟩ := b3
        have hib : (i : Int) ≤ 140737488351232 := by omega
        have hjb : (j : Int) ≤ 140737488351232 := by omega
        have e1 : IntKind.i64.wrap ((i : Int) + 1) = (i : Int) + 1 := IntWalk.i64_in _ ⟨by omega, by omega⟩
        have e3 : IntKind.i64.wrap (n2 + 1) = n2 + 1 := IntWalk.i64_in _ ⟨by omega, by omega⟩
        have hpc := fun w => w_PContentR n1 (n2 + 1) n3 w
        clear h1 h2 hbad l1 l2 l3 hij
        have bx7 := (bxr.alloc (.cells #[.int .i64 n1, .int .i64 (n2 + 1)] 61)).drew
        have bxx := (BoxAt.new (w.alloc (.cells #[.int .i64 0, .int .i64 0] 61)) [.int .i64 n1, .int .i64 (n2 + 1)] 61).drew
        rw [show (w.alloc (.cells #[.int .i64 0, .int .i64 0] 61)).heap.size = w.heap.size + 1 from by simp] at bxx
        have hB7 := (hB0.alloc hB0.size (.cells #[.int .i64 n1, .int .i64 (n2 + 1)] 61)).drew
        have z0 := bxx.cell (j := 0) rfl
        have z1 := bxx.cell (j := 1) rfl
        cases hk : ctOK n1 (n2 + 1) n3
        · have Hn := Lib.hid (show ∀ a b z, ¬ isCt a b z s from fun a b z h => by
            obtain ⟨rfl, g2, rfl⟩ := Hnum.out a b z h
            have := h.1
            rw [show b = n2 + 1 from by omega, hk] at this
            cases this)
          rw [ctE_no hk] at hpc
          clear hk Hnum
          go_enter Tryd.func59, Tryd.ntmps59
          go_wp2_with (first
            | (go_at_call 58; (with_reducible refine Calls.mono (hi _) ?_); rintro e w' ⟨rfl, rfl⟩)
            | (go_at_call 58; (with_reducible refine Calls.mono (hj _) ?_); rintro e w' ⟨rfl, rfl⟩))
          go_region_with (first
            | (go_at_call 84; (with_reducible refine Calls.mono (k1 _) ?_); rintro e w' ⟨rfl, rfl⟩)
            | (go_at_call 84; (with_reducible refine Calls.mono (k2 _) ?_); rintro e w' ⟨rfl, rfl⟩))
          all_goals
            go_wp2_with (go_at_call 84; refine (k3 _).mono ?_; rintro e w' ⟨rfl, rfl⟩)
            refine (hpc _).mono ?_
            rintro e w8 ⟨rfl, hb8⟩
            have bx8 := bx7.keep hb8
            have hB8 := hB7.trans (hb8.mono hB7.size)
            have q0 := bx8.cell (j := 0) rfl
            have q1 := bx8.cell (j := 1) rfl
            have f0 := bx8.free 0
            have f1 := bx8.free 1
            have y8 := bxx.keep hb8
            have y0 := y8.cell (j := 0) rfl
            have y1 := y8.cell (j := 1) rfl
            go_wp2_with fail
            refine bodyPost_ret (results_box3 (by rfl) _ _ w.heap.size [.int .i64 0, .int .i64 0] _ (by rfl) ((bx8.set 0 (.int .i64 0)).set 1 (.int .i64 0)).all Tryd.underlying61 (by rfl) (by kernel_rfl)) rfl ?_
            exact CtOut.no Hn.out ((hB8.setCell (p := ⟨w.heap.size, 0, none⟩) (Nat.le_refl _) _).setCell (p := ⟨w.heap.size, 1, none⟩) (Nat.le_refl _) _)
        · rw [ctE_yes hk] at hpc
          obtain ⟨T, hT⟩ : ∃ T, ctL n1 (n2 + 1) n3 = T := ⟨_, rfl⟩
          rw [hT] at hpc
          by_cases hTs : T = s
          · have Hy := Lib.hid (show isCt n1 (n2 + 1) n3 s from ⟨hk, hT.trans hTs⟩)
            clear hk Hnum hT
            subst hTs
            go_enter Tryd.func59, Tryd.ntmps59
            go_wp2_with (first
              | (go_at_call 58; (with_reducible refine Calls.mono (hi _) ?_); rintro e w' ⟨rfl, rfl⟩)
              | (go_at_call 58; (with_reducible refine Calls.mono (hj _) ?_); rintro e w' ⟨rfl, rfl⟩))
            go_region_with (first
              | (go_at_call 84; (with_reducible refine Calls.mono (k1 _) ?_); rintro e w' ⟨rfl, rfl⟩)
              | (go_at_call 84; (with_reducible refine Calls.mono (k2 _) ?_); rintro e w' ⟨rfl, rfl⟩))
            all_goals
              go_wp2_with (go_at_call 84; refine (k3 _).mono ?_; rintro e w' ⟨rfl, rfl⟩)
              refine (hpc _).mono ?_
              rintro e w8 ⟨rfl, hb8⟩
              have bx8 := bx7.keep hb8
              have hB8 := hB7.trans (hb8.mono hB7.size)
              have q0 := bx8.cell (j := 0) rfl
              have q1 := bx8.cell (j := 1) rfl
              have f0 := bx8.free 0
              have f1 := bx8.free 1
              have y8 := bxx.keep hb8
              have y0 := y8.cell (j := 0) rfl
              have y1 := y8.cell (j := 1) rfl
              go_wp2_with fail
              refine bodyPost_ret (results_box3 (by rfl) _ _ w.heap.size [.int .i64 n1, .int .i64 (n2 + 1)] _ (by rfl) ((bx8.set 0 (.int .i64 n1)).set 1 (.int .i64 (n2 + 1))).all Tryd.underlying61 (by rfl) (by kernel_rfl)) rfl ?_
              exact CtOut.yes Hy.out ((hB8.setCell (p := ⟨w.heap.size, 0, none⟩) (Nat.le_refl _) _).setCell (p := ⟨w.heap.size, 1, none⟩) (Nat.le_refl _) _)
          · have Hn := Lib.hid (show ∀ a b z, ¬ isCt a b z s from fun a b z h => by
              obtain ⟨rfl, g2, rfl⟩ := Hnum.out a b z h
              have := h.2
              rw [show b = n2 + 1 from by omega, hT] at this
              exact hTs this)
            have hTb : (T == s) = false := by simpa using hTs
            clear hk Hnum hT hTs
            go_enter Tryd.func59, Tryd.ntmps59
            go_wp2_with (first
              | (go_at_call 58; (with_reducible refine Calls.mono (hi _) ?_); rintro e w' ⟨rfl, rfl⟩)
              | (go_at_call 58; (with_reducible refine Calls.mono (hj _) ?_); rintro e w' ⟨rfl, rfl⟩))
            go_region_with (first
              | (go_at_call 84; (with_reducible refine Calls.mono (k1 _) ?_); rintro e w' ⟨rfl, rfl⟩)
              | (go_at_call 84; (with_reducible refine Calls.mono (k2 _) ?_); rintro e w' ⟨rfl, rfl⟩))
            all_goals
              go_wp2_with (go_at_call 84; refine (k3 _).mono ?_; rintro e w' ⟨rfl, rfl⟩)
              refine (hpc _).mono ?_
              rintro e w8 ⟨rfl, hb8⟩
              have bx8 := bx7.keep hb8
              have hB8 := hB7.trans (hb8.mono hB7.size)
              have q0 := bx8.cell (j := 0) rfl
              have q1 := bx8.cell (j := 1) rfl
              have f0 := bx8.free 0
              have f1 := bx8.free 1
              have y8 := bxx.keep hb8
              have y0 := y8.cell (j := 0) rfl
              have y1 := y8.cell (j := 1) rfl
              go_wp2_with fail
              refine bodyPost_ret (results_box3 (by rfl) _ _ w.heap.size [.int .i64 0, .int .i64 0] _ (by rfl) ((bx8.set 0 (.int .i64 0)).set 1 (.int .i64 0)).all Tryd.underlying61 (by rfl) (by kernel_rfl)) rfl ?_
              exact CtOut.no Hn.out ((hB8.setCell (p := ⟨w.heap.size, 0, none⟩) (Nat.le_refl _) _).setCell (p := ⟨w.heap.size, 1, none⟩) (Nat.le_refl _) _)
end Go.Proofs.YtgjikbhehijnaaaDoor
