/- Walk: the reference's Open. -/
import Derived.Test.YtbchkaoocobpfaaWBr5
import Derived.StillTailTactics
namespace Go.Proofs.Ytbchkaoocobpfaa
open Go.RowKit Go.Larder
set_option linter.unusedVariables false
set_option linter.unusedSimpArgs false
set_option maxHeartbeats 8000000 in
set_option maxRecDepth 100000 in
theorem w_ROpen (l : List UInt8) (hl : l.length ≤ 4000000) (w : World) :
    Calls Try.prog 28 #[S l] w (ROpenP w (openGo (recover l).1 [] []).2) := by
  have hsm := recover_small l
  have hrv := fun W => w_RecoverR l (by omega) W
  obtain ⟨Q, hQ⟩ : ∃ Q, recover l = Q := ⟨_, rfl⟩
  rw [hQ] at hsm hrv ⊢
  clear hQ
  obtain ⟨rs, sz⟩ := Q
  simp only at hsm ⊢
  have hrl : rs.length ≤ 500000 := by omega
  have Hsm := Lib.hid hsm.1
  clear hsm
  obtain ⟨M, hM⟩ : ∃ M, openGo rs [] [] = M := ⟨_, rfl⟩
  rw [hM]
  have HM := Lib.hid (show openGo (rs.drop 0) [] [] = M from hM)
  clear hM
  have bx := BoxAt.new w [.slice none 0 0] 54
  have hb1 := (Below.refl w.heap.size w).alloc (Nat.le_refl _) (.cells #[.slice none 0 0] 54)
  have h1 : RefB (w.alloc (.cells #[.slice none 0 0] 54)) w.heap.size none 0 [] := ⟨bx, OwnL.nil _ _ _⟩
  have hcl : w.heap.size < (w.alloc (.cells #[.slice none 0 0] 54)).heap.size := by simp
  go_enter Try.func28, Try.ntmps28
  go_wp2_with fail
  generalize w.alloc (.cells #[.slice none 0 0] 54) = w1 at *
  refine Calls.mono (hrv _) ?_
  intro e w2 hp
  obtain ⟨A3, c3, rfl, hr, hb2⟩ := hp
  simp only at hr ⊢
  have h2 := h1.keep hb2
  have hB2 := hb1.trans (hb2.mono hb1.size)
  have Hrl := Lib.hid (fun a ha => (hr.lt a ha).2)
  clear h1 bx
  generalize hcc : w.heap.size = c at *
  go_wp2_with fail
  go_loopw [8, 9, 10, 11, 21] (fun _ _ _ _ i' wr => ∃ (i : Nat) (m : Kv) (L : List Ent) (A : Option Addr) (cap : Nat), i' = .int .i64 i ∧ i ≤ rs.length ∧ L.length ≤ i ∧ RefB wr c A cap L ∧ BookR m L ∧ Hid (openGo (rs.drop i) m L = M) ∧ (∀ j, blkOf A = some j → w2.heap.size ≤ j) ∧ OwnL encL wr w1.heap.size 9 A3 c3 rs ∧ SameBut (fun j => j = c) w2 wr) (fun _ _ _ _ i' _ => rs.length - (intOf i').toNat)
  case atStart => exact ⟨0, [], [], none, 0, rfl, by omega, by simp, h2, BookR.new, HM, fun j hj => by simp [blkOf] at hj, hr, SameBut.refl _⟩
  case round =>
    clear hr h2 HM
    obtain ⟨i, m, L, A, cap, rfl, hi, hLl, hbk, hR, hgo, hnv, hr, hsm⟩ := hrel
    obtain ⟨wo, hwo⟩ : ∃ wo, wo = wr := ⟨_, rfl⟩
    subst hwo
    have hfinal : ∀ (w4 w' : World), RefB w4 c A cap L → SameBut (fun _ => False) wo w4 → Below w4.heap.size w4 w' → (m, L) = M → ROpenP w M.2 (.returned (.tuple #[.pointer (some ⟨c, 0, none⟩), .int .i64 ((imgGo 0 L).length : Int)])) w' := by
      rintro w4 w' hbk' hs' hb4 rfl
      refine ⟨c, A, cap, rfl, hbk'.keep hb4, ?_, ?_⟩
      · rintro j (rfl | hj)
        · omega
        · have := hnv j hj; have := hB2.size; omega
      · have hB3 : Below w.heap.size w w2 := by rw [hcc]; exact hB2
        have hB4 := hB3.trans ((hsm.trans hs' (fun _ _ h => h.elim)).toBelow (by have := hB2.size; omega) (fun j hj h0 => by omega))
        exact hB4.trans (hb4.mono hB4.size)
    have hIm : ∀ (W : World), RefB W c A cap L → Calls Try.prog 23 #[.pointer (some ⟨c, 0, none⟩)] W fun e w' => e = .returned (S (imgGo 0 L)) ∧ Below W.heap.size W w' := fun W hW => w_RImage (by omega) hR.ok hW
    have hil := imgGo_len L 0 hR.ok
    by_cases hlt : i < rs.length
    · obtain ⟨r, hri, hd⟩ := drop_step hlt
      have hrl1 := Hsm.out r (List.mem_of_getElem? hri)
      obtain ⟨gk, offk, hA, _, hck⟩ := hr.read.at_S hri
      subst hA
      have hgk := (hr.lt _ rfl).1
      have hgo2 := hgo.out
      rw [hd] at hgo2
      have HIm := Lib.hid hIm
      have Hf := Lib.hid hfinal
      have HR := Lib.hid hR
      have Hnv := Lib.hid hnv
      clear hri hd hIm hfinal hgo hnv
      cases recCase r with
      | short hs hro =>
        have hfe := (openGo_none (by rw [hro]; rfl)).symm.trans hgo2
        have hI := HIm.out wo (hbk)
        have hfin := fun w' hb => Hf.out wo w' (hbk) (SameBut.refl _) hb hfe
        generalize imgGo 0 L = im at *
        clear hfe
        have h2I : ¬ (1 : Int) < (r.length : Int) := by omega
        clear hro hgo2 hs
        go_wp2_with fail
        refine Calls.mono hI ?_
        rintro e w4 ⟨rfl, hb4⟩
        have hf4 := hfin w4 hb4
        go_wp2_with fail
        go_ret2
        exact hf4
      | cut x1 h1 h2 h3 hro =>
        have hfe := (openGo_none (by rw [hro]; rfl)).symm.trans hgo2
        have hI := HIm.out wo (hbk)
        have hfin := fun w' hb => Hf.out wo w' (hbk) (SameBut.refl _) hb hfe
        generalize imgGo 0 L = im at *
        clear hfe
        have i1 := fun W => run_indexR (P := Try.prog) 9 Try.underlying9 r 1 1 rfl x1 h1 W
        have hx1l := x1.toNat_lt
        have h2I : (1 : Int) < (r.length : Int) := by omega
        have h3I : ¬ 2 + (x1.toNat : Int) ≤ (r.length : Int) := by omega
        clear hro hgo2 h1 h2 h3
        go_wp2_with fail
        refine Calls.mono hI ?_
        rintro e w4 ⟨rfl, hb4⟩
        have hf4 := hfin w4 hb4
        go_wp2_with fail
        go_ret2
        exact hf4
      | set x1 x0 k x h0 h1 h2 h3 hk hx e0 hro =>
        have i0 := fun W => run_indexR (P := Try.prog) 9 Try.underlying9 r 0 0 rfl x0 h0 W
        have i1 := fun W => run_indexR (P := Try.prog) 9 Try.underlying9 r 1 1 rfl x1 h1 W
        have hx1l := x1.toNat_lt
        have h2I : (1 : Int) < (r.length : Int) := by omega
        have h3I : 2 + (x1.toNat : Int) ≤ (r.length : Int) := by omega
        have wv0 : IntKind.i64.wrap (x1.toNat : Int) = (x1.toNat : Int) := by simp [IntKind.wrap, IntKind.bits, IntKind.signed]; omega
        have wv1 : IntKind.i64.wrap (2 + (x1.toNat : Int)) = 2 + (x1.toNat : Int) := by simp [IntKind.wrap, IntKind.bits, IntKind.signed]; omega
        have s1 : ∀ W, (Instr.slice 9 (S r) (some (.int .i64 2)) (some (.int .i64 (2 + (x1.toNat : Int)))) none).run Try.prog W = .ok (S k) W := fun W => by
          have := run_sliceS (P := Try.prog) 9 Try.underlying9 r 2 (2 + (x1.toNat : Int)) (by omega) (by omega) (by omega) W
          rw [show ((2 : Int).toNat) = 2 from rfl, show ((2 + (x1.toNat : Int)).toNat - 2) = x1.toNat from by omega, hk] at this
          exact this
        have s2 : ∀ W, (Instr.slice 9 (S r) (some (.int .i64 (2 + (x1.toNat : Int)))) none none).run Try.prog W = .ok (S x) W := fun W => by
          have := run_sliceT (P := Try.prog) 9 Try.underlying9 r (2 + (x1.toNat : Int)) (by omega) (by omega) W
          rw [show ((2 + (x1.toNat : Int)).toNat) = 2 + x1.toNat from by omega, hx] at this
          exact this
        have hkl : k.length ≤ 1000 := by rw [← hk, List.length_take, List.length_drop]; omega
        have hxl : x.length ≤ 1000 := by rw [← hx, List.length_drop]; omega
        have e1 : ((x0.toNat : Int) == 1) = decide (x0 = 1) := u8_eqR (n := 1) (by omega)
        have e2 : ((x0.toNat : Int) == 2) = decide (x0 = 2) := u8_eqR (n := 2) (by omega)
        have hbD := hbk.keep (Below.refl _ wo).drew
        have e1' : ((x0.toNat : Int) == 1) = true := by rw [e1, e0]; rfl
        clear e1 e2 e0 h0 h1 hk hx h2 h3
        by_cases hs : setE m k x = 0
        · have hst : stepB m (true, k, x) = some (putM m k x) := by simp [stepB, hs]
          obtain ⟨m2, hm2⟩ : ∃ m2, putM m k x = m2 := ⟨_, rfl⟩
          rw [hm2] at hst
          have hgo3 := Lib.hid (show openGo (rs.drop (i + 1)) m2 (L ++ [(true, k, x)]) = M from (openGo_some hro hst).symm.trans hgo2)
          have hR' := HR.out.step (recOf_del hro) hst
          have hS := w_RSet_ok k x (by omega) HR.out.ok (by rw [← HR.out.count]; exact HR.out.few) (by rw [← setE_eq HR.out]; exact hs) hbD
          clear hst hs hro hgo2 hR hm2
          go_wp2_with fail
          go_still (by kernel_rfl)
          go_wp2_with fail
          refine Calls.mono hS ?_
          rintro e w3 ⟨rfl, A5, cap5, hb3, hn3, hs3'⟩
          have hs3 : SameBut (FR c A) wo w3 := ((SameBut.refl wo).drew).trans hs3' fun _ _ h => h
          have hr3 : OwnL encL w3 w1.heap.size 9 (some ⟨gk, offk, none⟩) c3 rs := hr.keep fun a ha => hs3.block _ (hr.lt _ ha).2 (by
            injection ha with ha
            subst ha
            rintro (h0 | h0)
            · simp only at h0; omega
            · have h1 := Hnv.out _ h0
              have := Hrl.out _ rfl
              simp only at this h1
              omega)
          have hsm3 : SameBut (fun j => j = c) w2 w3 := hsm.trans hs3 fun j hj h0 => by
            rcases h0 with h0 | h0
            · exact h0
            · have := Hnv.out _ h0; omega
          have hnv3 : ∀ j, blkOf A5 = some j → w2.heap.size ≤ j := fun j hj => by
            rcases hn3 j hj with h0 | h0
            · exact Hnv.out j h0
            · exact Nat.le_trans hsm.size h0
          go_wp2_with fail
          go_roundw
          case rel => exact ⟨i + 1, m2, L ++ [(true, k, x)], A5, cap5, by go_num, by omega, by simp; omega, hb3, hR', hgo3, hnv3, hr3, hsm3⟩
          case measure => simp [intOf]; omega
        · have hst : stepB m (true, k, x) = none := by simp [stepB, hs]
          have hfe := (openGo_none (by rw [hro]; simp [hst])).symm.trans hgo2
          have hS := w_RSet_no k x (by omega) (by omega) (by omega) HR.out.ok (by rw [← HR.out.count]; exact HR.out.few) (by rw [← setE_eq HR.out]; exact hs) hbD
          rw [← setE_eq HR.out] at hS
          have hcE : (setE m k x == 0) = false := by simpa using hs
          generalize setE m k x = cc at *
          have hfin := fun (w4 w' : World) (h4 : RefB w4 c A cap L) hs4 hb => Hf.out w4 w' h4 hs4 hb hfe
          have Hfin := Lib.hid hfin
          clear hst hs hro hgo2 hR hfe hfin Hf
          go_wp2_with fail
          go_still (by kernel_rfl)
          go_wp2_with fail
          refine Calls.mono hS ?_
          rintro e w3 ⟨rfl, hb3⟩
          have hbk3 := hbD.keep hb3
          have hI := HIm.out w3 hbk3
          have hfin3 := fun w' hb => Hfin.out w3 w' hbk3 (((SameBut.refl wo).drew).keep hb3) hb
          generalize imgGo 0 L = im at *
          go_wp2_with fail
          refine Calls.mono hI ?_
          rintro e w4 ⟨rfl, hb4⟩
          have hf4 := hfin3 w4 hb4
          go_wp2_with fail
          go_ret2
          exact hf4
      | del x1 x0 k h0 h1 h2 h3 hk hx e0 hro =>
        have i0 := fun W => run_indexR (P := Try.prog) 9 Try.underlying9 r 0 0 rfl x0 h0 W
        have i1 := fun W => run_indexR (P := Try.prog) 9 Try.underlying9 r 1 1 rfl x1 h1 W
        have hx1l := x1.toNat_lt
        have h2I : (1 : Int) < (r.length : Int) := by omega
        have h3I : 2 + (x1.toNat : Int) ≤ (r.length : Int) := by omega
        have wv0 : IntKind.i64.wrap (x1.toNat : Int) = (x1.toNat : Int) := by simp [IntKind.wrap, IntKind.bits, IntKind.signed]; omega
        have wv1 : IntKind.i64.wrap (2 + (x1.toNat : Int)) = 2 + (x1.toNat : Int) := by simp [IntKind.wrap, IntKind.bits, IntKind.signed]; omega
        have s1 : ∀ W, (Instr.slice 9 (S r) (some (.int .i64 2)) (some (.int .i64 (2 + (x1.toNat : Int)))) none).run Try.prog W = .ok (S k) W := fun W => by
          have := run_sliceS (P := Try.prog) 9 Try.underlying9 r 2 (2 + (x1.toNat : Int)) (by omega) (by omega) (by omega) W
          rw [show ((2 : Int).toNat) = 2 from rfl, show ((2 + (x1.toNat : Int)).toNat - 2) = x1.toNat from by omega, hk] at this
          exact this
        have s2 : ∀ W, (Instr.slice 9 (S r) (some (.int .i64 (2 + (x1.toNat : Int)))) none none).run Try.prog W = .ok (S []) W := fun W => by
          have := run_sliceT (P := Try.prog) 9 Try.underlying9 r (2 + (x1.toNat : Int)) (by omega) (by omega) W
          rw [show ((2 + (x1.toNat : Int)).toNat) = 2 + x1.toNat from by omega, hx] at this
          exact this
        have hkl : k.length ≤ 1000 := by rw [← hk, List.length_take, List.length_drop]; omega
        have e1 : ((x0.toNat : Int) == 1) = decide (x0 = 1) := u8_eqR (n := 1) (by omega)
        have e2 : ((x0.toNat : Int) == 2) = decide (x0 = 2) := u8_eqR (n := 2) (by omega)
        have hbD := hbk.keep (Below.refl _ wo).drew
        have e1' : ((x0.toNat : Int) == 1) = false := by rw [e1, e0]; rfl
        have e2' : ((x0.toNat : Int) == 2) = true := by rw [e2, e0]; rfl
        clear e1 e2 e0 h0 h1 hk hx h2 h3
        cases hg : getM m k with
        | some y =>
          have hst : stepB m (false, k, []) = some (delM m k) := by simp [stepB, hg]
          obtain ⟨m2, hm2⟩ : ∃ m2, delM m k = m2 := ⟨_, rfl⟩
          rw [hm2] at hst
          have hgo3 := Lib.hid (show openGo (rs.drop (i + 1)) m2 (L ++ [(false, k, [])]) = M from (openGo_some hro hst).symm.trans hgo2)
          have hR' := HR.out.step (recOf_del hro) hst
          have hS := w_RDel_ok k y (by omega) HR.out.ok (by rw [← HR.out.get]; exact hg) hbD
          clear hst hg hro hgo2 hR hm2
          go_wp2_with fail
          go_still (by kernel_rfl)
          go_wp2_with fail
          refine Calls.mono hS ?_
          rintro e w3 ⟨rfl, A5, cap5, hb3, hn3, hs3'⟩
          have hs3 : SameBut (FR c A) wo w3 := ((SameBut.refl wo).drew).trans hs3' fun _ _ h => h
          have hr3 : OwnL encL w3 w1.heap.size 9 (some ⟨gk, offk, none⟩) c3 rs := hr.keep fun a ha => hs3.block _ (hr.lt _ ha).2 (by
            injection ha with ha
            subst ha
            rintro (h0 | h0)
            · simp only at h0; omega
            · have h1 := Hnv.out _ h0
              have := Hrl.out _ rfl
              simp only at this h1
              omega)
          have hsm3 : SameBut (fun j => j = c) w2 w3 := hsm.trans hs3 fun j hj h0 => by
            rcases h0 with h0 | h0
            · exact h0
            · have := Hnv.out _ h0; omega
          have hnv3 : ∀ j, blkOf A5 = some j → w2.heap.size ≤ j := fun j hj => by
            rcases hn3 j hj with h0 | h0
            · exact Hnv.out j h0
            · exact Nat.le_trans hsm.size h0
          go_wp2_with fail
          go_roundw
          case rel => exact ⟨i + 1, m2, L ++ [(false, k, [])], A5, cap5, by go_num, by omega, by simp; omega, hb3, hR', hgo3, hnv3, hr3, hsm3⟩
          case measure => simp [intOf]; omega
        | none =>
          have hst : stepB m (false, k, []) = none := by simp [stepB, hg]
          have hfe := (openGo_none (by rw [hro]; simp [hst])).symm.trans hgo2
          have hS := w_RDel_no k (by omega) HR.out.ok (by rw [← HR.out.get]; exact hg) hbD
          have hfin := fun (w4 w' : World) (h4 : RefB w4 c A cap L) hs4 hb => Hf.out w4 w' h4 hs4 hb hfe
          have Hfin := Lib.hid hfin
          clear hst hg hro hgo2 hR hfe hfin Hf
          go_wp2_with fail
          go_still (by kernel_rfl)
          go_wp2_with fail
          refine Calls.mono hS ?_
          rintro e w3 ⟨rfl, hb3⟩
          have hbk3 := hbD.keep hb3
          have hI := HIm.out w3 hbk3
          have hfin3 := fun w' hb => Hfin.out w3 w' hbk3 (((SameBut.refl wo).drew).keep hb3) hb
          generalize imgGo 0 L = im at *
          go_wp2_with fail
          refine Calls.mono hI ?_
          rintro e w4 ⟨rfl, hb4⟩
          have hf4 := hfin3 w4 hb4
          go_wp2_with fail
          go_ret2
          exact hf4
      | full x1 x0 k x h0 h1 h2 h3 hk hx e0 ex hro =>
        have i0 := fun W => run_indexR (P := Try.prog) 9 Try.underlying9 r 0 0 rfl x0 h0 W
        have i1 := fun W => run_indexR (P := Try.prog) 9 Try.underlying9 r 1 1 rfl x1 h1 W
        have hx1l := x1.toNat_lt
        have h2I : (1 : Int) < (r.length : Int) := by omega
        have h3I : 2 + (x1.toNat : Int) ≤ (r.length : Int) := by omega
        have wv0 : IntKind.i64.wrap (x1.toNat : Int) = (x1.toNat : Int) := by simp [IntKind.wrap, IntKind.bits, IntKind.signed]; omega
        have wv1 : IntKind.i64.wrap (2 + (x1.toNat : Int)) = 2 + (x1.toNat : Int) := by simp [IntKind.wrap, IntKind.bits, IntKind.signed]; omega
        have s1 : ∀ W, (Instr.slice 9 (S r) (some (.int .i64 2)) (some (.int .i64 (2 + (x1.toNat : Int)))) none).run Try.prog W = .ok (S k) W := fun W => by
          have := run_sliceS (P := Try.prog) 9 Try.underlying9 r 2 (2 + (x1.toNat : Int)) (by omega) (by omega) (by omega) W
          rw [show ((2 : Int).toNat) = 2 from rfl, show ((2 + (x1.toNat : Int)).toNat - 2) = x1.toNat from by omega, hk] at this
          exact this
        have s2 : ∀ W, (Instr.slice 9 (S r) (some (.int .i64 (2 + (x1.toNat : Int)))) none none).run Try.prog W = .ok (S x) W := fun W => by
          have := run_sliceT (P := Try.prog) 9 Try.underlying9 r (2 + (x1.toNat : Int)) (by omega) (by omega) W
          rw [show ((2 + (x1.toNat : Int)).toNat) = 2 + x1.toNat from by omega, hx] at this
          exact this
        have hkl : k.length ≤ 1000 := by rw [← hk, List.length_take, List.length_drop]; omega
        have hxl : x.length ≤ 1000 := by rw [← hx, List.length_drop]; omega
        have e1 : ((x0.toNat : Int) == 1) = decide (x0 = 1) := u8_eqR (n := 1) (by omega)
        have e2 : ((x0.toNat : Int) == 2) = decide (x0 = 2) := u8_eqR (n := 2) (by omega)
        have hbD := hbk.keep (Below.refl _ wo).drew
        have hfe := (openGo_none (by rw [hro]; rfl)).symm.trans hgo2
        have hI := HIm.out wo.drew (hbD)
        have hfin := fun w' hb => Hf.out wo.drew w' (hbD) ((SameBut.refl _).drew) hb hfe
        generalize imgGo 0 L = im at *
        clear hfe
        have e1' : ((x0.toNat : Int) == 1) = false := by rw [e1, e0]; rfl
        have e2' : ((x0.toNat : Int) == 2) = true := by rw [e2, e0]; rfl
        have hxe : x.isEmpty = false := by cases x with | nil => exact absurd rfl ex | cons a l => rfl
        clear e1 e2 e0 h0 h1 hk hx h2 h3 hro hgo2 ex
        go_wp2_with fail
        go_still (by kernel_rfl)
        go_wp2_with fail
        refine Calls.mono hI ?_
        rintro e w4 ⟨rfl, hb4⟩
        have hf4 := hfin w4 hb4
        go_wp2_with fail
        go_ret2
        exact hf4
      | other x1 x0 k x h0 h1 h2 h3 hk hx e0 e3 hro =>
        have i0 := fun W => run_indexR (P := Try.prog) 9 Try.underlying9 r 0 0 rfl x0 h0 W
        have i1 := fun W => run_indexR (P := Try.prog) 9 Try.underlying9 r 1 1 rfl x1 h1 W
        have hx1l := x1.toNat_lt
        have h2I : (1 : Int) < (r.length : Int) := by omega
        have h3I : 2 + (x1.toNat : Int) ≤ (r.length : Int) := by omega
        have wv0 : IntKind.i64.wrap (x1.toNat : Int) = (x1.toNat : Int) := by simp [IntKind.wrap, IntKind.bits, IntKind.signed]; omega
        have wv1 : IntKind.i64.wrap (2 + (x1.toNat : Int)) = 2 + (x1.toNat : Int) := by simp [IntKind.wrap, IntKind.bits, IntKind.signed]; omega
        have s1 : ∀ W, (Instr.slice 9 (S r) (some (.int .i64 2)) (some (.int .i64 (2 + (x1.toNat : Int)))) none).run Try.prog W = .ok (S k) W := fun W => by
          have := run_sliceS (P := Try.prog) 9 Try.underlying9 r 2 (2 + (x1.toNat : Int)) (by omega) (by omega) (by omega) W
          rw [show ((2 : Int).toNat) = 2 from rfl, show ((2 + (x1.toNat : Int)).toNat - 2) = x1.toNat from by omega, hk] at this
          exact this
        have s2 : ∀ W, (Instr.slice 9 (S r) (some (.int .i64 (2 + (x1.toNat : Int)))) none none).run Try.prog W = .ok (S x) W := fun W => by
          have := run_sliceT (P := Try.prog) 9 Try.underlying9 r (2 + (x1.toNat : Int)) (by omega) (by omega) W
          rw [show ((2 + (x1.toNat : Int)).toNat) = 2 + x1.toNat from by omega, hx] at this
          exact this
        have hkl : k.length ≤ 1000 := by rw [← hk, List.length_take, List.length_drop]; omega
        have hxl : x.length ≤ 1000 := by rw [← hx, List.length_drop]; omega
        have e1 : ((x0.toNat : Int) == 1) = decide (x0 = 1) := u8_eqR (n := 1) (by omega)
        have e2 : ((x0.toNat : Int) == 2) = decide (x0 = 2) := u8_eqR (n := 2) (by omega)
        have hbD := hbk.keep (Below.refl _ wo).drew
        have hfe := (openGo_none (by rw [hro]; rfl)).symm.trans hgo2
        have hI := HIm.out wo.drew (hbD)
        have hfin := fun w' hb => Hf.out wo.drew w' (hbD) ((SameBut.refl _).drew) hb hfe
        generalize imgGo 0 L = im at *
        clear hfe
        have e1' : ((x0.toNat : Int) == 1) = false := by rw [e1]; simpa using e0
        have e2' : ((x0.toNat : Int) == 2) = false := by rw [e2]; simpa using e3
        clear e1 e2 e0 h0 h1 hk hx h2 h3 hro hgo2 e3
        go_wp2_with fail
        go_still (by kernel_rfl)
        go_wp2_with fail
        refine Calls.mono hI ?_
        rintro e w4 ⟨rfl, hb4⟩
        have hf4 := hfin w4 hb4
        go_wp2_with fail
        go_ret2
        exact hf4
    · have hgo2 := hgo.out
      rw [List.drop_of_length_le (by omega)] at hgo2
      have hI := hIm wo hbk
      have hfin := fun w' hb => hfinal wo w' hbk (SameBut.refl _) hb hgo2
      generalize imgGo 0 L = im at *
      clear hfinal hgo hgo2 hIm
      go_wp2_with fail
      refine Calls.mono hI ?_
      rintro e w4 ⟨rfl, hb4⟩
      have hf4 := hfin w4 hb4
      go_wp2_with fail
      go_ret2
      exact hf4
end Go.Proofs.Ytbchkaoocobpfaa
