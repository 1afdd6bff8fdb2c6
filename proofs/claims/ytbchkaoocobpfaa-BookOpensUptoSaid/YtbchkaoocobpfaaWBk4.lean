/- Walks: books: a record done again; a book found again. -/
import Derived.Test.YtbchkaoocobpfaaWBk3
import Derived.Test.YtbchkaoocobpfaaSpecBk2
import Derived.Test.YtbchkaoocobpfaaWRec
import Derived.Test.YtbchkaoocobpfaaWStr
import Derived.StillTailTactics
namespace Go.Proofs.Ytbchkaoocobpfaa
open Go.RowKit Go.Larder
set_option linter.unusedVariables false
set_option linter.unusedSimpArgs false
variable {w w' : World} {b gm : Nat} {p v : Value} {m : Kv} {n : Nat} {img : List UInt8}
theorem run_indexB {P : Program} (t : TypeId) (ht : P.underlying t = some .string) (b : List UInt8) (i : Int) (j : Nat) (hi : i = (j : Int)) (c : UInt8) (hj : b[j]? = some c) (w : World) : (Instr.index t (.string ⟨b.toArray⟩) (.int .i64 i)).run P w = .ok (.int .u8 (c.toNat : Int)) w := by
  subst hi
  have hl : j < b.length := (List.getElem?_eq_some_iff.1 hj).1
  rw [run_index_string w t _ _ _ ht, dif_pos (by rw [ba_size]; omega)]
  simp only [ba_get, Int.toNat_natCast]
  rw [(List.getElem?_eq_some_iff.1 hj).2]
/-- a record that is none, or that does not fit -/
def AgNo (w : World) (b gm : Nat) (p v : Value) (m : Kv) (n : Nat) (img : List UInt8) (e : Ending) (w' : World) : Prop := e = .returned (.bool false) ∧ BookAt w' b gm p v m n img ∧ SameBut (fun _ => False) w w'
def AgYes (w : World) (b gm : Nat) (v : Value) (m : Kv) (n : Nat) (img : List UInt8) (e : Ending) (w' : World) : Prop := e = .returned (.bool true) ∧ BkAfter w b gm v m n img w'
theorem u8_eq_of {c : UInt8} {n : Nat} (hn : n < 256) : ((c.toNat : Int) == (n : Int)) = decide (c = UInt8.ofNat n) := by
  rw [u8_beq c n hn, Bool.eq_iff_iff]
  simp
set_option maxHeartbeats 4000000 in
set_option maxRecDepth 100000 in
theorem w_again (r : List UInt8) (hr : r.length ≤ 1000) (hn : n ≤ 100000000) (hi : img.length ≤ 1000000000000) (hR : ∃ L, BookR m L) (h : BookAt w b gm p v m n img) :
    Calls Try.prog 55 #[.pointer (some ⟨b, 0, none⟩), S r] w fun e w' => match (recOf r).bind (fun e => (stepB m e).map fun m' => (e, m')) with
      | none => AgNo w b gm p v m n img e w'
      | some (x, m') => AgYes w b gm v m' (n + 1) (img ++ frameL n (recE x)) e w' := by
  obtain ⟨L, hR⟩ := hR
  have hno : AgNo w b gm p v m n img (.returned (.bool false)) w := ⟨rfl, h, SameBut.refl _⟩
  have hnoD : AgNo w b gm p v m n img (.returned (.bool false)) w.drew := ⟨rfl, h.keep (Below.refl _ _).drew, (SameBut.refl _).drew⟩
  have hnoD' : ∀ {x}, x = false → AgNo w b gm p v m n img (.returned (.bool x)) w.drew := by rintro x rfl; exact hnoD
  by_cases h2 : 2 ≤ r.length
  · obtain ⟨x0, hx0⟩ : ∃ x0, r[0]? = some x0 := ⟨_, List.getElem?_eq_getElem (by omega)⟩
    obtain ⟨x1, hx1⟩ : ∃ x1, r[1]? = some x1 := ⟨_, List.getElem?_eq_getElem (by omega)⟩
    have hg0 : r.getD 0 0 = x0 := by rw [List.getD_eq_getElem?_getD, hx0]; rfl
    have hg1 : r.getD 1 0 = x1 := by rw [List.getD_eq_getElem?_getD, hx1]; rfl
    have i0 := fun W => run_indexB (P := Try.prog) 9 Try.underlying9 r 0 0 rfl x0 hx0 W
    have i1 := fun W => run_indexB (P := Try.prog) 9 Try.underlying9 r 1 1 rfl x1 hx1 W
    have hx1l := x1.toNat_lt
    have h2I : ¬ (r.length : Int) < 2 := by omega
    clear hx0 hx1
    by_cases h3 : 2 + x1.toNat ≤ r.length
    · have h3I : ¬ (r.length : Int) < 2 + (x1.toNat : Int) := by omega
      obtain ⟨k, hk⟩ : ∃ k, (r.drop 2).take x1.toNat = k := ⟨_, rfl⟩
      obtain ⟨x, hx⟩ : ∃ x, r.drop (2 + x1.toNat) = x := ⟨_, rfl⟩
      have hkl : k.length ≤ 1000 := by rw [← hk, List.length_take, List.length_drop]; omega
      have hxl : x.length ≤ 1000 := by rw [← hx, List.length_drop]; omega
      have s1 : ∀ W, (Instr.slice 9 (S r) (some (.int .i64 2)) (some (.int .i64 (2 + (x1.toNat : Int)))) none).run Try.prog W = .ok (S k) W := fun W => by
        have := run_sliceS (P := Try.prog) 9 Try.underlying9 r 2 (2 + (x1.toNat : Int)) (by omega) (by omega) (by omega) W
        rw [show ((2 : Int).toNat) = 2 from rfl, show ((2 + (x1.toNat : Int)).toNat - 2) = x1.toNat from by omega, hk] at this
        exact this
      have s2 : ∀ W, (Instr.slice 9 (S r) (some (.int .i64 (2 + (x1.toNat : Int)))) none none).run Try.prog W = .ok (S x) W := fun W => by
        have := run_sliceT (P := Try.prog) 9 Try.underlying9 r (2 + (x1.toNat : Int)) (by omega) (by omega) W
        rw [show ((2 + (x1.toNat : Int)).toNat) = 2 + x1.toNat from by omega, hx] at this
        exact this
      have hro : recOf r = if x0 = 1 then some (true, k, x) else if x0 = 2 ∧ x = [] then some (false, k, []) else none := by
        unfold recOf
        rw [hg0, hg1, hk, hx, if_pos ⟨h2, h3⟩]
      rw [hro]
      have e1 : ((x0.toNat : Int) == 1) = decide (x0 = 1) := u8_eq_of (n := 1) (by omega)
      have e2 : ((x0.toNat : Int) == 2) = decide (x0 = 2) := u8_eq_of (n := 2) (by omega)
      have hD := h.keep (Below.refl _ w).drew
      have hsz : (w.drew).heap.size = w.heap.size := rfl
      clear hk hx hro hg0 hg1 h3 h2 hno hsz
      by_cases c1 : x0 = 1
      · rw [if_pos c1]
        have e1' : ((x0.toNat : Int) == 1) = true := by rw [e1, c1]; rfl
        clear e1 e2 c1
        simp only [Option.bind_some]
        by_cases hs : setE m k x = 0
        · have hst : stepB m (true, k, x) = some (putM m k x) := by simp [stepB, hs]
          rw [hst]
          simp only [Option.map_some]
          have hS := w_BSet_ok k x hs hn hi hD
          clear hst hs hnoD hnoD' h
          go_enter Try.func55, Try.ntmps55
          go_wp2_with fail
          go_still (by kernel_rfl)
          go_wp2_with fail
          refine Calls.mono hS ?_
          rintro e w1 ⟨rfl, h1⟩
          have hfin : BkAfter w b gm v (putM m k x) (n + 1) (img ++ frameL n (recE (true, k, x))) w1 := BkAfter.step ((SameBut.refl w).drew) h1
          clear h1
          go_wp2_with fail
          go_ret
          exact ⟨rfl, hfin⟩
        · have hst : stepB m (true, k, x) = none := by simp [stepB, hs]
          rw [hst]
          simp only [Option.map_none]
          have hS := w_BSet_no k x (by omega) (by omega) hs hD
          have hc : (setE m k x == 0) = false := by simpa using hs
          generalize setE m k x = c at *
          clear hst hs hnoD h
          go_enter Try.func55, Try.ntmps55
          go_wp2_with fail
          go_still (by kernel_rfl)
          go_wp2_with fail
          refine Calls.mono hS ?_
          rintro e w1 ⟨rfl, rfl⟩
          go_wp2_with fail
          go_ret
          exact hnoD' rfl
      · rw [if_neg c1]
        have e1' : ((x0.toNat : Int) == 1) = false := by rw [e1]; simpa using c1
        by_cases c2 : x0 = 2
        · have e2' : ((x0.toNat : Int) == 2) = true := by rw [e2, c2]; rfl
          by_cases c3 : x = []
          · subst c3
            rw [if_pos ⟨c2, rfl⟩]
            clear e1 e2 c1 c2
            simp only [Option.bind_some]
            cases hg : getM m k with
            | some y =>
              have hst : stepB m (false, k, []) = some (delM m k) := by simp [stepB, hg]
              rw [hst]
              simp only [Option.map_some]
              have hS := w_BDel_ok k y hg (hR.keyLen hg).2.2 hn hi hD
              clear hst hg hnoD hnoD' h
              go_enter Try.func55, Try.ntmps55
              go_wp2_with fail
              go_still (by kernel_rfl)
              go_wp2_with fail
              refine Calls.mono hS ?_
              rintro e w1 ⟨rfl, h1⟩
              have hfin : BkAfter w b gm v (delM m k) (n + 1) (img ++ frameL n (recE (false, k, []))) w1 := BkAfter.step ((SameBut.refl w).drew) h1
              clear h1
              go_wp2_with fail
              go_ret
              exact ⟨rfl, hfin⟩
            | none =>
              have hst : stepB m (false, k, []) = none := by simp [stepB, hg]
              rw [hst]
              simp only [Option.map_none]
              have hS := w_BDel_no k hg hD
              clear hst hg hnoD h
              go_enter Try.func55, Try.ntmps55
              go_wp2_with fail
              go_still (by kernel_rfl)
              go_wp2_with fail
              refine Calls.mono hS ?_
              rintro e w1 ⟨rfl, rfl⟩
              go_wp2_with fail
              go_ret
              exact hnoD' rfl
          · rw [if_neg (fun h0 => c3 h0.2)]
            simp only [Option.bind_none]
            have hxe : x.isEmpty = false := by cases x with | nil => exact absurd rfl c3 | cons a l => rfl
            clear e1 e2 c1 c2
            go_enter Try.func55, Try.ntmps55
            go_wp2_with fail
            go_still (by kernel_rfl)
            go_wp2_with fail
            go_ret
            exact hnoD' rfl
        · rw [if_neg (fun h0 => c2 h0.1)]
          have e2' : ((x0.toNat : Int) == 2) = false := by rw [e2]; simpa using c2
          simp only [Option.bind_none]
          clear e1 e2 c1 c2
          go_enter Try.func55, Try.ntmps55
          go_wp2_with fail
          go_still (by kernel_rfl)
          go_wp2_with fail
          go_ret
          exact hnoD' rfl
    · have hro : recOf r = none := by unfold recOf; rw [if_neg (by rw [hg1]; omega)]
      rw [hro]
      simp only [Option.bind_none]
      have h3I : (r.length : Int) < 2 + (x1.toNat : Int) := by omega
      clear hro hg0 hg1 h3
      go_enter Try.func55, Try.ntmps55
      go_wp2_with fail
      go_ret
      exact hno
  · have hro : recOf r = none := by unfold recOf; rw [if_neg (by omega)]
    rw [hro]
    simp only [Option.bind_none]
    have h2I : (r.length : Int) < 2 := by omega
    clear hro h2
    go_enter Try.func55, Try.ntmps55
    go_wp2_with fail
    go_ret
    exact hno
end Go.Proofs.Ytbchkaoocobpfaa
