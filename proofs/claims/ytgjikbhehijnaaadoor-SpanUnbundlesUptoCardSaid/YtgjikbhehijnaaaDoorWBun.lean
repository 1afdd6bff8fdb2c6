/- Walks: span.Bundle, the reference's Bundle. -/
import Derived.Test.YtgjikbhehijnaaaDoorWCt
import Derived.Test.YtgjikbhehijnaaaDoorWIs
import Derived.Test.YtgjikbhehijnaaaDoorWBld
import Derived.Test.YtgjikbhehijnaaaDoorWRef0
import Derived.Test.YtgjikbhehijnaaaDoorSpecBun
namespace Go.Proofs.YtgjikbhehijnaaaDoor
open Go.RowKit Go.Larder
set_option linter.unusedVariables false
set_option linter.unusedSimpArgs false
theorem w_isBoundary (bd : List UInt8) (hl : bd.length ≤ 140737488351232) (w : World) :
    Calls Tryd.prog 50 #[S bd] w fun e w' => e = .returned (.bool (isTok bd && decide (bd.length ≤ 30))) ∧ w = w' := by
  have hit := fun w => w_IsToken bd hl w
  generalize isTok bd = t at *
  by_cases h : bd.length ≤ 30
  · rw [decide_eq_true h]
    cases t
    · go_enter Tryd.func50, Tryd.ntmps50
      go_wp2_with (go_at_call 76; refine (hit _).mono ?_; rintro e w' ⟨rfl, rfl⟩)
      go_ret
      exact ⟨rfl, rfl⟩
    · go_enter Tryd.func50, Tryd.ntmps50
      go_wp2_with (go_at_call 76; refine (hit _).mono ?_; rintro e w' ⟨rfl, rfl⟩)
      go_ret
      exact ⟨by simp; omega, rfl⟩
  · rw [decide_eq_false h]
    cases t
    · go_enter Tryd.func50, Tryd.ntmps50
      go_wp2_with (go_at_call 76; refine (hit _).mono ?_; rintro e w' ⟨rfl, rfl⟩)
      go_ret
      exact ⟨rfl, rfl⟩
    · go_enter Tryd.func50, Tryd.ntmps50
      go_wp2_with (go_at_call 76; refine (hit _).mono ?_; rintro e w' ⟨rfl, rfl⟩)
      go_ret
      exact ⟨by simp; omega, rfl⟩
theorem bunE_3 {bd s : List UInt8} {l : List (Int × Int)} (h : (isTok bd && decide (bd.length ≤ 30)) = false) : bunE bd s l = .error 3 := by unfold bunE; rw [h]; rfl
theorem bunE_1 {bd s : List UInt8} {l : List (Int × Int)} (h : (isTok bd && decide (bd.length ≤ 30)) = true) (h2 : ¬ (1 ≤ l.length ∧ l.length ≤ 20)) : bunE bd s l = .error 1 := by unfold bunE; rw [h, if_pos rfl, if_neg h2]
theorem bunE_go {bd s : List UInt8} {l : List (Int × Int)} (h : (isTok bd && decide (bd.length ≤ 30)) = true) (h2 : 1 ≤ l.length ∧ l.length ≤ 20) : bunE bd s l = bunGo bd s l [] := by unfold bunE; rw [h, if_pos rfl, if_pos h2]
set_option maxHeartbeats 4000000 in
theorem w_BundleR (bd s : List UInt8) (l : List (Int × Int)) (hbl : bd.length ≤ 140737488351232) (hsl : s.length ≤ 140737488351232) (hll : l.length ≤ 140737488351232) (hok : ∀ x ∈ l, (-9223372036854775808 ≤ x.1 ∧ x.1 ≤ 9223372036854775807) ∧ (-9223372036854775808 ≤ x.2 ∧ x.2 ≤ 9223372036854775807)) (A : Option Addr) (c : Nat) (w : World) (hr : ReadL encII w w.heap.size A l) :
    Calls Tryd.prog 60 #[S bd, S s, .slice A l.length c] w (StPost w (bunE bd s l)) := by
  have hib := fun w => w_TokenR bd hbl w
  obtain ⟨R, hR⟩ : ∃ R, bunE bd s l = R := ⟨_, rfl⟩
  rw [hR]
  cases ht : isTok bd
  · have Hq := Lib.hid (hR.symm.trans (bunE_3 (by rw [ht]; rfl)))
    rw [ht] at hib
    clear ht hR
    go_enter Tryd.func60, Tryd.ntmps60
    go_wp2_with (go_at_call 56; refine (hib _).mono ?_; rintro e w' ⟨rfl, rfl⟩)
    go_ret2
    rw [Hq.out]
    exact ⟨rfl, Below.refl _ _⟩
  · rw [ht] at hib
    by_cases hb30 : bd.length ≤ 30
    · have hb : (isTok bd && decide (bd.length ≤ 30)) = true := by rw [ht, decide_eq_true hb30]; rfl
      by_cases hn : 1 ≤ l.length ∧ l.length ≤ 20
      · have HR := Lib.hid (show bunGo bd s l [] = R from (bunE_go hb hn).symm.trans hR)
        clear hb ht hR
        obtain ⟨hn1, hn2⟩ := hn
        have hout := fun w => w_outside l.length 1 20 w
        rw [show (decide ((l.length : Int) < 1) || decide ((20 : Int) < l.length)) = false from by simp; omega] at hout
        go_enter Tryd.func60, Tryd.ntmps60
        go_wp2_with (first
          | (go_at_call 56; refine (hib _).mono ?_; rintro e w' ⟨rfl, rfl⟩)
          | (go_at_call 42; refine (hout _).mono ?_; rintro e w' ⟨rfl, rfl⟩))
        go_loopw [8, 26] (fun o i' wr => ∃ (k : Nat) (acc : List UInt8), i' = .int .i64 k ∧ o = S acc ∧ k ≤ l.length ∧ Below w.heap.size w wr ∧ acc.length ≤ 100200 * k ∧ Hid (bunGo bd s (l.drop k) acc = R)) (fun _ i' _ => l.length - (intOf i').toNat)
        case atStart => exact ⟨0, [], rfl, rfl, by omega, Below.refl _ _, by simp, HR⟩
        case round =>
          obtain ⟨k, acc, rfl, rfl, hk, hbel, hacc, heq⟩ := hrel
          have hbs := hbel.size
          by_cases hlt : k < l.length
          · obtain ⟨⟨a, b⟩, hx, hs⟩ := drop_step hlt
            obtain ⟨⟨a0, a1⟩, b0, b1⟩ := hok _ (List.mem_of_getElem? hx)
            obtain ⟨g, off, rfl, hgb, hc0, hc1⟩ := (hr.below hbel (Nat.le_refl _)).at_II hx
            simp only at a0 a1 b0 b1 hc0 hc1
            have heq2 := heq.out
            rw [hs] at heq2
            have hbA : Below wr.heap.size wr (wr.alloc (.cells #[.int .i64 a, .int .i64 b] 61)) := (Below.refl _ _).alloc (Nat.le_refl _) _
            have hbel2 := hbel.trans (hbA.mono hbs)
            have bx := BoxAt.new wr [.int .i64 a, .int .i64 b] 61
            have hpc := fun w => w_PContentR a b s.length w
            cases hc : ctOK a b s.length
            · have Hq := Lib.hid (heq2.symm.trans (bunGo_no (x := (a, b)) hc))
              rw [ctE_no hc] at hpc
              clear heq2 hs hx hc
              go_wp2_with fail
              refine (hpc _).mono ?_
              rintro e w1 ⟨rfl, hb1⟩
              go_wp2_with fail
              go_ret2
              rw [Hq.out]
              exact ⟨rfl, hbel2.trans (hb1.mono hbel2.size)⟩
            · rw [bunGo_yes (x := (a, b)) hc] at heq2
              have Heq := Lib.hid heq2
              have hpl := bunPart_len (s := s) (x := (a, b)) hb30 hc
              have htl := ct_len hc
              rw [ctE_yes hc] at hpc
              obtain ⟨h1, h2, h3, h4⟩ := ctOK_iff.1 hc
              have hcl := Nat.le_of_eq (cut_len (s := s) h1 h2 h3)
              have sl : ∀ w, (Instr.slice 9 (.string ⟨s.toArray⟩) (some (.int .i64 a)) (some (.int .i64 b)) none).run Tryd.prog w = .ok (.string ⟨(cutL s a b).toArray⟩) w := fun w => run_sliceS 9 Tryd.underlying9 s a b h1 (by omega) h3 w
              have HP := Lib.hid (show bunPart bd s (a, b) = bunHead bd ++ ctL a b s.length ++ [13, 10, 13, 10] ++ cutL s a b ++ [13, 10] from rfl)
              generalize ctL a b s.length = T at *
              generalize cutL s a b = C at *
              generalize bunPart bd s (a, b) = Pt at *
              have hC2 : C.length ≤ 99999 := by omega
              clear heq2 hs hx hc
              go_wp2_with fail
              refine (hpc _).mono ?_
              rintro e w1 ⟨rfl, hb1⟩
              have bx1 := bx.keep hb1
              have q0 := bx1.cell (j := 0) rfl
              have q1 := bx1.cell (j := 1) rfl
              have hbel3 := hbel2.trans (hb1.mono hbel2.size)
              go_wp2_with fail
              go_roundw
              case rel => exact ⟨k + 1, acc ++ Pt, by go_num, by rw [HP.out]; simp [bunHead], by omega, hbel3, by simp; omega, Heq⟩
              case measure => simp [intOf]; omega
          · obtain rfl : k = l.length := by omega
            have heq2 := heq.out
            rw [List.drop_length] at heq2
            have Hq := Lib.hid (show R = .ok (acc ++ [45, 45] ++ bd ++ [45, 45, 13, 10]) from heq2.symm)
            clear heq2
            go_wp2_with fail
            go_ret2
            rw [Hq.out]
            exact ⟨by simp, hbel⟩
      · have Hq := Lib.hid (hR.symm.trans (bunE_1 hb hn))
        have hout := fun w => w_outside l.length 1 20 w
        rw [show (decide ((l.length : Int) < 1) || decide ((20 : Int) < l.length)) = true from by simp; omega] at hout
        clear hb ht hR hn
        go_enter Tryd.func60, Tryd.ntmps60
        go_wp2_with (first
          | (go_at_call 56; refine (hib _).mono ?_; rintro e w' ⟨rfl, rfl⟩)
          | (go_at_call 42; refine (hout _).mono ?_; rintro e w' ⟨rfl, rfl⟩))
        go_ret2
        rw [Hq.out]
        exact ⟨rfl, Below.refl _ _⟩
    · have Hq := Lib.hid (hR.symm.trans (bunE_3 (by rw [ht, decide_eq_false hb30]; rfl)))
      clear ht hR
      go_enter Tryd.func60, Tryd.ntmps60
      go_wp2_with (go_at_call 56; refine (hib _).mono ?_; rintro e w' ⟨rfl, rfl⟩)
      go_ret2
      rw [Hq.out]
      exact ⟨rfl, Below.refl _ _⟩
end Go.Proofs.YtgjikbhehijnaaaDoor
