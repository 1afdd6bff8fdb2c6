/- Walks through token.Split and the reference's Split. -/
import Derived.Test.YtmhhjmncbclihaaWCut
namespace Go.Proofs.Ytmhhjmncbclihaa
open Go.RowKit Go.Larder
set_option linter.unusedVariables false
set_option linter.unusedSimpArgs false

theorem wt_Split (l : List UInt8) (hl : l.length ≤ 140737488351232) (w : World) :
    Calls Try.prog 77 #[S l] w (SlPost encL 9 w (splitE l)) := by
  obtain ⟨R, hR⟩ : ∃ R, R = splitE l := ⟨_, rfl⟩
  rw [← hR]
  have HR := Lib.hid hR
  clear hR
  by_cases hbig : 1000 < l.length
  · have HR2 := Lib.hid (show R = .error 2 from by rw [HR.out]; unfold splitE; rw [if_pos hbig])
    go_enter Try.func77, Try.ntmps77
    go_wp2_with fail
    go_ret2
    rw [HR2.out]
    exact ⟨rfl, Below.refl _ _⟩
  · go_enter Try.func77, Try.ntmps77
    go_wp2_with fail
    refine (w_cut 44 l (by omega) _).mono ?_
    rintro e w1 hpost
    cases hE : cutE 44 l with
    | error n =>
      obtain ⟨rfl, hb⟩ := hpost.err hE
      obtain rfl := cutE_err 44 l n hE
      have HR2 := Lib.hid (show R = .error 3 from by rw [HR.out]; unfold splitE; rw [if_neg (by omega), hE])
      clear hE hpost
      go_wp2_with fail
      go_ret2
      rw [HR2.out]
      exact ⟨rfl, hb⟩
    | ok L =>
      obtain ⟨AL, cL, rfl, hownL, hbw⟩ := hpost.ok_ hE
      clear hpost
      have hLn := cutE_len 44 l L hE
      have HR1 := Lib.hid (show R = if 20 < (L.filter ne).length then .error 2 else .ok (L.filter ne) from by
        rw [HR.out]; unfold splitE; rw [if_neg (by omega), hE])
      clear hE
      have Hread := Lib.hid (hownL.read)
      clear hownL
      go_wp2_with fail
      go_loopw [6, 22] (fun o i' wr => ∃ (k : Nat) (acc : List (List UInt8)) (A : Option Addr) (c : Nat), i' = .int .i64 k ∧ o = .slice A acc.length c ∧ k ≤ L.length ∧ acc.length ≤ k ∧
          OwnL encL wr w1.heap.size 9 A c acc ∧ Below w1.heap.size w1 wr ∧ acc ++ (L.drop k).filter ne = L.filter ne) (fun _ i' _ => L.length - (intOf i').toNat)
      case atStart => exact ⟨0, [], none, 0, rfl, rfl, by omega, by simp, OwnL.nil _ _ _, Below.refl _ _, rfl⟩
      case round =>
        obtain ⟨k, acc, A, c, rfl, rfl, hk, hak, hown, hbel, heq⟩ := hrel
        have Heq := Lib.hid heq; clear heq
        by_cases hlt : k < L.length
        · obtain ⟨x, hx, hs⟩ := drop_step hlt
          have hst := filter_step ne L k x acc hs Heq.out
          obtain ⟨b, off, rfl, hbb, hcell⟩ := (Hread.out.below hbel (Nat.le_refl _)).at_S hx
          clear hx hs
          cases hne : (x == [])
          · have Hst := Lib.hid (hst.1 (by unfold ne; rw [hne]; rfl))
            clear hst
            go_wp2_with (at_builtin
                         refine wpList_app encL sl_str [x] rfl _ _ rfl rfl hown #[S x] rfl 0 rfl rfl (by omega) (by simp only [maxLen]; omega) hbel.size ?_
                         intro g' c' w2 hown1 hg1 hb1 hbg)
            go_roundw
            case rel => exact ⟨k + 1, acc ++ [x], _, c', by go_num, by simp, by omega, by simp; omega, hown1, hbel.trans hb1, Hst.out⟩
            case measure => simp [intOf]; omega
          · have Hst := Lib.hid (hst.2 (by unfold ne; rw [hne]; rfl))
            clear hst
            go_wp2_with fail
            go_roundw
            case rel => exact ⟨k + 1, acc, A, c, by go_num, rfl, by omega, by omega, hown, hbel, Hst.out⟩
            case measure => simp [intOf]; omega
        · have Hacc := Lib.hid (show acc = L.filter ne from by rw [← Heq.out, drop_end hlt]; simp)
          by_cases h20 : 20 < acc.length
          · have HR2 := Lib.hid (show R = .error 2 from by rw [HR1.out, ← Hacc.out, if_pos h20])
            go_wp2_with fail
            go_ret2
            rw [HR2.out]
            exact ⟨rfl, hbw.trans (hbel.mono hbw.size)⟩
          · have HR2 := Lib.hid (show R = .ok acc from by rw [HR1.out, ← Hacc.out, if_neg h20])
            go_wp2_with fail
            go_ret2
            rw [HR2.out]
            exact ⟨A, c, rfl, hown.base_le hbw.size, hbw.trans (hbel.mono hbw.size)⟩

theorem wt_SplitR (l : List UInt8) (hl : l.length ≤ 140737488351232) (w : World) :
    Calls Try.prog 82 #[S l] w (SlPost encL 9 w (splitE l)) := by
  obtain ⟨R, hR⟩ : ∃ R, R = splitE l := ⟨_, rfl⟩
  rw [← hR]
  have HR := Lib.hid hR
  clear hR
  by_cases hbig : 1000 < l.length
  · have HR2 := Lib.hid (show R = .error 2 from by rw [HR.out]; unfold splitE; rw [if_pos hbig])
    go_enter Try.func82, Try.ntmps82
    go_wp2_with fail
    go_ret2
    rw [HR2.out]
    exact ⟨rfl, Below.refl _ _⟩
  · go_enter Try.func82, Try.ntmps82
    go_wp2_with fail
    refine (w_parts 44 l (by omega) _).mono ?_
    rintro e w1 hpost
    obtain ⟨AL, cL, rfl, hownL, hbw⟩ := hpost
    have hE := cutE_parts 44 rfl rfl l
    generalize partsR 44 l false false [] [] = r at hE hownL ⊢
    obtain ⟨L0, ok⟩ := r
    cases ok with
    | false =>
      have hE : cutE 44 l = .error 3 := hE
      have HR2 := Lib.hid (show R = .error 3 from by rw [HR.out]; unfold splitE; rw [if_neg (by omega), hE])
      clear hE
      go_wp2_with fail
      go_ret2
      rw [HR2.out]
      exact ⟨rfl, hbw⟩
    | true =>
      have hE : cutE 44 l = .ok (L0.map trim) := hE
      simp only at hownL ⊢
      generalize L0.map trim = L at hE hownL ⊢
      have hLn := cutE_len 44 l L hE
      have HR1 := Lib.hid (show R = if 20 < (L.filter ne).length then .error 2 else .ok (L.filter ne) from by
        rw [HR.out]; unfold splitE; rw [if_neg (by omega), hE])
      clear hE
      have Hread := Lib.hid (hownL.read)
      clear hownL
      go_wp2_with fail
      go_loopw [6, 21] (fun o i' wr => ∃ (k : Nat) (acc : List (List UInt8)) (A : Option Addr) (c : Nat), i' = .int .i64 k ∧ o = .slice A acc.length c ∧ k ≤ L.length ∧ acc.length ≤ k ∧
          OwnL encL wr w1.heap.size 9 A c acc ∧ Below w1.heap.size w1 wr ∧ acc ++ (L.drop k).filter ne = L.filter ne) (fun _ i' _ => L.length - (intOf i').toNat)
      case atStart => exact ⟨0, [], none, 0, rfl, rfl, by omega, by simp, OwnL.nil _ _ _, Below.refl _ _, rfl⟩
      case round =>
        obtain ⟨k, acc, A, c, rfl, rfl, hk, hak, hown, hbel, heq⟩ := hrel
        have Heq := Lib.hid heq; clear heq
        by_cases hlt : k < L.length
        · obtain ⟨x, hx, hs⟩ := drop_step hlt
          have hst := filter_step ne L k x acc hs Heq.out
          obtain ⟨b, off, rfl, hbb, hcell⟩ := (Hread.out.below hbel (Nat.le_refl _)).at_S hx
          clear hx hs
          cases hne : (x == [])
          · have Hst := Lib.hid (hst.1 (by unfold ne; rw [hne]; rfl))
            clear hst
            go_wp2_with (at_builtin
                         refine wpList_app encL sl_str [x] rfl _ _ rfl rfl hown #[S x] rfl 0 rfl rfl (by omega) (by simp only [maxLen]; omega) hbel.size ?_
                         intro g' c' w2 hown1 hg1 hb1 hbg)
            go_roundw
            case rel => exact ⟨k + 1, acc ++ [x], _, c', by go_num, by simp, by omega, by simp; omega, hown1, hbel.trans hb1, Hst.out⟩
            case measure => simp [intOf]; omega
          · have Hst := Lib.hid (hst.2 (by unfold ne; rw [hne]; rfl))
            clear hst
            go_wp2_with fail
            go_roundw
            case rel => exact ⟨k + 1, acc, A, c, by go_num, rfl, by omega, by omega, hown, hbel, Hst.out⟩
            case measure => simp [intOf]; omega
        · have Hacc := Lib.hid (show acc = L.filter ne from by rw [← Heq.out, drop_end hlt]; simp)
          by_cases h20 : 20 < acc.length
          · have HR2 := Lib.hid (show R = .error 2 from by rw [HR1.out, ← Hacc.out, if_pos h20])
            go_wp2_with fail
            go_ret2
            rw [HR2.out]
            exact ⟨rfl, hbw.trans (hbel.mono hbw.size)⟩
          · have HR2 := Lib.hid (show R = .ok acc from by rw [HR1.out, ← Hacc.out, if_neg h20])
            go_wp2_with fail
            go_ret2
            rw [HR2.out]
            exact ⟨A, c, rfl, hown.base_le hbw.size, hbw.trans (hbel.mono hbw.size)⟩
end Go.Proofs.Ytmhhjmncbclihaa
