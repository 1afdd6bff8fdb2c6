/- Walk through the reference's Recover. -/
import Derived.Test.YtbchkaoocobpfaaWRec
namespace Go.Proofs.Ytbchkaoocobpfaa
open Go.RowKit Go.Larder
set_option linter.unusedVariables false
set_option linter.unusedSimpArgs false

theorem rec_eqs (a b : UInt8) (p N : Nat) (h : a.toNat * 256 + b.toNat = N) (hp : p ≤ 140737488351232) :
    IntKind.i64.wrap ((a.toNat : Int) * 256) = (a.toNat : Int) * 256 ∧ IntKind.i64.wrap ((a.toNat : Int) * 256 + (b.toNat : Int)) = (N : Int) ∧ IntKind.i64.wrap ((p : Int) + 1) = (p : Int) + 1 ∧ ((p : Int) + 1).toNat = p + 1 := by
  have ha := a.toNat_lt
  have hb := b.toNat_lt
  refine ⟨IntWalk.i64_in _ ⟨by omega, by omega⟩, ?_, IntWalk.i64_in _ ⟨by omega, by omega⟩, by omega⟩
  rw [IntWalk.i64_in _ ⟨by omega, by omega⟩]
  omega

theorem w_RecoverR (l : List UInt8) (hl : l.length ≤ 140737488351232) (w : World) :
    Calls Try.prog 57 #[S l] w (RecPost w (recover l)) := by
  obtain ⟨R, hR⟩ : ∃ R, R = recover l := ⟨_, rfl⟩
  rw [← hR]
  have HR := Lib.hid hR
  clear hR
  go_enter Try.func57, Try.ntmps57
  go_wp2_with fail
  go_loopw [4, 5] (fun o p' wr => ∃ (p f : Nat) (acc : List (List UInt8)) (A : Option Addr) (c : Nat), p' = .int .i64 p ∧ o = .slice A acc.length c ∧ p ≤ l.length ∧ acc.length ≤ 2147483649 ∧ acc.length * 8 ≤ p ∧ l.length - p < f ∧
      OwnL encL wr w.heap.size 9 A c acc ∧ Below w.heap.size w wr ∧ recGo f (l.drop p) acc p = recover l) (fun _ p' _ => l.length - (intOf p').toNat)
  case atStart => exact ⟨0, l.length + 1, [], none, 0, rfl, rfl, by omega, by simp, by simp, by omega, OwnL.nil _ _ _, Below.refl _ _, rfl⟩
  case round =>
    obtain ⟨p, f, acc, A, c, rfl, rfl, hp, hacc, hacc8, hf, hown, hbel, heq⟩ := hrel
    have hrl : (l.drop p).length = l.length - p := List.length_drop
    by_cases h8 : l.length < p + 8
    · have HR2 := Lib.hid (show R = (acc, p) from by rw [HR.out, ← heq]; exact recGo_none (by omega) rfl (by unfold recStep; rw [if_pos (by omega)]))
      clear heq hrl
      go_wp2_with fail
      go_ret2
      rw [HR2.out]
      exact ⟨A, c, rfl, hown, hbel⟩
    · obtain ⟨a, b, c0, d0, q, hr⟩ := four_of (l.drop p) (by omega)
      have hga : ∀ h, l[p]'h = a := fun h => by
        have := List.drop_eq_getElem_cons h
        rw [hr] at this; injection this with this; exact this.symm
      have hgb : ∀ h, l[p + 1]'h = b := fun h => by
        have h2 := List.drop_eq_getElem_cons (show p < l.length by omega)
        rw [hr] at h2; injection h2 with _ h2
        rw [List.drop_eq_getElem_cons h] at h2; injection h2 with h2; exact h2.symm
      obtain ⟨N, hN⟩ : ∃ N, N = recLen (a :: b :: c0 :: d0 :: q) := ⟨_, rfl⟩
      have hn1 : N < 65536 := by rw [hN]; exact recLen_lt _
      have hN2 : a.toNat * 256 + b.toNat = N := by rw [hN]; rfl
      have E := Lib.hid (rec_eqs a b p N hN2 (by omega))
      have e2' : ((a.toNat : Int) * 256 + (b.toNat : Int)) = (N : Int) := by rw [← hN2]; simp
      have b0 : (p : Int) < (l.length : Int) := by omega
      have b1 : (p : Int) + 1 < (l.length : Int) := by omega
      have b2 : 0 ≤ (p : Int) + 1 := by omega
      have hql : q.length + 4 = l.length - p := by rw [← hrl, hr]; simp
      have hq1 : q.length + 4 ≤ l.length - p := by omega
      have hq2 : l.length - p ≤ q.length + 4 := by omega
      have Heq := Lib.hid (show recGo f (a :: b :: c0 :: d0 :: q) acc p = recover l from by rw [← hr]; exact heq)
      have HN := Lib.hid hN
      have Hr := Lib.hid hr
      have hd4 : List.drop (p + 4) l = q := by rw [← List.drop_drop, hr]; rfl
      have hd0 : List.drop p l = a :: b :: c0 :: d0 :: q := hr
      clear hN2 hN hr heq hql hrl
      by_cases hs : q.length < N + 4
      · have HR2 := Lib.hid (show R = (acc, p) from by
          rw [HR.out, ← Heq.out]
          refine recGo_none (by omega) rfl ?_
          unfold recStep
          split
          · rfl
          · rw [if_pos (by rw [← HN.out]; simp; omega)])
        go_wp2_with fail
        obtain ⟨e1, e2, e3, e4⟩ := E.out
        go_quiet (fail)
        clear e1 e2 e3 e4
        go_wp2_with fail
        go_ret2
        rw [HR2.out]
        exact ⟨A, c, rfl, hown, below_drewN hbel _⟩
      · have hst : recStep acc.length (a :: b :: c0 :: d0 :: q) = if 1000 < N ∨ 2147483648 < acc.length then none else if frameL acc.length (q.take N) == a :: b :: c0 :: d0 :: q.take (N + 4) then some N else none := by
          unfold recStep
          rw [if_neg (by simp; omega), if_neg (by rw [← HN.out]; simp; omega), ← HN.out]
          rfl
        by_cases hbad : 1000 < N ∨ 2147483648 < acc.length
        · have HR2 := Lib.hid (show R = (acc, p) from by
            rw [HR.out, ← Heq.out]
            exact recGo_none (by omega) rfl (by rw [hst, if_pos hbad]))
          clear hst
          by_cases hk : 2147483648 < acc.length
          · clear hbad
            go_wp2_with fail
            obtain ⟨e1, e2, e3, e4⟩ := E.out
            go_quiet (fail)
            clear e1 e2 e3 e4
            go_wp2_with fail
            refine (w_FrameR_out _ _ (.inr (by omega)) _).mono ?_
            rintro e w' ⟨rfl, rfl⟩
            go_wp2_with fail
            go_ret2
            rw [HR2.out]
            exact ⟨A, c, rfl, hown, below_drewN hbel _⟩
          · have h1000 : 1000 < N := by omega
            clear hbad
            go_wp2_with fail
            obtain ⟨e1, e2, e3, e4⟩ := E.out
            go_quiet (fail)
            clear e1 e2 e3 e4
            go_wp2_with fail
            refine (w_FrameR_big acc.length _ (by omega) (by simp; omega) (by simp; omega) _).mono ?_
            rintro e w' ⟨rfl, rfl⟩
            go_wp2_with fail
            go_ret2
            rw [HR2.out]
            exact ⟨A, c, rfl, hown, below_drewN hbel _⟩
        · rw [if_neg hbad] at hst
          have hN1 : N ≤ 1000 := by omega
          have hk1 : acc.length ≤ 2147483648 := by omega
          have hsl2 : (List.take N q).length = N := by simp; omega
          have hfl := frameL_len acc.length (List.take N q)
          rw [hsl2] at hfl
          have htk : List.take (p + 8 + N - p) (a :: b :: c0 :: d0 :: q) = a :: b :: c0 :: d0 :: List.take (N + 4) q := by
            rw [show p + 8 + N - p = N + 4 + 1 + 1 + 1 + 1 from by omega]; rfl
          rw [← htk] at hst
          clear htk
          have hsn : (List.take N q).length ≤ 1000 := by omega
          have Hst := Lib.hid hst
          clear hbad hst hsl2
          cases hcmp : (frameL acc.length (List.take N q) == List.take (p + 8 + N - p) (a :: b :: c0 :: d0 :: q))
          · have HR2 := Lib.hid (show R = (acc, p) from by
              rw [HR.out, ← Heq.out]
              exact recGo_none (by omega) rfl (by rw [Hst.out, hcmp]; rfl))
            have Hfl := Lib.hid hfl; clear hfl
            have Hcmp := Lib.hid hcmp; clear hcmp
            go_wp2_with fail
            obtain ⟨e1, e2, e3, e4⟩ := E.out
            go_quiet (fail)
            clear e1 e2 e3 e4
            go_wp2_with fail
            refine (w_FrameR acc.length (List.take N q) hk1 hsn _).mono ?_
            rintro e w2 ⟨rfl, hb2⟩
            have hfl := Hfl.out
            have hcmp := Hcmp.out
            generalize frameL acc.length (List.take N q) = F at hfl hcmp ⊢
            go_wp2_with fail
            go_ret2
            rw [HR2.out]
            have hbel := (below_drewN hbel _).trans (hb2.mono (below_drewN hbel _).size)
            exact ⟨A, c, rfl, (hown.drewN _).below hb2 (Nat.le_refl _), hbel⟩
          · have Heq2 := Lib.hid (show recGo (f - 1) (l.drop (p + (N + 8))) (acc ++ [List.take N q]) (p + (N + 8)) = recover l from by
              rw [← Heq.out, recGo_some (by omega) rfl (show recStep acc.length (a :: b :: c0 :: d0 :: q) = some N from by rw [Hst.out, hcmp]; rfl), ← List.drop_drop, Hr.out]
              rfl)
            have Hfl := Lib.hid hfl; clear hfl
            have Hcmp := Lib.hid hcmp; clear hcmp
            go_wp2_with fail
            obtain ⟨e1, e2, e3, e4⟩ := E.out
            go_quiet (fail)
            clear e1 e2 e3 e4
            go_wp2_with fail
            refine (w_FrameR acc.length (List.take N q) hk1 hsn _).mono ?_
            rintro e w2 ⟨rfl, hb2⟩
            have hfl := Hfl.out
            have hcmp := Hcmp.out
            have hbel2 := (below_drewN hbel _).trans (hb2.mono (below_drewN hbel _).size)
            have hown2 := (hown.drewN _).below hb2 (Nat.le_refl _)
            generalize frameL acc.length (List.take N q) = F at hfl hcmp ⊢
            go_wp2_with (at_builtin
                         refine wpList_app encL sl_strR [List.take N q] rfl _ _ rfl rfl hown2 #[S (List.take N q)] rfl 0 rfl rfl (by omega) (by simp only [maxLen]; omega) hbel2.size ?_
                         intro g' c' w3 hown3 hg3 hb3 hbg)
            go_roundw
            case rel => exact ⟨p + (N + 8), f - 1, acc ++ [List.take N q], _, c', by go_num, by simp, by omega, by simp; omega, by simp; omega, by omega, hown3, hbel2.trans hb3, Heq2.out⟩
            case measure => simp [intOf]; omega
end Go.Proofs.Ytbchkaoocobpfaa
