/- Walks through log.Recover and the reference's Recover. -/
import Derived.Test.YtbchkaoocobpfaaWFrame
import Derived.Deep.QuietTactic
import Derived.BigQuiet
namespace Go.Proofs.Ytbchkaoocobpfaa
open Go.RowKit Go.Larder
set_option linter.unusedVariables false
set_option linter.unusedSimpArgs false

theorem sl_strR : SlT Try.prog 30 9 1 16 := SlT.mk' (z := .string ByteArray.empty) Try.underlying30 (by kernel_rfl) rfl

theorem four_of {α : Type} (r : List α) (h : 4 ≤ r.length) : ∃ a b c d q, r = a :: b :: c :: d :: q := by
  rcases r with _ | ⟨a, _ | ⟨b, _ | ⟨c, _ | ⟨d, q⟩⟩⟩⟩
  · simp at h
  · simp at h
  · simp at h
  · simp at h
  · exact ⟨a, b, c, d, q, rfl⟩

/-- '([]string, int)'. -/
def RecPost (w : World) (r : List (List UInt8) × Nat) (e : Ending) (w' : World) : Prop :=
  ∃ A c, e = .returned (.tuple #[.slice A r.1.length c, .int .i64 (r.2 : Int)]) ∧ OwnL encL w' w.heap.size 9 A c r.1 ∧ Below w.heap.size w w'

theorem w_Recover (l : List UInt8) (hl : l.length ≤ 140737488351232) (w : World) :
    Calls Try.prog 54 #[S l] w (RecPost w (recover l)) := by
  obtain ⟨R, hR⟩ : ∃ R, R = recover l := ⟨_, rfl⟩
  rw [← hR]
  have HR := Lib.hid hR
  clear hR
  go_enter Try.func54, Try.ntmps54
  go_wp2_with fail
  go_loopw [4, 5] (fun o p' wr => ∃ (p f : Nat) (acc : List (List UInt8)) (A : Option Addr) (c : Nat), p' = .int .i64 p ∧ o = .slice A acc.length c ∧ p ≤ l.length ∧ acc.length ≤ 2147483649 ∧ acc.length * 8 ≤ p ∧ l.length - p < f ∧
      OwnL encL wr w.heap.size 9 A c acc ∧ Below w.heap.size w wr ∧ recGo f (l.drop p) acc p = recover l) (fun _ p' _ => l.length - (intOf p').toNat)
  case atStart => exact ⟨0, l.length + 1, [], none, 0, rfl, rfl, by omega, by simp, by simp, by omega, OwnL.nil _ _ _, Below.refl _ _, rfl⟩
  case round =>
    obtain ⟨p, f, acc, A, c, rfl, rfl, hp, hacc, hacc8, hf, hown, hbel, heq⟩ := hrel
    have Heq := Lib.hid heq; clear heq
    have ht : List.take (l.length - p) (List.drop p l) = List.drop p l := List.take_of_length_le (by simp)
    have hrl : (l.drop p).length = l.length - p := List.length_drop
    obtain ⟨r, hr⟩ : ∃ r, l.drop p = r := ⟨_, rfl⟩
    rw [hr] at ht hrl
    have hsl : List.take (l.length - p) (List.drop p l) = r := by rw [hr]; exact ht
    have Heq := Lib.hid (show recGo f r acc p = recover l from by rw [← hr]; exact Heq.out)
    have Hr := Lib.hid hr; clear hr ht
    have hrl1 : r.length ≤ l.length - p := by omega
    have hrl2 : l.length - p ≤ r.length := by omega
    clear hrl
    by_cases h4 : r.length < 4
    · have HR2 := Lib.hid (show R = (acc, p) from by rw [HR.out, ← Heq.out]; exact recGo_none (by omega) rfl (by unfold recStep; rw [if_pos (by omega)]))
      go_wp2_with fail
      go_ret2
      rw [HR2.out]
      exact ⟨A, c, rfl, hown, hbel⟩
    · obtain ⟨a, b, c0, d0, q, rfl⟩ := four_of r (by omega)
      simp only [List.length_cons] at hrl1 hrl2 h4
      have ho := or_walk a b
      obtain ⟨N, hN⟩ : ∃ N, N = recLen (a :: b :: c0 :: d0 :: q) := ⟨_, rfl⟩
      have hn1 : N < 65536 := by rw [hN]; exact recLen_lt _
      rw [show a.toNat * 256 + b.toNat = N from by rw [hN]; rfl] at ho
      have ho2 : bits .or .i64 (wrap64 ((a.toNat : Int) * 256)) (b.toNat : Int) = (N : Int) := by
        have := a.toNat_lt
        rw [IntWalk.wrap64_in _ ⟨by omega, by omega⟩]; exact ho
      have HN := Lib.hid hN; clear hN
      have hb0 : (0 : Int) < (q.length : Int) + 1 + 1 + 1 + 1 := by omega
      have hb1 : (1 : Int) < (q.length : Int) + 1 + 1 + 1 + 1 := by omega
      by_cases h8 : q.length < N + 4
      · have HR2 := Lib.hid (show R = (acc, p) from by
          rw [HR.out, ← Heq.out]
          refine recGo_none (by omega) rfl ?_
          unfold recStep
          split
          · rfl
          · rw [if_pos (by rw [← HN.out]; simp; omega)])
        go_wp2_with fail
        go_quiet (fail)
        go_wp2_with fail
        go_ret2
        rw [HR2.out]
        exact ⟨A, c, rfl, hown, below_drewN hbel _⟩
      · have hst : recStep acc.length (a :: b :: c0 :: d0 :: q) = if 1000 < N ∨ 2147483648 < acc.length then none else if frameL acc.length (q.take N) == a :: b :: c0 :: d0 :: q.take (N + 4) then some N else none := by
          unfold recStep
          rw [if_neg (by simp; omega), if_neg (by rw [← HN.out]; simp; omega), ← HN.out]
          rfl
        by_cases hbad : 1000 < N ∨ 2147483648 < acc.length
        · have HR2 := Lib.hid (show R = (acc, p) from by
            rw [HR.out, ← Heq.out]
            exact recGo_none (by omega) rfl (by rw [hst, if_pos hbad]))
          clear hst
          by_cases hk : 2147483648 < acc.length
          · clear hbad
            go_wp2_with fail
            go_quiet (fail)
            go_wp2_with fail
            refine (w_Frame_out _ _ (.inr (by omega)) _).mono ?_
            rintro e w' ⟨rfl, rfl⟩
            go_wp2_with fail
            go_ret2
            rw [HR2.out]
            exact ⟨A, c, rfl, hown, below_drewN hbel _⟩
          · have h1000 : 1000 < N := by omega
            clear hbad
            go_wp2_with fail
            go_quiet (fail)
            go_wp2_with fail
            refine (w_Frame_big acc.length _ (by omega) (by simp; omega) (by simp; omega) _).mono ?_
            rintro e w' ⟨rfl, rfl⟩
            go_wp2_with fail
            go_ret2
            rw [HR2.out]
            exact ⟨A, c, rfl, hown, below_drewN hbel _⟩
        · rw [if_neg hbad] at hst
          have hN1 : N ≤ 1000 := by omega
          have hk1 : acc.length ≤ 2147483648 := by omega
          have hsl2 : (List.take N q).length = N := by simp; omega
          have hfl := frameL_len acc.length (List.take N q)
          rw [hsl2] at hfl
          have hsn : (List.take N q).length ≤ 1000 := by omega
          have Hst := Lib.hid hst
          clear hbad hst hsl2
          cases hcmp : (frameL acc.length (List.take N q) == a :: b :: c0 :: d0 :: List.take (N + 4) q)
          · have HR2 := Lib.hid (show R = (acc, p) from by
              rw [HR.out, ← Heq.out]
              exact recGo_none (by omega) rfl (by rw [Hst.out, hcmp]; rfl))
            have Hfl := Lib.hid hfl; clear hfl
            have Hcmp := Lib.hid hcmp; clear hcmp
            go_wp2_with fail
            go_quiet (fail)
            go_wp2_with fail
            refine (w_Frame acc.length (List.take N q) hk1 hsn _).mono ?_
            rintro e w2 ⟨rfl, hb2⟩
            have hfl := Hfl.out
            have hcmp := Hcmp.out
            generalize frameL acc.length (List.take N q) = F at hfl hcmp ⊢
            go_wp2_with fail
            go_ret2
            rw [HR2.out]
            have hbel := (below_drewN hbel _).trans (hb2.mono (below_drewN hbel _).size)
            exact ⟨A, c, rfl, (hown.drewN _).below hb2 (Nat.le_refl _), hbel⟩
          · have Heq2 := Lib.hid (show recGo (f - 1) (l.drop (p + (N + 8))) (acc ++ [List.take N q]) (p + (N + 8)) = recover l from by
              rw [← Heq.out, recGo_some (by omega) rfl (show recStep acc.length (a :: b :: c0 :: d0 :: q) = some N from by rw [Hst.out, hcmp]; rfl), ← List.drop_drop, Hr.out]
              rfl)
            have Hfl := Lib.hid hfl; clear hfl
            have Hcmp := Lib.hid hcmp; clear hcmp
            go_wp2_with fail
            go_quiet (fail)
            go_wp2_with fail
            refine (w_Frame acc.length (List.take N q) hk1 hsn _).mono ?_
            rintro e w2 ⟨rfl, hb2⟩
            have hfl := Hfl.out
            have hcmp := Hcmp.out
            have hbel2 := (below_drewN hbel _).trans (hb2.mono (below_drewN hbel _).size)
            have hown2 := (hown.drewN _).below hb2 (Nat.le_refl _)
            generalize frameL acc.length (List.take N q) = F at hfl hcmp ⊢
            go_wp2_with (at_builtin
                         refine wpList_app encL sl_strR [List.take N q] rfl _ _ rfl rfl hown2 #[S (List.take N q)] rfl 0 rfl rfl (by omega) (by simp only [maxLen]; omega) hbel2.size ?_
                         intro g' c' w3 hown3 hg3 hb3 hbg)
            go_roundw
            case rel => exact ⟨p + (N + 8), f - 1, acc ++ [List.take N q], _, c', by go_num, by simp, by omega, by simp; omega, by simp; omega, by omega, hown3, hbel2.trans hb3, Heq2.out⟩
            case measure => simp [intOf]; omega
end Go.Proofs.Ytbchkaoocobpfaa
