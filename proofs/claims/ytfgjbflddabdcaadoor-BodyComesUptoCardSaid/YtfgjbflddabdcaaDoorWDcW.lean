/- Walks: a decoder: a step, Write. -/
import Derived.Test.YtfgjbflddabdcaaDoorWDcS
namespace Go.Proofs.YtfgjbflddabdcaaDoor
open Go.RowKit Go.Larder
set_option linter.unusedVariables false
set_option linter.unusedSimpArgs false
def stF : Stg → Nat
  | .hd => 34
  | .dt _ => 60
  | .tr => 61
/-- A decoder that stands at a stage. -/
def DecAt (W : World) (b : Nat) (st : Stg) (out rest : List UInt8) (done : Bool) : Prop :=
  ∃ left A c, BoxAt W b 67 (decC (stF st) rest left A out.length c done false) ∧ OwnL encB W (b + 1) 5 A c out ∧ out.length ≤ 5000 ∧ ∀ n, st = .dt n → left = n ∧ out.length + n ≤ 5000
def StepOut (W : World) (b : Nat) (st : Stg) (out rest : List UInt8) (e : Ending) (W' : World) : Prop :=
  Below b W W' ∧ match stepS st out rest with
    | .short => e = .returned (.tuple #[.int .i64 0, .int .i64 8]) ∧ DecAt W' b st out rest false
    | .err n => e = .returned (.tuple #[.int .i64 0, .int .i64 n]) ∧ n ≠ 0 ∧ n ≠ 8 ∧ ∃ f left A k c, BoxAt W' b 67 (decC f rest left A k c false false)
    | .go st' out' r' => ∃ k : Nat, e = .returned (.tuple #[.int .i64 k, .int .i64 0]) ∧ r' = rest.drop k ∧ k ≤ rest.length ∧ DecAt W' b st' out' rest false
    | .fin r' => ∃ k : Nat, e = .returned (.tuple #[.int .i64 k, .int .i64 0]) ∧ r' = rest.drop k ∧ k ≤ rest.length ∧ DecAt W' b .tr out rest true
theorem dc_step (b : Nat) (st : Stg) (out rest : List UInt8) (hs : rest.length ≤ 1048576) (W : World) (hM : ML W) (hd : DecAt W b st out rest false) :
    Calls Tryd.prog (stF st) #[.pointer (some ⟨b, 0, none⟩), S rest] W (StepOut W b st out rest) := by
  obtain ⟨left, A, c, bx, hown, ho, hl⟩ := hd
  cases st with
  | hd =>
    refine (dc_head b rest out rest (by omega) left A c false false ho W bx hown).mono ?_
    rintro e W' ⟨hb, ho', hp⟩
    refine ⟨hb, ?_⟩
    simp only [stepS]
    cases hq : headS rest with
    | error n =>
      rw [hq] at hp
      simp only at hp ⊢
      obtain ⟨he, hbx⟩ := hp
      by_cases h8 : n = 8
      · rw [if_pos h8]
        subst h8
        exact ⟨he, left, A, c, hbx, ho', ho, fun n h => by cases h⟩
      · rw [if_neg h8]
        exact ⟨he, headS_err hq, h8, _, left, A, _, c, hbx⟩
    | ok p =>
      obtain ⟨n, k⟩ := p
      rw [hq] at hp
      simp only at hp ⊢
      obtain ⟨he, hbx⟩ := hp
      have hk := (head_ok hq).2.2.2.2
      by_cases h5 : 5000 < out.length + n
      · rw [if_pos h5] at he ⊢
        rw [if_pos h5] at he
        exact ⟨he, by omega, by omega, _, n, A, _, c, hbx⟩
      · rw [if_neg h5] at he ⊢
        rw [if_neg h5] at he
        refine ⟨k, he, rfl, hk, n, A, c, ?_, ho', ho, ?_⟩
        · by_cases hn : n = 0
          · rw [if_pos hn] at hbx ⊢; exact hbx
          · rw [if_neg hn] at hbx ⊢; exact hbx
        · intro m hm
          by_cases hn : n = 0
          · rw [if_pos hn] at hm; cases hm
          · rw [if_neg hn] at hm; injection hm with hm; subst hm; exact ⟨rfl, by omega⟩
  | dt n =>
    obtain ⟨rfl, hn5⟩ := hl n rfl
    refine (dc_data b rest out rest (by omega) n hn5 A c false false W bx hown).mono ?_
    rintro e W' ⟨hb, hp⟩
    refine ⟨hb, ?_⟩
    simp only [stepS]
    by_cases h1 : rest.length ≤ n
    · rw [if_pos (.inl h1)] at hp
      rw [if_pos h1]
      exact ⟨hp.1, n, A, c, hp.2.1, hp.2.2, ho, fun m hm => by injection hm with hm; subst hm; exact ⟨rfl, hn5⟩⟩
    · rw [if_neg h1]
      by_cases h13 : rest.drop n = [13]
      · rw [if_pos (.inr h13)] at hp
        rw [if_pos h13]
        exact ⟨hp.1, n, A, c, hp.2.1, hp.2.2, ho, fun m hm => by injection hm with hm; subst hm; exact ⟨rfl, hn5⟩⟩
      · rw [if_neg (fun h => h.elim h1 h13)] at hp
        rw [if_neg h13]
        by_cases h2 : (rest.drop n).take 2 = [13, 10]
        · rw [if_pos h2] at hp ⊢
          obtain ⟨he, A', c', hbx, ho'⟩ := hp
          have hl2 : n + 2 ≤ rest.length := by
            have := congrArg List.length h2
            rw [List.length_take, List.length_drop] at this
            simp at this
            omega
          have hlm : (rest.take n).length = n := by rw [List.length_take]; omega
          refine ⟨n + 2, by rw [he]; norm_cast, rfl, hl2, n, A', c', hbx, ho', by rw [List.length_append, hlm]; omega, fun m hm => by cases hm⟩
        · rw [if_neg h2] at hp ⊢
          exact ⟨hp.1, by omega, by omega, _, n, A, _, c, hp.2.1⟩
  | tr =>
    refine (dc_trailer b rest out rest hs left A c false false W hM bx hown).mono ?_
    rintro e W' ⟨hb, ho', hp⟩
    refine ⟨hb, ?_⟩
    simp only [stepS]
    cases hq : fpE rest with
    | error n =>
      rw [hq] at hp
      simp only at hp ⊢
      by_cases h8 : n = 8
      · rw [if_pos h8]
        subst h8
        exact ⟨hp.1, left, A, c, hp.2, ho', ho, fun n h => by cases h⟩
      · rw [if_neg h8]
        exact ⟨hp.1, fpE_err hq, h8, _, left, A, _, c, hp.2⟩
    | ok p =>
      obtain ⟨o, k⟩ := p
      rw [hq] at hp
      simp only at hp ⊢
      exact ⟨k, hp.1, rfl, fpE_len hq, left, A, c, hp.2, ho', ho, fun n h => by cases h⟩
end Go.Proofs.YtfgjbflddabdcaaDoor
