/- A number's digits: they read as the number, they are digits, no nought ahead. No program in sight. -/
import Derived.Test.YtgjikbhehijnaaaDoorSpecNum
import Derived.Lib.AtoiTie
namespace Go.Larder
set_option linter.unusedSimpArgs false
set_option linter.unusedVariables false
theorem dec_step {n : Nat} (h : ¬ n < 10) : Lib.decDigits n = Lib.decDigits (n / 10) ++ [UInt8.ofNat (48 + n % 10)] := by rw [Lib.decDigits, dif_neg h]
theorem dig_nat (k : Nat) (h : k < 10) : (UInt8.ofNat (48 + k)).toNat = 48 + k := by rw [UInt8.toNat_ofNat']; omega
theorem dec_all (n : Nat) : ∀ x ∈ Lib.decDigits n, 48 ≤ x.toNat ∧ x.toNat ≤ 57 := by
  induction n using Nat.strongRecOn with
  | ind n ih =>
    intro x hx
    by_cases h : n < 10
    · rw [Lib.decDigits_one h, List.mem_singleton] at hx
      subst hx
      rw [dig_nat n h]; omega
    · rw [dec_step h, List.mem_append, List.mem_singleton] at hx
      rcases hx with hx | rfl
      · exact ih (n / 10) (by omega) x hx
      · rw [dig_nat _ (by omega)]; omega
theorem dec_ne (n : Nat) : Lib.decDigits n ≠ [] := by
  by_cases h : n < 10
  · rw [Lib.decDigits_one h]; simp
  · rw [dec_step h]; simp
theorem dec_head (n : Nat) (h0 : 1 ≤ n) : ∃ c r, Lib.decDigits n = c :: r ∧ c ≠ 48 := by
  induction n using Nat.strongRecOn with
  | ind n ih =>
    by_cases h : n < 10
    · refine ⟨_, [], Lib.decDigits_one h, fun hc => ?_⟩
      have := congrArg UInt8.toNat hc
      rw [dig_nat n h] at this
      have : (48 : UInt8).toNat = 48 := rfl
      omega
    · obtain ⟨c, r, e, hc⟩ := ih (n / 10) (by omega) (by omega)
      exact ⟨c, r ++ [UInt8.ofNat (48 + n % 10)], by rw [dec_step h, e]; rfl, hc⟩
theorem nmGo_snoc : ∀ (l : List UInt8) (n : Int) (c : UInt8), (∀ x ∈ l, inTab tensTab x = true) → inTab tensTab c = true → nmGo n (l ++ [c]) = 10 * nmGo n l + (c.toNat - 48)
  | [], n, c, _, hc => by rw [List.nil_append, nmGo_yes hc]; rfl
  | b :: l, n, c, h, hc => by
    rw [List.cons_append, nmGo_yes (h b (by simp)), nmGo_yes (h b (by simp))]
    exact nmGo_snoc l _ c (fun x hx => h x (by simp [hx])) hc
theorem dec_tens (n : Nat) : ∀ x ∈ Lib.decDigits n, inTab tensTab x = true := fun x hx => by rw [tens_eq]; exact decide_eq_true (dec_all n x hx)
theorem nm_dec (n : Nat) : nm (Lib.decDigits n) = n := by
  induction n using Nat.strongRecOn with
  | ind n ih =>
    by_cases h : n < 10
    · rw [Lib.decDigits_one h]
      unfold nm
      rw [nmGo_yes (by rw [tens_eq, dig_nat n h]; simp; omega), dig_nat n h]
      unfold nmGo; omega
    · rw [dec_step h]
      unfold nm
      rw [nmGo_snoc _ _ _ (dec_tens _) (by rw [tens_eq, dig_nat _ (by omega)]; simp; omega), dig_nat _ (by omega)]
      have := ih (n / 10) (by omega)
      unfold nm at this
      rw [this]; omega
theorem dec_inj {m n : Nat} (h : Lib.decDigits m = Lib.decDigits n) : m = n := by
  have a := nm_dec m
  rw [h, nm_dec n] at a
  omega
theorem dec_len18 {n : Nat} (h : n ≤ 99999) : (Lib.decDigits n).length ≤ 18 := by
  have e : ∀ m : Nat, m < 10 → (Lib.decDigits m).length = 1 := fun m hm => by rw [Lib.decDigits_one hm]; rfl
  have s : ∀ m : Nat, ¬ m < 10 → (Lib.decDigits m).length = (Lib.decDigits (m / 10)).length + 1 := fun m hm => by rw [dec_step hm]; simp
  by_cases h1 : n < 10
  · rw [e n h1]; omega
  · rw [s n h1]
    by_cases h2 : n / 10 < 10
    · rw [e _ h2]; omega
    · rw [s _ h2]
      by_cases h3 : n / 10 / 10 < 10
      · rw [e _ h3]; omega
      · rw [s _ h3]
        by_cases h4 : n / 10 / 10 / 10 < 10
        · rw [e _ h4]; omega
        · rw [s _ h4, e _ (by omega)]; omega
/-- the reference's count at a number's digits -/
theorem cnt_dec {n : Nat} {m : Int} (h : n ≤ 99999) (hm : (n : Int) ≤ m) : cnt (Lib.decDigits n) m = n := by
  unfold cnt
  rw [nm_dec, if_neg, if_neg (by omega)]
  have hl := dec_len18 h
  rcases Nat.lt_or_ge n 10 with h1 | h1
  · rw [Lib.decDigits_one h1]; simp
  · obtain ⟨c, r, e, hc⟩ := dec_head n (by omega)
    rw [e] at hl ⊢
    simp [hc]
    simpa using hl
theorem decFrom_snoc : ∀ (l : List UInt8) (acc n : Nat) (b : UInt8) (d : Nat), Lib.decFrom acc l = some n → Lib.digitVal b = some d → Lib.decFrom acc (l ++ [b]) = some (n * 10 + d)
  | [], acc, n, b, d, h, hb => by
    simp only [Lib.decFrom, Option.some.injEq] at h
    subst h
    simp [Lib.decFrom, hb]
  | a :: l, acc, n, b, d, h, hb => by
    simp only [Lib.decFrom, List.cons_append] at h ⊢
    cases ha : Lib.digitVal a with
    | none => simp [ha] at h
    | some e =>
      simp only [ha] at h ⊢
      exact decFrom_snoc l _ n b d h hb
theorem digVal_nat (k : Nat) (h : k < 10) : Lib.digitVal (UInt8.ofNat (48 + k)) = some k := by
  unfold Lib.digitVal
  rw [dig_nat k h, if_pos (by omega)]
  congr 1; omega
theorem decFrom_dec (n : Nat) : Lib.decFrom 0 (Lib.decDigits n) = some n := by
  induction n using Nat.strongRecOn with
  | ind n ih =>
    by_cases h : n < 10
    · rw [Lib.decDigits_one h]
      unfold Lib.decFrom
      rw [digVal_nat n h]
      simp [Lib.decFrom]
    · rw [dec_step h, decFrom_snoc _ _ _ _ _ (ih (n / 10) (by omega)) (digVal_nat _ (by omega))]
      congr 1; omega
theorem atoi_dec (n : Nat) : Lib.atoi (Lib.decDigits n) = some (n : Int) := by
  have hd := decFrom_dec n
  have ha := dec_all n
  have hne := dec_ne n
  generalize Lib.decDigits n = l at *
  cases l with
  | nil => exact absurd rfl hne
  | cons c r =>
    have h1 := ha c (by simp)
    have h45 : (c == 45) = false := by
      rw [beq_eq_false_iff_ne]; intro h; subst h; simp at h1
    have h43 : (c == 43) = false := by
      rw [beq_eq_false_iff_ne]; intro h; subst h; simp at h1
    simp only [Lib.atoi, h45, h43, Lib.decNat, List.isEmpty_cons, hd]
    rfl
theorem atoiAll_dec {n : Nat} (h : n ≤ 99999) : Lib.atoiAll (Lib.decDigits n) = .ok (n : Int) := by
  rw [Lib.atoiAll_short _ (dec_len18 h), atoi_dec]
  rfl
end Go.Larder
