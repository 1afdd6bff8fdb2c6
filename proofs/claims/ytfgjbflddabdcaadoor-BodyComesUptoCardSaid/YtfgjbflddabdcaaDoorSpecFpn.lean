/- Fields parsed: an error has a number; no more bytes than there are. No program in sight. -/
import Derived.Test.YtfgjbflddabdcaaDoorSpecFp
import Derived.Test.YtfgjbflddabdcaaDoorSpecDcd
namespace Go.Larder
open Go.RowKit
set_option linter.unusedVariables false
set_option linter.unusedSimpArgs false
theorem lineE_err {s : List UInt8} {m : Nat} {e : Int} (h : lineE s m = .error e) : e ≠ 0 := by
  unfold lineE at h
  split at h
  · split at h <;> (injection h with h; omega)
  · split at h
    · injection h with h; omega
    · cases h
theorem lineE_len {s l : List UInt8} {m : Nat} (h : lineE s m = .ok l) : l.length + 2 ≤ s.length := by
  rcases index_cases s [13, 10] with h1 | ⟨i, h1, hi⟩
  · rw [line_none h1] at h; split at h <;> cases h
  · rw [line_at h1] at h
    split at h
    · cases h
    · injection h with h
      subst h
      simp only [List.length_cons, List.length_nil] at hi
      rw [List.length_take]
      omega
theorem fp_fin : ∀ (n : Nat) (rest : List UInt8) (k : Nat) (out : List (List UInt8 × List UInt8)), rest.length < n →
    (∀ e, fpGo n rest k out = .error e → e ≠ 0) ∧ (∀ o k', fpGo n rest k out = .ok (o, k') → k' ≤ k + rest.length)
  | 0, _, _, _, h => absurd h (Nat.not_lt_zero _)
  | n + 1, rest, k, out, hn => by
    cases hl : lineE rest 1100 with
    | error e =>
      rw [fp_err hl]
      exact ⟨fun e' h => by injection h with h; subst h; exact lineE_err hl, fun o k' h => by cases h⟩
    | ok l =>
      have hlen := lineE_len hl
      cases hem : l.isEmpty
      · by_cases ho : out.length = 30
        · rw [fp_full hl hem ho]
          exact ⟨fun e' h => by injection h with h; omega, fun o k' h => by cases h⟩
        · cases hc : ((cut1 58 l).2.2 && isTok (cut1 58 l).1)
          · rw [fp_syn hl hem ho hc]
            exact ⟨fun e' h => by injection h with h; omega, fun o k' h => by cases h⟩
          · by_cases hk : chkF (cut1 58 l).1 (trim (cut1 58 l).2.1) = 0
            · rw [fp_step hl hem ho hc hk]
              have ih := fp_fin n (rest.drop (l.length + 2)) (k + l.length + 2) (out ++ [((cut1 58 l).1, trim (cut1 58 l).2.1)]) (by rw [List.length_drop]; omega)
              refine ⟨ih.1, fun o k' h => ?_⟩
              have := ih.2 o k' h
              rw [List.length_drop] at this
              omega
            · rw [fp_chk hl hem ho hc hk]
              exact ⟨fun e' h => by injection h with h; subst h; exact hk, fun o k' h => by cases h⟩
      · have : l = [] := by simpa using hem
        subst this
        rw [fp_end hl]
        refine ⟨fun e' h => (by cases h), fun o k' h => ?_⟩
        injection h with h
        injection h with _ h
        omega
theorem fpE_err {s : List UInt8} {e : Int} (h : fpE s = .error e) : e ≠ 0 := (fp_fin (s.length + 1) s 0 [] (Nat.lt_succ_self _)).1 e h
theorem fpE_len {s : List UInt8} {o : List (List UInt8 × List UInt8)} {k : Nat} (h : fpE s = .ok (o, k)) : k ≤ s.length := by
  have := (fp_fin (s.length + 1) s 0 [] (Nat.lt_succ_self _)).2 o k h
  omega
theorem headS_err {s : List UInt8} {e : Int} (h : headS s = .error e) : e ≠ 0 := by
  unfold headS at h
  split at h
  · injection h with h; omega
  · split at h
    · injection h with h; omega
    · split at h
      · injection h with h; omega
      · split at h
        · cases h
        · injection h with h; omega
end Go.Larder
namespace Go.Larder
open Go.RowKit
theorem step_err {s : Stg} {out r : List UInt8} {e : Int} (h : stepS s out r = .err e) : e ≠ 0 ∧ e ≠ 8 := by
  unfold stepS at h
  cases s with
  | hd =>
    simp only at h
    cases hq : headS r with
    | error n =>
      simp only [hq] at h
      split at h
      · cases h
      · next h8 => injection h with h; subst h; exact ⟨headS_err hq, h8⟩
    | ok p =>
      obtain ⟨n, k⟩ := p
      simp only [hq] at h
      split at h
      · injection h with h; omega
      · cases h
  | dt n =>
    simp only at h
    split at h
    · cases h
    · split at h
      · cases h
      · split at h
        · cases h
        · injection h with h; omega
  | tr =>
    simp only at h
    cases hq : fpE r with
    | error n =>
      simp only [hq] at h
      split at h
      · cases h
      · next h8 => injection h with h; subst h; exact ⟨fpE_err hq, h8⟩
    | ok p => obtain ⟨a, k⟩ := p; simp only [hq] at h; cases h
theorem rd_err_ne : ∀ (k : Nat) {s : Stg} {out r : List UInt8} {e : Int}, r.length < k → rdS s out r = .err e → e ≠ 0 ∧ e ≠ 8
  | 0, _, _, _, _, h, _ => absurd h (Nat.not_lt_zero _)
  | k + 1, s, out, r, e, hk, h => by
    cases hq : stepS s out r with
    | short => rw [rd_short hq] at h; cases h
    | err e' => rw [rd_err hq] at h; injection h with h; subst h; exact step_err hq
    | fin r2 => rw [rd_fin hq] at h; cases h
    | go s2 out2 r2 => rw [rd_go hq] at h; exact rd_err_ne k (by have := step_shrinks hq; omega) h
end Go.Larder
