/- Books found again out of their records: the plain law. No program in sight. -/
import Derived.Test.YtbchkaoocobpfaaSpecBook
namespace Go.Larder
open Go.RowKit
set_option linter.unusedVariables false
set_option linter.unusedSimpArgs false
/-- what a record says -/
def recOf (r : List UInt8) : Option Ent :=
  if 2 ≤ r.length ∧ 2 + (r.getD 1 0).toNat ≤ r.length then
    (if r.getD 0 0 = 1 then some (true, (r.drop 2).take (r.getD 1 0).toNat, r.drop (2 + (r.getD 1 0).toNat))
     else if r.getD 0 0 = 2 ∧ r.drop (2 + (r.getD 1 0).toNat) = [] then some (false, (r.drop 2).take (r.getD 1 0).toNat, []) else none)
  else none
/-- doing it -/
def stepB (m : Kv) (e : Ent) : Option Kv :=
  if e.1 then (if setE m e.2.1 e.2.2 = 0 then some (putM m e.2.1 e.2.2) else none) else (if (getM m e.2.1).isSome then some (delM m e.2.1) else none)
def openGo : List (List UInt8) → Kv → List Ent → Kv × List Ent
  | [], m, L => (m, L)
  | r :: rs, m, L => match (recOf r).bind fun e => (stepB m e).map fun m' => (e, m') with
    | none => (m, L)
    | some (e, m') => openGo rs m' (L ++ [e])
theorem BookR.step {m m' : Kv} {L : List Ent} (h : BookR m L) {e : Ent} (hd : e.1 = false → e.2.2 = []) (he : stepB m e = some m') : BookR m' (L ++ [e]) := by
  obtain ⟨b, k, x⟩ := e
  unfold stepB at he
  cases b with
  | true =>
    simp only [if_true] at he
    split at he
    · rename_i h0
      injection he with he
      subst he
      exact h.set h0
    · cases he
  | false =>
    simp only [Bool.false_eq_true, if_false] at he
    cases hg : getM m k with
    | none => rw [hg] at he; simp at he
    | some y =>
      rw [hg] at he
      simp only [Option.isSome_some, if_true] at he
      injection he with he
      subst he
      obtain rfl : x = [] := hd rfl
      exact h.del hg
theorem recOf_del {r : List UInt8} {e : Ent} (h : recOf r = some e) : e.1 = false → e.2.2 = [] := by
  intro h0
  unfold recOf at h
  split at h
  · split at h
    · injection h with h; subst h; cases h0
    · split at h
      · injection h with h; subst h; rfl
      · cases h
  · cases h
theorem openGo_ok : ∀ (rs : List (List UInt8)) (m : Kv) (L : List Ent), BookR m L → BookR (openGo rs m L).1 (openGo rs m L).2
  | [], m, L, h => h
  | r :: rs, m, L, h => by
    unfold openGo
    cases hr : recOf r with
    | none => simpa using h
    | some e =>
      cases hs : stepB m e with
      | none => simpa [hs] using h
      | some m' =>
        simp only [Option.bind_some, hs, Option.map_some]
        exact openGo_ok rs m' _ (h.step (recOf_del hr) hs)
theorem openGo_len : ∀ (rs : List (List UInt8)) (m : Kv) (L : List Ent), (openGo rs m L).2.length ≤ L.length + rs.length
  | [], m, L => by simp [openGo]
  | r :: rs, m, L => by
    unfold openGo
    cases (recOf r).bind fun e => (stepB m e).map fun m' => (e, m') with
    | none => simp only; omega
    | some p =>
      obtain ⟨e, m'⟩ := p
      have := openGo_len rs m' (L ++ [e])
      simp only [List.length_append, List.length_cons, List.length_nil] at this ⊢
      omega
theorem openGo_none {r : List UInt8} {rs : List (List UInt8)} {m : Kv} {L : List Ent} (h : (recOf r).bind (fun e => (stepB m e).map fun m' => (e, m')) = none) : openGo (r :: rs) m L = (m, L) := by
  rw [openGo, h]
theorem openGo_some {r : List UInt8} {rs : List (List UInt8)} {m m' : Kv} {L : List Ent} {e : Ent} (h1 : recOf r = some e) (h2 : stepB m e = some m') : openGo (r :: rs) m L = openGo rs m' (L ++ [e]) := by
  rw [openGo, h1]
  simp [h2]
theorem recGo_small : ∀ (f : Nat) (r : List UInt8) (acc : List (List UInt8)) (p : Nat), (∀ x ∈ acc, x.length ≤ 1000) → (acc.length * 8 ≤ p) → (∀ x ∈ (recGo f r acc p).1, x.length ≤ 1000) ∧ (recGo f r acc p).1.length * 8 ≤ p + r.length
  | 0, r, acc, p, h, hp => ⟨h, by simp [recGo]; omega⟩
  | f + 1, r, acc, p, h, hp => by
    unfold recGo
    cases hs : recStep acc.length r with
    | none => exact ⟨h, by simp only; omega⟩
    | some n =>
      have hn : n ≤ 1000 ∧ n + 8 ≤ r.length := by
        unfold recStep at hs
        split at hs
        · cases hs
        · split at hs
          · cases hs
          · split at hs
            · cases hs
            · split at hs
              · injection hs with hs; subst hs; rename_i h1 h2 h3 h4; exact ⟨by omega, by omega⟩
              · cases hs
      have := recGo_small f (r.drop (n + 8)) (acc ++ [(r.drop 4).take n]) (p + (n + 8)) (fun x hx => by
        rcases List.mem_append.1 hx with hx | hx
        · exact h x hx
        · rw [List.mem_singleton] at hx
          subst hx
          rw [List.length_take]
          omega) (by simp only [List.length_append, List.length_cons, List.length_nil]; omega)
      refine ⟨this.1, ?_⟩
      have h2 := this.2
      simp only [List.length_drop] at h2
      simp only
      omega
theorem recover_small (l : List UInt8) : (∀ x ∈ (recover l).1, x.length ≤ 1000) ∧ (recover l).1.length * 8 ≤ l.length := by
  have := recGo_small (l.length + 1) l [] 0 (by simp) (by simp)
  simpa [recover] using this
end Go.Larder
