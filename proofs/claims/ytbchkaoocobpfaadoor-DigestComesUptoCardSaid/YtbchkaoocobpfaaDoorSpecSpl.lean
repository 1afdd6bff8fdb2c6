/- A text split at a byte. No program in sight. -/
import Derived.Test.YtbchkaoocobpfaaDoorBase
import Derived.Lib.SplitLaws
import Derived.Lib.Join
namespace Go.Larder
set_option linter.unusedVariables false
set_option linter.unusedSimpArgs false

def spl (c : UInt8) : List UInt8 → List (List UInt8)
  | [] => [[]]
  | b :: l => if b == c then [] :: spl c l else match spl c l with
    | [] => [[b]]
    | p :: ps => (b :: p) :: ps
def jn (c : UInt8) : List (List UInt8) → List UInt8
  | [] => []
  | [p] => p
  | p :: q :: r => p ++ c :: jn c (q :: r)
theorem spl_some (c : UInt8) : ∀ s, ∃ p ps, spl c s = p :: ps
  | [] => ⟨_, _, rfl⟩
  | b :: l => by
    obtain ⟨p, ps, h⟩ := spl_some c l
    unfold spl
    rw [h]
    cases hb : (b == c)
    · exact ⟨b :: p, ps, by simp⟩
    · exact ⟨[], p :: ps, by simp⟩
theorem index_hitc (c : UInt8) (l : List UInt8) : Lib.index (c :: l) [c] = 0 := by
  unfold Lib.index
  simp [List.isPrefixOf]
theorem index_skipc (b c : UInt8) (l : List UInt8) (h : b ≠ c) : Lib.index (b :: l) [c] = if Lib.index l [c] == -1 then -1 else Lib.index l [c] + 1 := by
  conv => lhs; unfold Lib.index
  have : ([c] : List UInt8).isPrefixOf (b :: l) = false := by
    simp [List.isPrefixOf]
    exact fun e => h e.symm
  rw [this]
  rfl
theorem splitK_spl (c : UInt8) : ∀ s : List UInt8, Lib.splitK [c] 0 (s.count c) s = spl c s
  | [] => rfl
  | b :: l => by
    have ih := splitK_spl c l
    cases hb : (b == c)
    · have hbc : b ≠ c := by simpa using hb
      have hcnt : (b :: l).count c = l.count c := List.count_cons_of_ne hbc
      obtain ⟨p, ps, hs⟩ := spl_some c l
      have hspl : spl c (b :: l) = (b :: p) :: ps := by unfold spl; rw [hb, hs]; rfl
      rw [hcnt, hspl]
      rw [hs] at ih
      cases hk : l.count c with
      | zero =>
        rw [hk] at ih
        simp only [Lib.splitK] at ih ⊢
        injection ih with h1 h2
        rw [h1, h2]
      | succ k =>
        rw [hk] at ih
        unfold Lib.splitK at ih ⊢
        rw [index_skipc b c l hbc]
        cases hi : (Lib.index l [c] == -1)
        · rw [hi] at ih
          have hge := Lib.index_ge l [c]
          have hne : Lib.index l [c] ≠ -1 := by simpa using hi
          have e1 : ((Lib.index l [c] + 1 == -1)) = false := by simp; omega
          have e2 : (Lib.index l [c] + 1).toNat = (Lib.index l [c]).toNat + 1 := by omega
          simp only [Bool.false_eq_true, if_false, e1, e2] at ih ⊢
          injection ih with h1 h2
          rw [← h1, ← h2]
          simp [Nat.add_right_comm]
        · rw [hi] at ih
          simp only [if_true] at ih
          injection ih with h1 h2
          subst h1 h2
          simp
    · have hbc : b = c := by simpa using hb
      subst hbc
      have hcnt : (b :: l).count b = l.count b + 1 := List.count_cons_self
      rw [hcnt]
      unfold Lib.splitK
      rw [index_hitc]
      simp [spl, ih]
theorem split_spl (c : UInt8) (s : List UInt8) : Lib.split s [c] = spl c s := by
  unfold Lib.split
  rw [Lib.count_one]
  exact splitK_spl c s
theorem jn_cons (c b : UInt8) (p : List UInt8) (ps : List (List UInt8)) : jn c ((b :: p) :: ps) = b :: jn c (p :: ps) := by
  cases ps <;> simp [jn]
theorem jn_spl (c : UInt8) : ∀ s, jn c (spl c s) = s
  | [] => rfl
  | b :: l => by
    have ih := jn_spl c l
    obtain ⟨p, ps, hs⟩ := spl_some c l
    rw [hs] at ih
    unfold spl
    rw [hs]
    cases hb : (b == c)
    · simp only [Bool.false_eq_true, if_false]
      rw [jn_cons, ih]
    · have hbc : b = c := by simpa using hb
      subst hbc
      simp [jn, ih]
theorem spl_free {c : UInt8} : ∀ {p : List UInt8}, (∀ x ∈ p, x ≠ c) → spl c p = [p]
  | [], _ => rfl
  | b :: p, h => by
    unfold spl
    have hb : (b == c) = false := by simpa using h b (by simp)
    rw [spl_free (fun x hx => h x (by simp [hx])), hb]
    rfl
theorem spl_app {c : UInt8} (s : List UInt8) : ∀ {p : List UInt8}, (∀ x ∈ p, x ≠ c) → spl c (p ++ c :: s) = p :: spl c s
  | [], _ => by simp [spl]
  | b :: p, h => by
    have hb : (b == c) = false := by simpa using h b (by simp)
    have ih := spl_app (c := c) s (p := p) (fun x hx => h x (by simp [hx]))
    rw [List.cons_append]
    conv => lhs; unfold spl
    rw [ih, hb]
    rfl
theorem spl_mem {c : UInt8} : ∀ {s p : List UInt8}, p ∈ spl c s → ∀ x ∈ p, x ≠ c
  | [], p, h, x, hx => by simp [spl] at h; subst h; simp at hx
  | b :: l, p, h, x, hx => by
    obtain ⟨q, qs, hs⟩ := spl_some c l
    unfold spl at h
    rw [hs] at h
    cases hb : (b == c)
    · rw [hb] at h
      simp only [Bool.false_eq_true, if_false] at h
      rcases List.mem_cons.1 h with rfl | h
      · rcases List.mem_cons.1 hx with rfl | hx
        · simpa using hb
        · exact spl_mem (s := l) (by rw [hs]; simp) x hx
      · exact spl_mem (s := l) (by rw [hs]; simp [h]) x hx
    · rw [hb] at h
      simp only [if_true] at h
      rcases List.mem_cons.1 h with rfl | h
      · simp at hx
      · exact spl_mem (s := l) (by rw [hs]; exact h) x hx
theorem spl_jn {c : UInt8} : ∀ {ps : List (List UInt8)}, ps ≠ [] → (∀ p ∈ ps, ∀ x ∈ p, x ≠ c) → spl c (jn c ps) = ps
  | [], h, _ => absurd rfl h
  | [p], _, h => spl_free (h p (by simp))
  | p :: q :: r, _, h => by
    unfold jn
    rw [spl_app _ (h p (by simp)), spl_jn (by simp) (fun y hy => h y (List.mem_cons_of_mem _ hy))]
theorem spl_len (c : UInt8) : ∀ s : List UInt8, (spl c s).length = s.count c + 1
  | [] => rfl
  | b :: l => by
    obtain ⟨p, ps, hs⟩ := spl_some c l
    have ih := spl_len c l
    rw [hs] at ih
    unfold spl
    rw [hs]
    cases hb : (b == c)
    · have hbc : b ≠ c := by simpa using hb
      rw [List.count_cons_of_ne hbc]
      simpa using ih
    · have hbc : b = c := by simpa using hb
      subst hbc
      rw [List.count_cons_self]
      simpa using ih
theorem jn_len (c : UInt8) : ∀ (ps : List (List UInt8)), ∀ p ∈ ps, p.length ≤ (jn c ps).length
  | [], p, h => by simp at h
  | [q], p, h => by simp at h; subst h; simp [jn]
  | q :: r :: ps, p, h => by
    have ih := jn_len c (r :: ps)
    unfold jn
    rcases List.mem_cons.1 h with rfl | h
    · simp
    · have := ih p h
      simp at this ⊢
      omega
theorem spl_mem_len {c : UInt8} {s p : List UInt8} (h : p ∈ spl c s) : p.length ≤ s.length := by
  have := jn_len c (spl c s) p h
  rwa [jn_spl] at this
end Go.Larder
