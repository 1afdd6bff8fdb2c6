/- A text cut at a byte. No program in sight. -/
import Derived.Test.YtbchkaoocobpfaaDoorBase
import Derived.Lib.Bytealg
namespace Go.Larder
set_option linter.unusedVariables false
set_option linter.unusedSimpArgs false
def cut1 (c : UInt8) : List UInt8 → List UInt8 × List UInt8 × Bool
  | [] => ([], [], false)
  | b :: l => if b == c then ([], l, true) else (b :: (cut1 c l).1, (cut1 c l).2.1, (cut1 c l).2.2)
theorem cut1_none {c : UInt8} : ∀ {l : List UInt8}, Lib.indexByte l c = -1 → cut1 c l = (l, [], false)
  | [], _ => rfl
  | b :: l, h => by
    unfold Lib.indexByte at h
    unfold cut1
    cases hb : (b == c)
    · rw [hb] at h
      simp only [Bool.false_eq_true, if_false] at h ⊢
      have hi : Lib.indexByte l c = -1 := by
        have := Lib.indexByte_ge l c
        split at h
        · next h1 => simpa using h1
        · omega
      rw [cut1_none hi]
    · rw [hb] at h; simp at h
theorem cut1_at {c : UInt8} : ∀ {l : List UInt8} {k : Nat}, Lib.indexByte l c = (k : Int) → cut1 c l = (l.take k, l.drop (k + 1), true) ∧ k < l.length
  | [], k, h => by simp [Lib.indexByte] at h
  | b :: l, k, h => by
    unfold Lib.indexByte at h
    unfold cut1
    cases hb : (b == c)
    · rw [hb] at h
      simp only [Bool.false_eq_true, if_false] at h ⊢
      split at h
      · omega
      · next h1 =>
        have hge := Lib.indexByte_ge l c
        have hne : Lib.indexByte l c ≠ -1 := by simpa using h1
        obtain ⟨j, rfl⟩ : ∃ j, k = j + 1 := ⟨k - 1, by omega⟩
        obtain ⟨h2, h3⟩ := cut1_at (c := c) (l := l) (k := j) (by omega)
        rw [h2]
        exact ⟨by simp, by simp; omega⟩
    · rw [hb] at h
      simp only [if_true] at h ⊢
      obtain rfl : k = 0 := by omega
      exact ⟨by simp, by simp⟩
theorem ixb_cases (l : List UInt8) (c : UInt8) : Lib.indexByte l c = -1 ∨ ∃ k : Nat, Lib.indexByte l c = k := by
  have := Lib.indexByte_ge l c
  by_cases h : Lib.indexByte l c = -1
  · exact .inl h
  · exact .inr ⟨(Lib.indexByte l c).toNat, by omega⟩
theorem cut1_app {c : UInt8} (r : List UInt8) : ∀ {p : List UInt8}, (∀ x ∈ p, x ≠ c) → cut1 c (p ++ c :: r) = (p, r, true)
  | [], _ => by simp [cut1]
  | b :: p, h => by
    have hb : (b == c) = false := by simpa using h b (by simp)
    have ih := cut1_app (c := c) r (p := p) (fun x hx => h x (by simp [hx]))
    rw [List.cons_append]
    unfold cut1
    rw [hb, ih]
    rfl
theorem cut1_true {c : UInt8} : ∀ {l : List UInt8}, (cut1 c l).2.2 = true → l = (cut1 c l).1 ++ c :: (cut1 c l).2.1 ∧ ∀ x ∈ (cut1 c l).1, x ≠ c
  | [], h => by simp [cut1] at h
  | b :: l, h => by
    unfold cut1 at h ⊢
    cases hb : (b == c)
    · rw [hb] at h
      simp only [Bool.false_eq_true, if_false] at h ⊢
      obtain ⟨h1, h2⟩ := cut1_true h
      refine ⟨by rw [List.cons_append, ← h1], fun x hx => ?_⟩
      rcases List.mem_cons.1 hx with rfl | hx
      · simpa using hb
      · exact h2 x hx
    · simp only [if_true]
      have : b = c := by simpa using hb
      exact ⟨by simp [this], by simp⟩
theorem cut1_false {c : UInt8} : ∀ {l : List UInt8}, (cut1 c l).2.2 = false → cut1 c l = (l, [], false) ∧ ∀ x ∈ l, x ≠ c
  | [], _ => ⟨rfl, by simp⟩
  | b :: l, h => by
    unfold cut1 at h ⊢
    cases hb : (b == c)
    · rw [hb] at h
      simp only [Bool.false_eq_true, if_false] at h ⊢
      obtain ⟨h1, h2⟩ := cut1_false h
      rw [h1]
      refine ⟨rfl, fun x hx => ?_⟩
      rcases List.mem_cons.1 hx with rfl | hx
      · simpa using hb
      · exact h2 x hx
    · rw [hb] at h
      simp at h
theorem cut1_len (c : UInt8) : ∀ l : List UInt8, (cut1 c l).1.length + (cut1 c l).2.1.length ≤ l.length
  | [] => by simp [cut1]
  | b :: l => by
    have ih := cut1_len c l
    unfold cut1
    split <;> simp <;> omega
end Go.Larder
