/- Any of some bytes among a text's; plain bytes are ascii. No program in sight. -/
import Derived.Test.YtmhhjmncbclihaaDoorSpecTok
import Derived.Lib.IndexAny
namespace Go.Larder
set_option linter.unusedVariables false
set_option linter.unusedSimpArgs false
theorem cAny_cons (b : UInt8) (l : List UInt8) (chars : List UInt8) : Lib.containsAny (b :: l) chars = (chars.contains b || Lib.containsAny l chars) := by
  unfold Lib.containsAny
  have hge := Lib.indexAny_ge chars l
  conv => lhs; unfold Lib.indexAny
  cases hc : chars.contains b
  · simp only [Bool.false_eq_true, if_false, Bool.false_or]
    cases hi : (Lib.indexAny l chars == -1)
    · have : Lib.indexAny l chars ≠ -1 := by simpa using hi
      rw [Bool.eq_iff_iff]
      simp
      omega
    · have : Lib.indexAny l chars = -1 := by simpa using hi
      rw [this]
      rfl
  · rfl
theorem cAny_any (chars : List UInt8) : ∀ l, Lib.containsAny l chars = l.any chars.contains
  | [] => rfl
  | b :: l => by rw [cAny_cons, cAny_any chars l, List.any_cons]
/-- All bytes are plain and none of them is among chars. -/
theorem all_plain_but {f : UInt8 → Bool} {chars : List UInt8} (hf : ∀ c, f c = (isPl c && !chars.contains c)) (l : List UInt8) : l.all f = (l.all isPl && !Lib.containsAny l chars) := by
  rw [cAny_any]
  induction l with
  | nil => rfl
  | cons a l ih =>
    rw [List.all_cons, List.all_cons, List.any_cons, ih, hf]
    cases isPl a <;> cases chars.contains a <;> simp
theorem plain_asc_nat : ∀ n : Fin 256, isPl (UInt8.ofNat n.val) = true → decide ((UInt8.ofNat n.val).toNat < 128) = true := by decide +kernel
theorem plain_asc {l : List UInt8} (h : l.all isPl = true) : l.all (fun b => decide (b.toNat < 128)) = true := by
  rw [List.all_eq_true] at h ⊢
  intro x hx
  have := plain_asc_nat ⟨x.toNat, x.toNat_lt⟩
  simpa using this (by simpa using h x hx)
end Go.Larder
