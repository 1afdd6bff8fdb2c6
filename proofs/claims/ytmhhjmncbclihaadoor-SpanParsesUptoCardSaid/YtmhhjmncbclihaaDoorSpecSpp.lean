/- Ranges, printed. No program in sight. -/
import Derived.Test.YtmhhjmncbclihaaDoorSpecSpan
import Derived.Lib.Join
import Derived.Lib.ItoaLen
namespace Go.Larder
set_option linter.unusedVariables false
set_option linter.unusedSimpArgs false
def sgnL (n : Int) : List UInt8 := if n < 0 then [] else Lib.decDigits n.toNat
def wantS (f : Int × Int) : List UInt8 := sgnL f.1 ++ [45] ++ sgnL f.2
def bytesEq : List UInt8 := [98, 121, 116, 101, 115, 61]
def spL (l : List (Int × Int)) : List UInt8 := bytesEq ++ Lib.join (l.map wantS) [44]
def spE (l : List (Int × Int)) : Except Int (List UInt8) := if checkR l = 0 then .ok (spL l) else .error (checkR l)
theorem join_snocG (vs : List (List UInt8)) (x sep : List UInt8) : Lib.join (vs ++ [x]) sep = if vs.isEmpty then x else Lib.join vs sep ++ sep ++ x := by
  cases vs with
  | nil => simp [Lib.join_one]
  | cons v vs => simp [Lib.join_cons, Lib.joinTail]
theorem join_lenG (sep : List UInt8) (m : Nat) : ∀ (vs : List (List UInt8)), (∀ v ∈ vs, v.length ≤ m) → (Lib.join vs sep).length ≤ vs.length * (m + sep.length) := by
  intro vs h
  rcases nil_or_snoc vs with rfl | ⟨ws, x, rfl⟩
  · simp [Lib.join_nil]
  · rw [join_snocG]
    have hx := h x (by simp)
    by_cases he : ws.isEmpty = true
    · rw [if_pos he]
      have : ws = [] := by simpa using he
      subst this
      simp; omega
    · rw [if_neg he]
      have ih := join_lenG sep m ws (fun v hv => h v (by simp [hv]))
      simp only [List.length_append, List.length_cons, List.length_nil]
      rw [Nat.zero_add, Nat.add_mul]
      omega
termination_by vs => vs.length
decreasing_by simp_all
theorem dec_len {n : Int} (h0 : 0 ≤ n) (h1 : n ≤ 9223372036854775807) : (Lib.decDigits n.toNat).length ≤ 21 := by
  have := Lib.itoa_length_le n (by omega) h1
  unfold Lib.itoa at this
  rwa [if_neg (by omega)] at this
theorem sgn_len {n : Int} (h1 : n ≤ 99999) : (sgnL n).length ≤ 21 := by
  unfold sgnL
  split
  · simp
  · exact dec_len (by omega) (by omega)
theorem wantS_len {f : Int × Int} (h1 : f.1 ≤ 99999) (h2 : f.2 ≤ 99999) : (wantS f).length ≤ 43 := by
  have a := sgn_len h1
  have b := sgn_len h2
  simp only [wantS, List.length_append, List.length_cons, List.length_nil]
  omega
theorem want_bd {a b : Int} (h : isWant (a, b) = true) : -1 ≤ a ∧ a ≤ 99999 ∧ -1 ≤ b ∧ b ≤ 99999 ∧ (a < 0 → 0 ≤ b) := by
  unfold isWant isNum at h
  simp only at h
  split at h
  · simp at h; omega
  · split at h
    · simp at h; omega
    · simp at h; omega
theorem checkR_zero {l : List (Int × Int)} (h : checkR l = 0) : checkP l = 0 ∧ l.length ≤ 20 ∧ ∀ f ∈ l, isWant f = true := by
  unfold checkR at h
  unfold checkP
  split at h
  · omega
  · next h1 =>
    split at h
    · omega
    · refine ⟨if_neg h1, by omega, fun f hf => ?_⟩
      cases hw : isWant f
      · exfalso; apply h1
        rw [Bool.or_eq_true]
        exact .inr (List.any_eq_true.2 ⟨f, hf, by simp [hw]⟩)
      · rfl
end Go.Larder
