/- A part of a body told: where its signs stand. No program in sight. -/
import Derived.Test.YtgjikbhehijnaaaDoorSpecCt
namespace Go.Larder
set_option linter.unusedSimpArgs false
set_option linter.unusedVariables false
theorem ix_app {c : UInt8} {p r : List UInt8} (h : ∀ x ∈ p, x ≠ c) : Lib.indexByte (p ++ c :: r) c = (p.length : Int) := by
  have hc := cut1_app r h
  rcases ixb_cases (p ++ c :: r) c with h1 | ⟨k, h1⟩
  · rw [cut1_none h1] at hc
    injection hc with _ hc
    injection hc with _ hc
    cases hc
  · obtain ⟨h2, h3⟩ := cut1_at h1
    rw [h2] at hc
    injection hc with hc _
    have := congrArg List.length hc
    rw [List.length_take] at this
    rw [h1]
    omega
theorem cnt_bd (l : List UInt8) (m : Int) (hm : -1 ≤ m) : -1 ≤ cnt l m ∧ cnt l m ≤ m := by
  unfold cnt
  split
  · omega
  · next h =>
    simp at h
    have := nm_bd l l.length (Nat.le_refl _)
    split <;> omega
def sg (l : List UInt8) (a b : Nat) : List UInt8 := (l.drop a).take (b - a)
structure CtAt (a b z : Int) (s : List UInt8) (i j : Nat) : Prop where
  i6 : 6 ≤ i
  ij : i < j
  jl : j < s.length
  ix : Lib.indexByte s 45 = (i : Int)
  jx : Lib.indexByte s 47 = (j : Int)
  s1 : sg s 6 i = dL a
  s2 : sg s (i + 1) j = dL (b - 1)
  s3 : s.drop (j + 1) = dL z
theorem ct_at {a b z : Int} {s : List UInt8} (h : isCt a b z s) : ∃ i j, CtAt a b z s i j := by
  obtain ⟨hk, rfl⟩ := h
  have e1 : ctL a b z = (ctPre ++ dL a) ++ 45 :: (dL (b - 1) ++ 47 :: dL z) := by simp [ctL, List.append_assoc]
  have e2 : ctL a b z = (ctPre ++ dL a ++ 45 :: dL (b - 1)) ++ 47 :: dL z := by simp [ctL, List.append_assoc]
  have n1 : ∀ x ∈ ctPre ++ dL a, x ≠ 45 := fun x hx => by
    rw [List.mem_append] at hx
    rcases hx with hx | hx
    · revert x hx; decide
    · exact dL_not (by decide) x hx
  have n2 : ∀ x ∈ ctPre ++ dL a ++ 45 :: dL (b - 1), x ≠ 47 := fun x hx => by
    rw [List.mem_append, List.mem_append, List.mem_cons] at hx
    rcases hx with (hx | hx) | rfl | hx
    · revert x hx; decide
    · exact dL_not (by decide) x hx
    · decide
    · exact dL_not (by decide) x hx
  have hp : ctPre.length = 6 := rfl
  refine ⟨6 + (dL a).length, 6 + (dL a).length + 1 + (dL (b - 1)).length, by omega, by omega, ?_, ?_, ?_, ?_, ?_, ?_⟩
  · rw [e2]; simp only [List.length_append, List.length_cons, hp]; omega
  · rw [e1, ix_app n1, List.length_append, hp]
  · rw [e2, ix_app n2]; simp only [List.length_append, List.length_cons, hp]; omega
  · unfold sg
    rw [e1, List.append_assoc, List.drop_left' hp, List.take_left' (by omega)]
  · unfold sg
    rw [show ctL a b z = (ctPre ++ dL a ++ [45]) ++ (dL (b - 1) ++ 47 :: dL z) from by simp [ctL, List.append_assoc], List.drop_left' (by simp [hp]; omega), List.take_left' (by omega)]
  · rw [show ctL a b z = (ctPre ++ dL a ++ 45 :: dL (b - 1) ++ [47]) ++ dL z from by simp [ctL, List.append_assoc], List.drop_left' (by simp [hp]; omega)]
/-- what the reference reads -/
def rA (s : List UInt8) (i : Nat) : Int := cnt (sg s 6 i) 99999
def rB (s : List UInt8) (i j : Nat) : Int := cnt (sg s (i + 1) j) 99999
def rZ (s : List UInt8) (j : Nat) : Int := cnt (s.drop (j + 1)) 99999
theorem CtAt.nums {a b z : Int} {s : List UInt8} {i j : Nat} (hk : ctOK a b z = true) (h : CtAt a b z s i j) : rA s i = a ∧ rB s i j = b - 1 ∧ rZ s j = z := by
  rw [ctOK_iff] at hk
  unfold rA rB rZ
  rw [h.s1, h.s2, h.s3]
  have d := fun (n : Int) (h0 : 0 ≤ n) (h1 : n ≤ 99999) => cnt_dec (n := n.toNat) (m := 99999) (by omega) (by omega)
  rw [d a (by omega) (by omega), d (b - 1) (by omega) (by omega), d z (by omega) (by omega)]
  omega
end Go.Larder
