/- A part of a body told: printed, read. No program in sight. -/
import Derived.Test.YtgjikbhehijnaaaDoorSpecDec
import Derived.Test.YtgjikbhehijnaaaDoorSpecCutOne
namespace Go.Larder
set_option linter.unusedSimpArgs false
set_option linter.unusedVariables false
abbrev dL (n : Int) : List UInt8 := Lib.decDigits n.toNat
def ctOK (a b z : Int) : Bool := decide (0 ≤ a) && decide (a < b) && decide (b ≤ z) && decide (z ≤ 99999)
def ctPre : List UInt8 := [98, 121, 116, 101, 115, 32]
def ctL (a b z : Int) : List UInt8 := ctPre ++ dL a ++ [45] ++ dL (b - 1) ++ [47] ++ dL z
def ctE (a b z : Int) : Except Int (List UInt8) := if ctOK a b z = true then .ok (ctL a b z) else .error 1
theorem ctOK_iff {a b z : Int} : ctOK a b z = true ↔ 0 ≤ a ∧ a < b ∧ b ≤ z ∧ z ≤ 99999 := by unfold ctOK; simp; omega
/-- The text tells the part from a to b of z bytes. -/
def isCt (a b z : Int) (s : List UInt8) : Prop := ctOK a b z = true ∧ ctL a b z = s
theorem dL_not {n : Int} {c : UInt8} (hc : c.toNat < 48 ∨ 57 < c.toNat) : ∀ x ∈ dL n, x ≠ c := fun x hx e => by
  have := dec_all n.toNat x hx
  subst e; omega
theorem ct_len {a b z : Int} (h : ctOK a b z = true) : (ctL a b z).length ≤ 70 := by
  rw [ctOK_iff] at h
  have h1 := dec_len18 (n := a.toNat) (by omega)
  have h2 := dec_len18 (n := (b - 1).toNat) (by omega)
  have h3 := dec_len18 (n := z.toNat) (by omega)
  simp only [ctL, ctPre, List.length_append, List.length_cons, List.length_nil, dL]
  omega
/-- the part's numbers, read off by cuts -/
theorem ct_cuts {a b z : Int} {s : List UInt8} (h : isCt a b z s) : ∃ r, s = ctPre ++ r ∧ cut1 47 r = (dL a ++ 45 :: dL (b - 1), dL z, true) ∧ cut1 45 (dL a ++ 45 :: dL (b - 1)) = (dL a, dL (b - 1), true) := by
  obtain ⟨_, rfl⟩ := h
  refine ⟨(dL a ++ 45 :: dL (b - 1)) ++ 47 :: dL z, by simp [ctL, List.append_assoc], ?_, ?_⟩
  · exact cut1_app _ (fun x hx => by
      rw [List.mem_append, List.mem_cons] at hx
      rcases hx with hx | rfl | hx
      · exact dL_not (by decide) x hx
      · decide
      · exact dL_not (by decide) x hx)
  · exact cut1_app _ (dL_not (by decide))
theorem ct_unique {a b z a' b' z' : Int} {s : List UInt8} (h : isCt a b z s) (h' : isCt a' b' z' s) : a = a' ∧ b = b' ∧ z = z' := by
  obtain ⟨r, e, c1, c2⟩ := ct_cuts h
  obtain ⟨r', e', c1', c2'⟩ := ct_cuts h'
  have hr : r = r' := by rw [e] at e'; exact List.append_cancel_left e'
  subst hr
  rw [c1] at c1'
  injection c1' with q1 q2
  injection q2 with q2 _
  rw [q1] at c2
  rw [c2] at c2'
  injection c2' with q3 q4
  injection q4 with q4 _
  have k1 := ctOK_iff.1 h.1
  have k2 := ctOK_iff.1 h'.1
  have := dec_inj q3
  have := dec_inj q4
  have := dec_inj q2
  omega
end Go.Larder
