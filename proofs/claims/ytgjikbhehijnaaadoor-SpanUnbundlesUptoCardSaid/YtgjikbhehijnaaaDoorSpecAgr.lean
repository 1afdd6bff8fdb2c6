/- Do the bytes that parts have in common agree: by a map that is filled byte by byte. No program in sight. -/
import Derived.Test.YtgjikbhehijnaaaDoorSpecUnb
import Derived.Maps.Views
namespace Go.Larder
open Go.RowKit
set_option linter.unusedSimpArgs false
set_option linter.unusedVariables false
/-- a part of which k bytes have come -/
def prtK (x : Prt) (k : Nat) : Prt := (x.1, x.2.take k)
/-- what the map holds: each byte that came, at its place -/
structure KnowsP (D : DataW Unit) (l : List Prt) : Prop where
  map : Maps.IsMap D
  has : ∀ p : Int, Maps.has D (.int .i64 p) = true ↔ ∃ x ∈ l, ∃ c, byteAt x p = some c
  at_ : ∀ (p : Int) (x : Prt), x ∈ l → ∀ c, byteAt x p = some c → ∀ z, D.atKey (.int .i64 p) z = .lit (.int .u8 c.toNat)
theorem knows_nil : KnowsP (.map []) [] := ⟨⟨[], rfl⟩, fun p => by simp [Maps.has_eq], fun p x hx => by cases hx⟩
theorem agree_nil : agreeP [] := fun x hx => by cases hx
theorem byte_prt0 (x : Prt) (p : Int) : byteAt (prtK x 0) p = none := by unfold byteAt prtK; simp
theorem byte_step {x : Prt} {k : Nat} {c : UInt8} (h : x.2[k]? = some c) (p : Int) : byteAt (prtK x (k + 1)) p = if p = x.1.1 + k then some c else byteAt (prtK x k) p := by
  unfold byteAt prtK
  simp only
  by_cases h1 : x.1.1 ≤ p
  · rw [if_pos h1, if_pos h1]
    by_cases h2 : p = x.1.1 + k
    · rw [if_pos h2]
      have : (p - x.1.1).toNat = k := by omega
      rw [this, List.getElem?_take, if_pos (by omega)]
      exact h
    · rw [if_neg h2, List.getElem?_take, List.getElem?_take]
      by_cases h3 : (p - x.1.1).toNat < k
      · rw [if_pos (by omega), if_pos h3]
      · rw [if_neg (by omega), if_neg h3]
  · rw [if_neg h1, if_neg h1, if_neg (by omega)]
theorem byte_at_end (x : Prt) (k : Nat) : byteAt (prtK x k) (x.1.1 + k) = none := by
  unfold byteAt prtK
  simp only
  rw [if_pos (by omega), List.getElem?_eq_none]
  rw [List.length_take]; omega
theorem byte_whole (x : Prt) : prtK x x.2.length = x := by unfold prtK; rw [List.take_length]
theorem byte_in {x : Prt} {k : Nat} {c : UInt8} (h : x.2[k]? = some c) : byteAt x (x.1.1 + k) = some c := by
  unfold byteAt
  rw [if_pos (by omega), show (x.1.1 + (k : Int) - x.1.1).toNat = k from by omega]
  exact h
/-- a byte that is not the one known: the parts do not agree -/
theorem agree_no {l m : List Prt} {x : Prt} {k : Nat} {c d : UInt8} (hx : x.2[k]? = some c) {y : Prt} (hy : y ∈ l ++ [prtK x k]) (hd : byteAt y (x.1.1 + k) = some d) (hne : d ≠ c) : ¬ agreeP (l ++ x :: m) := by
  intro h
  rw [List.mem_append, List.mem_singleton] at hy
  rcases hy with hy | rfl
  · exact hne (h y (by simp [hy]) x (by simp) _ d c hd (byte_in hx))
  · rw [byte_at_end] at hd; cases hd
theorem agree_step {l : List Prt} {x : Prt} {k : Nat} {c : UInt8} (hx : x.2[k]? = some c) (h : agreeP (l ++ [prtK x k])) (hk : ∀ y ∈ l ++ [prtK x k], ∀ d, byteAt y (x.1.1 + k) = some d → d = c) : agreeP (l ++ [prtK x (k + 1)]) := by
  have key : ∀ y ∈ l ++ [prtK x (k + 1)], ∀ p d, byteAt y p = some d → (p = x.1.1 + k ∧ d = c) ∨ ∃ y' ∈ l ++ [prtK x k], byteAt y' p = some d := by
    intro y hy p d hd
    rw [List.mem_append, List.mem_singleton] at hy
    rcases hy with hy | rfl
    · exact .inr ⟨y, by simp [hy], hd⟩
    · rw [byte_step hx] at hd
      by_cases hp : p = x.1.1 + k
      · rw [if_pos hp] at hd; injection hd with hd; exact .inl ⟨hp, hd.symm⟩
      · rw [if_neg hp] at hd; exact .inr ⟨_, by simp, hd⟩
  intro y hy z hz p d e hd he
  rcases key y hy p d hd with ⟨rfl, rfl⟩ | ⟨y', hy', hd'⟩
  · rcases key z hz _ e he with ⟨_, rfl⟩ | ⟨z', hz', he'⟩
    · rfl
    · exact (hk z' hz' e he').symm
  · rcases key z hz p e he with ⟨rfl, rfl⟩ | ⟨z', hz', he'⟩
    · exact hk y' hy' d hd'
    · exact h y' hy' z' hz' p d e hd' he'
theorem knows_step {D : DataW Unit} {l : List Prt} {x : Prt} {k : Nat} {c : UInt8} (hx : x.2[k]? = some c) (h : KnowsP D (l ++ [prtK x k])) (hk : ∀ y ∈ l ++ [prtK x k], ∀ d, byteAt y (x.1.1 + k) = some d → d = c) :
    KnowsP (D.put (.int .i64 (x.1.1 + k)) (.lit (.int .u8 c.toNat))) (l ++ [prtK x (k + 1)]) := by
  have hkey : WideAt.IsKeyLit (Lit.int .i64 (x.1.1 + k)) := trivial
  refine ⟨?_, fun p => ?_, fun p y hy d hd z => ?_⟩
  · obtain ⟨es, rfl⟩ := h.map
    exact ⟨_, rfl⟩
  · by_cases hp : p = x.1.1 + k
    · subst hp
      rw [Maps.has_put_same h.map hkey]
      refine iff_of_true rfl ⟨prtK x (k + 1), by simp, c, by rw [byte_step hx, if_pos rfl]⟩
    · rw [Maps.has_put_other (by intro e; injection e with _ e; exact hp e), h.has]
      constructor
      · rintro ⟨y, hy, d, hd⟩
        rw [List.mem_append, List.mem_singleton] at hy
        rcases hy with hy | rfl
        · exact ⟨y, by simp [hy], d, hd⟩
        · exact ⟨prtK x (k + 1), by simp, d, by rw [byte_step hx, if_neg hp]; exact hd⟩
      · rintro ⟨y, hy, d, hd⟩
        rw [List.mem_append, List.mem_singleton] at hy
        rcases hy with hy | rfl
        · exact ⟨y, by simp [hy], d, hd⟩
        · rw [byte_step hx, if_neg hp] at hd
          exact ⟨prtK x k, by simp, d, hd⟩
  · by_cases hp : p = x.1.1 + k
    · subst hp
      rw [Maps.atKey_put_same h.map hkey]
      have : d = c := by
        rw [List.mem_append, List.mem_singleton] at hy
        rcases hy with hy | rfl
        · exact hk y (by simp [hy]) d hd
        · rw [byte_step hx, if_pos rfl] at hd; injection hd with hd; exact hd.symm
      rw [this]
    · rw [Maps.atKey_put_other (by intro e; injection e with _ e; exact hp e)]
      rw [List.mem_append, List.mem_singleton] at hy
      rcases hy with hy | rfl
      · exact h.at_ p y (by simp [hy]) d hd z
      · rw [byte_step hx, if_neg hp] at hd
        exact h.at_ p _ (by simp) d hd z
/-- a new part begins -/
theorem knows_new {D : DataW Unit} {l : List Prt} (h : KnowsP D l) (x : Prt) : KnowsP D (l ++ [prtK x 0]) := by
  refine ⟨h.map, fun p => ?_, fun p y hy d hd z => ?_⟩
  · rw [h.has]
    constructor
    · rintro ⟨y, hy, d, hd⟩; exact ⟨y, by simp [hy], d, hd⟩
    · rintro ⟨y, hy, d, hd⟩
      rw [List.mem_append, List.mem_singleton] at hy
      rcases hy with hy | rfl
      · exact ⟨y, hy, d, hd⟩
      · rw [byte_prt0] at hd; cases hd
  · rw [List.mem_append, List.mem_singleton] at hy
    rcases hy with hy | rfl
    · exact h.at_ p y hy d hd z
    · rw [byte_prt0] at hd; cases hd
theorem agree_new {l : List Prt} (h : agreeP l) (x : Prt) : agreeP (l ++ [prtK x 0]) := by
  intro y hy z hz p d e hd he
  rw [List.mem_append, List.mem_singleton] at hy hz
  rcases hy with hy | rfl
  · rcases hz with hz | rfl
    · exact h y hy z hz p d e hd he
    · rw [byte_prt0] at he; cases he
  · rw [byte_prt0] at hd; cases hd
end Go.Larder
