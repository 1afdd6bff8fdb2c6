/- First lines. No program in sight. -/
import Derived.Test.YtmhhjmncbclihaaDoorSpecIs
import Derived.Test.YtmhhjmncbclihaaDoorSpecTok
import Derived.Test.YtmhhjmncbclihaaDoorSpecSpl
import Derived.Lib.IndexMore
import Derived.Test.YtmhhjmncbclihaaDoorSpecAny
namespace Go.Larder
set_option linter.unusedVariables false
set_option linter.unusedSimpArgs false

def isTg (c : UInt8) : Bool := decide (33 ≤ (c.toNat : Int)) && decide ((c.toNat : Int) ≤ 126)
def verL : List UInt8 := [72, 84, 84, 80, 47, 49, 46, 49]
def lineE (s : List UInt8) (most : Nat) : Except Int (List UInt8) :=
  if Lib.index s [13, 10] < 0 then (if most + 1 < s.length then .error 2 else .error 8)
  else if (most : Int) < Lib.index s [13, 10] then .error 2 else .ok (s.take (Lib.index s [13, 10]).toNat)
def reqOK (m t : List UInt8) : Bool := isTok m && decide (m.length ≤ 30) && !t.isEmpty && decide (t.length ≤ 200) && t.all isTg
def reqL (m t : List UInt8) : List UInt8 := m ++ [32] ++ t ++ [32] ++ verL ++ [13, 10]
def reqE (m t : List UInt8) : Except Int (List UInt8) := if reqOK m t = true then .ok (reqL m t) else .error 3

theorem line_none {s : List UInt8} (h : Lib.index s [13, 10] = -1) (most : Nat) : lineE s most = if most + 1 < s.length then .error 2 else .error 8 := by
  unfold lineE; rw [h]; rfl
theorem line_at {s : List UInt8} {i : Nat} (h : Lib.index s [13, 10] = (i : Int)) (most : Nat) : lineE s most = if most < i then .error 2 else .ok (s.take i) := by
  unfold lineE
  rw [h, if_neg (by omega)]
  by_cases hi : most < i
  · rw [if_pos (by omega), if_pos hi]
  · rw [if_neg (by omega), if_neg hi]; simp
theorem line_len {s l : List UInt8} {most : Nat} (h : lineE s most = .ok l) : l.length ≤ most ∧ l.length + 2 ≤ s.length := by
  unfold lineE at h
  split at h
  · split at h <;> cases h
  · next h1 =>
    split at h
    · cases h
    · next h2 =>
      injection h with h
      subst h
      have := Lib.index_room s [13, 10] (by omega)
      simp at this
      rw [List.length_take]
      omega
theorem line_err {s : List UInt8} {most : Nat} {n : Int} (h : lineE s most = .error n) : n ≠ 0 := by
  unfold lineE at h
  split at h
  · split at h <;> cases h <;> decide
  · split at h <;> cases h
    decide
theorem index_cases (s sub : List UInt8) : Lib.index s sub = -1 ∨ ∃ i : Nat, Lib.index s sub = i ∧ i + sub.length ≤ s.length := by
  rcases Lib.index_spec s sub with ⟨h, _⟩ | ⟨i, h, _, _, _⟩
  · exact .inl h
  · exact .inr ⟨i, h, by have := Lib.index_room s sub (by omega); omega⟩
theorem cut_none {s sub : List UInt8} (h : Lib.index s sub = -1) : Lib.cut s sub = (s, [], false) := by unfold Lib.cut; rw [h]; rfl
theorem cut_at {s sub : List UInt8} {i : Nat} (h : Lib.index s sub = (i : Int)) : Lib.cut s sub = (s.take i, s.drop (i + sub.length), true) := by
  unfold Lib.cut
  rw [h, if_pos (by omega)]
  simp

/-- The first two words. -/
def w01 (l : List UInt8) : List UInt8 × List UInt8 := match spl 32 l with
  | [] => ([], [])
  | [a] => (a, [])
  | a :: b :: _ => (a, b)
def parseP (s : List UInt8) : Except Int (List UInt8 × List UInt8 × Nat) := match lineE s 300 with
  | .error n => .error n
  | .ok l => match spl 32 l with
    | [a, b, c] => if (c == verL && reqOK a b) = true then .ok (a, b, l.length + 2) else .error 3
    | _ => .error 3
def parseR (s : List UInt8) : Except Int (List UInt8 × List UInt8 × Nat) := match lineE s 300 with
  | .error n => .error n
  | .ok l => if (reqOK (w01 l).1 (w01 l).2 && (reqL (w01 l).1 (w01 l).2 == l ++ [13, 10])) = true then .ok ((w01 l).1, (w01 l).2, l.length + 2) else .error 3
theorem tok_no32 {a : List UInt8} (h : isTok a = true) : ∀ x ∈ a, x ≠ 32 := by
  intro x hx e
  subst e
  unfold isTok at h
  rw [Bool.and_eq_true, List.all_eq_true] at h
  have h1 := h.2 _ hx
  have h2 : tokB 32 = false := by decide +kernel
  rw [h2] at h1
  cases h1
theorem tg_no32 {a : List UInt8} (h : a.all isTg = true) : ∀ x ∈ a, x ≠ 32 := by
  intro x hx e
  subst e
  have h1 := List.all_eq_true.1 h _ hx
  have h2 : isTg 32 = false := by decide +kernel
  rw [h2] at h1
  cases h1
theorem reqOK_parts {m t : List UInt8} (h : reqOK m t = true) : isTok m = true ∧ m.length ≤ 30 ∧ t.isEmpty = false ∧ t.length ≤ 200 ∧ t.all isTg = true := by
  unfold reqOK at h
  simp only [Bool.and_eq_true, decide_eq_true_eq, Bool.not_eq_true'] at h
  exact ⟨h.1.1.1.1, h.1.1.1.2, h.1.1.2, h.1.2, h.2⟩
theorem parse_line (l : List UInt8) : (match spl 32 l with
    | [a, b, c] => if (c == verL && reqOK a b) = true then (Except.ok (a, b, l.length + 2) : Except Int (List UInt8 × List UInt8 × Nat)) else .error 3
    | _ => .error 3) = if (reqOK (w01 l).1 (w01 l).2 && (reqL (w01 l).1 (w01 l).2 == l ++ [13, 10])) = true then .ok ((w01 l).1, (w01 l).2, l.length + 2) else .error 3 := by
  by_cases h : (reqOK (w01 l).1 (w01 l).2 && (reqL (w01 l).1 (w01 l).2 == l ++ [13, 10])) = true
  · rw [if_pos h]
    rw [Bool.and_eq_true, beq_iff_eq] at h
    obtain ⟨h1, h2⟩ := h
    generalize (w01 l).1 = a at h1 h2
    generalize (w01 l).2 = b at h1 h2
    have hp := reqOK_parts h1
    have hl : l = a ++ 32 :: (b ++ 32 :: verL) := by
      have : (a ++ 32 :: (b ++ 32 :: verL)) ++ [13, 10] = l ++ [13, 10] := by rw [← h2]; simp [reqL]
      exact (List.append_cancel_right this).symm
    have hs : spl 32 l = [a, b, verL] := by
      rw [hl, spl_app _ (tok_no32 hp.1), spl_app _ (tg_no32 hp.2.2.2.2), spl_free (by decide)]
    rw [hs]
    simp [h1]
  · rw [if_neg h]
    split
    · next a b c hs =>
      by_cases hc : (c == verL && reqOK a b) = true
      · exfalso
        apply h
        rw [Bool.and_eq_true, beq_iff_eq] at hc
        obtain ⟨hc1, hc2⟩ := hc
        have hw : w01 l = (a, b) := by unfold w01; rw [hs]
        have hj := jn_spl 32 l
        rw [hs, hc1] at hj
        rw [hw]
        simp only
        rw [hc2, ← hj]
        simp [reqL, jn]
      · rw [if_neg hc]
    · rfl
theorem parse_eq (s : List UInt8) : parseP s = parseR s := by
  unfold parseP parseR
  cases lineE s 300 with
  | error n => rfl
  | ok l => exact parse_line l
theorem tg_nat : ∀ n : Fin 256, isTg (UInt8.ofNat n.val) = (isPl (UInt8.ofNat n.val) && !([32, 9] : List UInt8).contains (UInt8.ofNat n.val)) := by decide +kernel
theorem tg_eq (c : UInt8) : isTg c = (isPl c && !([32, 9] : List UInt8).contains c) := by
  have := tg_nat ⟨c.toNat, c.toNat_lt⟩
  simpa using this
theorem all_tg (l : List UInt8) : l.all isTg = (l.all isPl && !Lib.containsAny l [32, 9]) := all_plain_but tg_eq l
end Go.Larder
