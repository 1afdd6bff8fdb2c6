/- How a body's end is known. No program in sight. -/
import Derived.Test.YthpckcfdgfdngaaDoorSpecDec
import Derived.Test.YthpckcfdgfdngaaDoorSpecNum
import Derived.Test.YthpckcfdgfdngaaDoorSpecGet
import Derived.Test.YthpckcfdgfdngaaDoorSpecDir
import Derived.Test.YthpckcfdgfdngaaDoorSpecPol
namespace Go.Larder
open Go.RowKit
set_option linter.unusedVariables false
set_option linter.unusedSimpArgs false
theorem nmGo_nn : ∀ (l : List UInt8) (n : Int), (∀ x ∈ l, inTab tensTab x = true) → 0 ≤ n → n ≤ nmGo n l
  | [], n, _, h => Int.le_refl _
  | c :: l, n, hd, h => by
    have hc : 48 ≤ c.toNat ∧ c.toNat ≤ 57 := by have := hd c (by simp); rw [tens_eq] at this; exact of_decide_eq_true this
    have := nmGo_nn l (10 * n + (c.toNat - 48)) (fun x hx => hd x (by simp [hx])) (by omega)
    have e : nmGo n (c :: l) = nmGo (10 * n + (c.toNat - 48)) l := by
      rw [nmGo, if_pos (hd c (by simp))]
    rw [e]
    omega
theorem dec_one {n : Nat} (h : n < 10) : Lib.decDigits n = [UInt8.ofNat (48 + n)] := by rw [Lib.decDigits, dif_pos h]
/-- Digits without a leading zero: the text is its number's digits. -/
theorem dec_nm : ∀ (k : Nat) (l : List UInt8), l.length ≤ k → l ≠ [] → (∀ x ∈ l, inTab tensTab x = true) → (1 < l.length → l.head? ≠ some 48) → Lib.decDigits (nm l).toNat = l ∧ 0 ≤ nm l
  | 0, l, hl, hne, _, _ => absurd (List.eq_nil_of_length_eq_zero (Nat.le_zero.1 hl)) hne
  | k + 1, l, hl, hne, hd, hz => by
    rcases nil_or_snoc l with rfl | ⟨m, c, rfl⟩
    · exact absurd rfl hne
    · have hc : inTab tensTab c = true := hd c (by simp)
      have hcd : 48 ≤ c.toNat ∧ c.toNat ≤ 57 := by have := hc; rw [tens_eq] at this; exact of_decide_eq_true this
      have hm : ∀ x ∈ m, inTab tensTab x = true := fun x hx => hd x (by simp [hx])
      have hs : nm (m ++ [c]) = 10 * nm m + (c.toNat - 48) := nmGo_snoc m 0 c hm hc
      have hcc : UInt8.ofNat (48 + (c.toNat - 48)) = c := by
        rw [show 48 + (c.toNat - 48) = c.toNat from by omega]; exact UInt8.ofNat_toNat
      by_cases hme : m = []
      · subst hme
        have h0 : nm ([] : List UInt8) = 0 := rfl
        rw [hs, h0]
        refine ⟨?_, by omega⟩
        rw [show ((10 : Int) * 0 + ((c.toNat : Int) - 48)).toNat = c.toNat - 48 from by omega, dec_one (by omega), hcc]
        rfl
      · have hml : 0 < m.length := List.length_pos_iff.2 hme
        have hhead : m.head? ≠ some 48 := by
          have := hz (by simp; omega)
          rcases m with _ | ⟨a, m⟩
          · exact absurd rfl hme
          · simpa using this
        obtain ⟨ih, ih0⟩ := dec_nm k m (by simp at hl; omega) hme hm (fun _ => hhead)
        have h1 : 1 ≤ nm m := by
          rcases m with _ | ⟨a, m⟩
          · exact absurd rfl hme
          · have ha : 48 ≤ a.toNat ∧ a.toNat ≤ 57 := by have := hm a (by simp); rw [tens_eq] at this; exact of_decide_eq_true this
            have hne48 : a.toNat ≠ 48 := fun h => hhead (by
              have : a = 48 := UInt8.toNat_inj.1 (by show a.toNat = 48; omega)
              simp [this])
            have := nmGo_nn m (a.toNat - 48) (fun x hx => hm x (by simp [hx])) (by omega)
            have e : nm (a :: m) = nmGo (a.toNat - 48) m := by
              unfold nm
              rw [nmGo, if_pos (hm a (by simp))]
              simp
            rw [e]
            omega
        rw [hs]
        refine ⟨?_, by omega⟩
        have hn : (10 * nm m + ((c.toNat : Int) - 48)).toNat = 10 * (nm m).toNat + (c.toNat - 48) := by omega
        rw [hn, dec_step (by omega), show (10 * (nm m).toNat + (c.toNat - 48)) / 10 = (nm m).toNat from by omega, ih, show (10 * (nm m).toNat + (c.toNat - 48)) % 10 = c.toNat - 48 from by omega, hcc]
theorem nm_dig : ∀ (l : List UInt8) (n : Int), 0 ≤ n → 0 ≤ nmGo n l → ∀ x ∈ l, inTab tensTab x = true
  | [], _, _, _ => by simp
  | c :: l, n, hn, h => by
    rw [nmGo] at h
    split at h
    · next hc =>
      have hcd : 48 ≤ c.toNat ∧ c.toNat ≤ 57 := by have := hc; rw [tens_eq] at this; exact of_decide_eq_true this
      intro x hx
      rcases List.mem_cons.1 hx with rfl | hx
      · exact hc
      · exact nm_dig l _ (by omega) h x hx
    · omega
/-- A number of at most four digits, read. -/
theorem cnt_yes {t : List UInt8} (h : 0 ≤ cnt t 9999) : Lib.decDigits (cnt t 9999).toNat = t ∧ cnt t 9999 ≤ 9999 := by
  unfold cnt at *
  split at h
  · omega
  · next hg =>
    rw [if_neg hg]
    split at h
    · omega
    · next hm =>
      rw [if_neg hm]
      simp only [Bool.or_eq_true, Bool.and_eq_true, decide_eq_true_eq, not_or, not_and] at hg
      obtain ⟨⟨h1, h2⟩, h3⟩ := hg
      refine ⟨(dec_nm t.length t (Nat.le_refl _) (by intro e; subst e; simp at h1) (nm_dig t 0 (by omega) h) (fun hl => by have := h3 hl; simpa using this)).1, by omega⟩
theorem dec_len4 {n : Nat} (h : (Lib.decDigits n).length ≤ 4) : n ≤ 9999 := by
  rcases Nat.lt_or_ge 9999 n with hn | hn
  · exfalso
    rw [dec_step (by omega), dec_step (by omega), dec_step (by omega), dec_step (by omega)] at h
    have := List.length_pos_iff.2 (dec_ne (n / 10 / 10 / 10 / 10))
    simp only [List.length_append, List.length_cons, List.length_nil] at h
    omega
  · exact hn
theorem dec_len4' {n : Nat} (h : n ≤ 9999) : (Lib.decDigits n).length ≤ 4 := by
  by_cases h1 : n < 10
  · rw [dec_one h1]; simp
  · rw [dec_step h1]
    by_cases h2 : n / 10 < 10
    · rw [dec_one h2]; simp
    · rw [dec_step h2]
      by_cases h3 : n / 10 / 10 < 10
      · rw [dec_one h3]; simp
      · rw [dec_step h3, dec_one (by omega)]; simp
/-- What a length field says. -/
def sizeL : List (List UInt8) → Int × Int
  | [] => (0, 10)
  | t :: r => if r.all (· == t) && decide (0 ≤ cnt t 9999) then (if 5000 < cnt t 9999 then (0, 2) else (cnt t 9999, 0)) else (0, 10)
def sizeB (v : List UInt8) : Int × Int := match splitE v with
  | .error _ => (0, 10)
  | .ok l => sizeL l
def teN : List UInt8 := [84, 114, 97, 110, 115, 102, 101, 114, 45, 69, 110, 99, 111, 100, 105, 110, 103]
def clN : List UInt8 := [67, 111, 110, 116, 101, 110, 116, 45, 76, 101, 110, 103, 116, 104]
def teL : List UInt8 := [116, 114, 97, 110, 115, 102, 101, 114, 45, 101, 110, 99, 111, 100, 105, 110, 103]
def clL : List UInt8 := [99, 111, 110, 116, 101, 110, 116, 45, 108, 101, 110, 103, 116, 104]
theorem te_low : lowL teN = lowL teL := by decide
theorem cl_low : lowL clN = lowL clL := by decide
def headL : List UInt8 := [72, 69, 65, 68]
def chkL : List UInt8 := [99, 104, 117, 110, 107, 101, 100]
def noBody (req : Bool) (m : List UInt8) (code : Int) : Bool := !req && (m == headL || decide (code < 200) || code == 204 || code == 304)
def kindI (req : Bool) (nb : Bool) (coded sized chk : Bool) (sz : Int × Int) : Int × Int × Int :=
  if nb then (1, 0, 0) else if coded then (if sized || !chk then (0, 0, 10) else (3, 0, 0))
  else if sized then (if sz.2 = 0 then (2, sz.1, 0) else (0, 0, sz.2)) else if req then (1, 0, 0) else (4, 0, 0)
def kindE (req : Bool) (m : List UInt8) (code : Int) (l : List Fld) : Int × Int × Int :=
  kindI req (noBody req m code) (!(valsL (lowL teN) l).isEmpty) (!(valsL (lowL clN) l).isEmpty) (lowL (Lib.join (valsL (lowL teN) l) sepL) == chkL) (sizeB (Lib.join (valsL (lowL clN) l) sepL))
end Go.Larder
