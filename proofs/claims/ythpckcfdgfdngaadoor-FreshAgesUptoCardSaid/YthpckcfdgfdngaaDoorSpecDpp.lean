/- Dates, read. No program in sight. -/
import Derived.Test.YthpckcfdgfdngaaDoorSpecDtp
import Derived.Test.YthpckcfdgfdngaaDoorSpecNum
import Derived.Lib.IndexMore
import Derived.Lib.IndexBytes
namespace Go.Larder
set_option linter.unusedSimpArgs false
set_option linter.unusedVariables false
theorem civil_unique {n y y' r r' : Int} {m m' : Nat} (h : IsCivil n y m r) (h' : IsCivil n y' m' r') : y = y' ∧ m = m' ∧ r = r' := by
  obtain ⟨a1, _, _, _, _, _, _, a8⟩ := h.formula
  obtain ⟨b1, _, _, _, _, _, _, b8⟩ := h'.formula
  have := h.m1
  have := h'.m1
  refine ⟨?_, ?_, by omega⟩ <;> rcases a8 with a8 | a8 <;> rcases b8 with b8 | b8 <;> omega
/-- The text is the date of n. -/
def isDate (n : Int) (l : List UInt8) : Prop := ∃ (y : Int) (m : Nat) (r : Int), IsCivil (n / 86400) y m r ∧ 0 ≤ n ∧ n ≤ 253402300799 ∧ dateL n y m r = l
theorem isDate_at {n y r : Int} {m : Nat} {l : List UInt8} (h : IsCivil (n / 86400) y m r) (h0 : 0 ≤ n) (h1 : n ≤ 253402300799) : isDate n l ↔ dateL n y m r = l := by
  constructor
  · rintro ⟨y', m', r', h', _, _, e⟩
    obtain ⟨rfl, rfl, rfl⟩ := civil_unique h h'
    exact e
  · intro e
    exact ⟨y, m, r, h, h0, h1, e⟩
def seg (l : List UInt8) (a b : Nat) : List UInt8 := (l.drop a).take (b - a)
theorem seg_len {l : List UInt8} {a b : Nat} (h : b ≤ l.length) : (seg l a b).length = b - a := by unfold seg; rw [List.length_take, List.length_drop]; omega
def mon2L : List UInt8 := [74, 97, 110, 32, 70, 101, 98, 32, 77, 97, 114, 32, 65, 112, 114, 32, 77, 97, 121, 32, 74, 117, 110, 32, 74, 117, 108, 32, 65, 117, 103, 32, 83, 101, 112, 32, 79, 99, 116, 32, 78, 111, 118, 32, 68, 101, 99]
theorem mon_at : ∀ m : Fin 12, Lib.index monL (moD m.val) = ((3 * m.val : Nat) : Int) ∧ Lib.index mon2L (moD m.val) = ((4 * m.val : Nat) : Int) := by decide +kernel
/-- 'index' of a text in another one: none, or a place. -/
theorem index_cases (s sub : List UInt8) : Lib.index s sub = -1 ∨ ∃ j : Nat, Lib.index s sub = j ∧ j + sub.length ≤ s.length := by
  rcases Lib.index_spec s sub with h | ⟨i, h, _⟩
  · exact .inl h.1
  · refine .inr ⟨i, h, ?_⟩
    have := Lib.index_room s sub (by omega)
    omega
-- digits of numbers below 100, of years
theorem two_is (n : Int) (h0 : 0 ≤ n) (h1 : n < 100) : twoL n = [UInt8.ofNat (48 + n.toNat / 10), UInt8.ofNat (48 + n.toNat % 10)] := by
  unfold twoL
  split
  · rw [Lib.decDigits_one (by omega), show n.toNat / 10 = 0 from by omega, show n.toNat % 10 = n.toNat from by omega]; rfl
  · rw [Lib.decDigits_two (by omega) (by omega)]
theorem four_is (n : Int) (h0 : 1000 ≤ n) (h1 : n ≤ 9999) : Lib.decDigits n.toNat = [UInt8.ofNat (48 + n.toNat / 1000), UInt8.ofNat (48 + n.toNat / 100 % 10), UInt8.ofNat (48 + n.toNat / 10 % 10), UInt8.ofNat (48 + n.toNat % 10)] := by
  have e : Lib.decDigits n.toNat = Lib.decDigits (n.toNat / 100) ++ [UInt8.ofNat (48 + n.toNat / 10 % 10)] ++ [UInt8.ofNat (48 + n.toNat % 10)] := by
    conv => lhs; rw [Lib.decDigits, dif_neg (by omega), Lib.decDigits, dif_neg (by omega)]
    rw [Nat.div_div_eq_div_mul]
  rw [e, Lib.decDigits_two (by omega) (by omega), Nat.div_div_eq_div_mul]
  rfl
theorem dig_in (k : Nat) (h : k < 10) : inTab tensTab (UInt8.ofNat (48 + k)) = true ∧ ((UInt8.ofNat (48 + k)).toNat : Int) - 48 = k := by
  have e : (UInt8.ofNat (48 + k)).toNat = 48 + k := by rw [UInt8.toNat_ofNat']; omega
  exact ⟨by rw [tens_eq, e]; simp; omega, by rw [e]; omega⟩
theorem nmGo_dig (n : Int) (k : Nat) (h : k < 10) (l : List UInt8) : nmGo n (UInt8.ofNat (48 + k) :: l) = nmGo (10 * n + k) l := by
  rw [nmGo_yes (dig_in k h).1, (dig_in k h).2]
theorem nm_two (n : Int) (h0 : 0 ≤ n) (h1 : n < 100) : nm (twoL n) = n := by
  rw [two_is n h0 h1]
  unfold nm
  rw [nmGo_dig _ _ (by omega), nmGo_dig _ _ (by omega)]
  unfold nmGo
  omega
theorem nm_four (n : Int) (h0 : 1000 ≤ n) (h1 : n ≤ 9999) : nm (Lib.decDigits n.toNat) = n := by
  rw [four_is n h0 h1]
  unfold nm
  rw [nmGo_dig _ _ (by omega), nmGo_dig _ _ (by omega), nmGo_dig _ _ (by omega), nmGo_dig _ _ (by omega)]
  unfold nmGo
  omega
theorem len3 {l : List UInt8} (h : l.length = 3) : ∃ a b c, l = [a, b, c] := by
  match l, h with
  | [a, b, c], _ => exact ⟨a, b, c, rfl⟩
/-- The parts of a date's text. -/
theorem date_parts {n : Int} {l : List UInt8} (h : isDate n l) : ∃ (y : Int) (m : Nat) (r : Int), IsCivil (n / 86400) y m r ∧ 0 ≤ n ∧ n ≤ 253402300799 ∧ y ≤ 9999 ∧ l.length = 29 ∧
    seg l 8 11 = moD m ∧ seg l 12 16 = Lib.decDigits y.toNat ∧ seg l 5 7 = twoL (r + 1) ∧ seg l 17 19 = twoL (n % 86400 / 3600) ∧ seg l 20 22 = twoL (n % 86400 / 60 % 60) ∧ seg l 23 25 = twoL (n % 86400 % 60) := by
  obtain ⟨y, m, r, h, h0, h1, rfl⟩ := h
  have hy1 := h.y1 (by omega)
  have hm1 := h.m1
  have hr : r < 31 := by have := h.r1; have := md_bd y m; omega
  have hr0 := h.r0
  have hy0 := h.y0
  refine ⟨y, m, r, h, h0, h1, hy1, ?_⟩
  unfold dateL
  obtain ⟨a1, a2, a3, ea⟩ := len3 (wk_len (n / 86400 % 7).toNat (by omega))
  obtain ⟨b1, b2, b3, eb⟩ := len3 (mo_len m hm1)
  obtain ⟨c1, c2, c3, c4, ec⟩ : ∃ a b c d, Lib.decDigits y.toNat = [a, b, c, d] := ⟨_, _, _, _, four_is y (by omega) hy1⟩
  obtain ⟨d1, d2, ed⟩ : ∃ a b, twoL (r + 1) = [a, b] := ⟨_, _, two_is (r + 1) (by omega) (by omega)⟩
  obtain ⟨f1, f2, ef⟩ : ∃ a b, twoL (n % 86400 / 3600) = [a, b] := ⟨_, _, two_is _ (by omega) (by omega)⟩
  obtain ⟨g1, g2, eg⟩ : ∃ a b, twoL (n % 86400 / 60 % 60) = [a, b] := ⟨_, _, two_is _ (by omega) (by omega)⟩
  obtain ⟨i1, i2, eh⟩ : ∃ a b, twoL (n % 86400 % 60) = [a, b] := ⟨_, _, two_is _ (by omega) (by omega)⟩
  generalize wkD (n / 86400 % 7).toNat = W1 at *
  generalize moD m = W2 at *
  generalize Lib.decDigits y.toNat = W3 at *
  generalize twoL (r + 1) = W4 at *
  generalize twoL (n % 86400 / 3600) = W5 at *
  generalize twoL (n % 86400 / 60 % 60) = W6 at *
  generalize twoL (n % 86400 % 60) = W7 at *
  subst ea eb ec ed ef eg eh
  refine ⟨?_, ?_, ?_, ?_, ?_, ?_, ?_⟩ <;> simp [seg]
/-- date.Days answers a day. -/
def daysIn (y m d : Int) : Bool := decide (1970 ≤ y) && decide (y ≤ 9999) && decide (1 ≤ m) && decide (m ≤ 12) && decide (1 ≤ d) && decide (d ≤ md y (m - 1).toNat)
def dayN (y d : Int) (k : Nat) : Int := yd y + cum y k + d - 1
theorem dayN_bd {y d : Int} {k : Nat} (y0 : 1970 ≤ y) (y1 : y ≤ 9999) (hk : k < 12) (d0 : 1 ≤ d) (d1 : d ≤ md y k) : 0 ≤ dayN y d k ∧ dayN y d k ≤ 2932896 := by
  have a := yd_bd y0 y1
  have b := cum_bd y k
  have c := cum_top y k hk
  have hyl := lpI_bd y
  unfold dayN
  refine ⟨by omega, ?_⟩
  rcases Int.lt_or_le y 9999 with h | h
  · have := yd_step (a := y) (b := 9999) h
    have : yd 9999 = 2932532 := by decide
    omega
  · obtain rfl : y = 9999 := by omega
    have : lpI 9999 = 0 := by decide
    omega
/-- date.Parse: whether it reads a number at all, and which. -/
def pN (l : List UInt8) (k : Nat) : Int := dayN (nm (seg l 12 16)) (nm (seg l 5 7)) k * 86400 + nm (seg l 17 19) * 3600 + nm (seg l 20 22) * 60 + nm (seg l 23 25)
/-- (what is read out of a text of 29 bytes) -/
structure PGood (l : List UInt8) (k : Nat) : Prop where
  len : l.length = 29
  k12 : k < 12
  mon : Lib.index monL (seg l 8 11) = ((3 * k : Nat) : Int)
  din : daysIn (nm (seg l 12 16)) ((k : Int) + 1) (nm (seg l 5 7)) = true
  hh : 0 ≤ nm (seg l 17 19)
  mm : 0 ≤ nm (seg l 20 22)
  ss : 0 ≤ nm (seg l 23 25)
theorem daysIn_iff {y d : Int} {k : Nat} (hk : k < 12) : daysIn y ((k : Int) + 1) d = true ↔ (1970 ≤ y ∧ y ≤ 9999 ∧ 1 ≤ d ∧ d ≤ md y k) := by
  unfold daysIn
  rw [show ((k : Int) + 1 - 1).toNat = k from by omega]
  simp
  omega
theorem isDate_good {n : Int} {l : List UInt8} (h : isDate n l) : ∃ k, PGood l k ∧ pN l k = n := by
  obtain ⟨y, m, r, h, h0, h1, hy1, hl, e1, e2, e3, e4, e5, e6⟩ := date_parts h
  have hm1 := h.m1
  have hr : r < 31 := by have := h.r1; have := md_bd y m; omega
  have hr0 := h.r0
  have hy0 := h.y0
  have hr1 := h.r1
  have n1 := nm_four y (by omega) hy1
  have n2 := nm_two (r + 1) (by omega) (by omega)
  have n3 := nm_two (n % 86400 / 3600) (by omega) (by omega)
  have n4 := nm_two (n % 86400 / 60 % 60) (by omega) (by omega)
  have n5 := nm_two (n % 86400 % 60) (by omega) (by omega)
  refine ⟨m, ⟨hl, hm1, by rw [e1]; exact (mon_at ⟨m, hm1⟩).1, by rw [e2, e3, n1, n2, daysIn_iff hm1]; omega, by rw [e4, n3]; omega, by rw [e5, n4]; omega, by rw [e6, n5]; omega⟩, ?_⟩
  unfold pN dayN
  rw [e2, e3, e4, e5, e6, n1, n2, n3, n4, n5]
  have := h.eq
  omega
end Go.Larder
