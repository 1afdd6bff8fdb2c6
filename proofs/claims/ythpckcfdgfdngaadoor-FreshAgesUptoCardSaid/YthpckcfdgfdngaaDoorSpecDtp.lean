/- Dates, printed. No program in sight. -/
import Derived.Test.YthpckcfdgfdngaaDoorSpecDate
import Derived.Lib.ItoaLen
namespace Go.Larder
set_option linter.unusedVariables false
set_option linter.unusedSimpArgs false
def weekL : List UInt8 := [84, 104, 117, 70, 114, 105, 83, 97, 116, 83, 117, 110, 77, 111, 110, 84, 117, 101, 87, 101, 100]
def monL : List UInt8 := [74, 97, 110, 70, 101, 98, 77, 97, 114, 65, 112, 114, 77, 97, 121, 74, 117, 110, 74, 117, 108, 65, 117, 103, 83, 101, 112, 79, 99, 116, 78, 111, 118, 68, 101, 99]
def wkD (k : Nat) : List UInt8 := (weekL.drop (3 * k)).take 3
def moD (k : Nat) : List UInt8 := (monL.drop (3 * k)).take 3
def twoL (n : Int) : List UInt8 := if n < 10 then 48 :: Lib.decDigits n.toNat else Lib.decDigits n.toNat
/-- The date of n seconds: day (since 1970) d, month m (from 0), year y, day of the month r (from 0). -/
def dateL (n y : Int) (m : Nat) (r : Int) : List UInt8 :=
  wkD (n / 86400 % 7).toNat ++ [44, 32] ++ twoL (r + 1) ++ [32] ++ moD m ++ [32] ++ Lib.decDigits y.toNat ++ [32] ++ twoL (n % 86400 / 3600) ++ [58] ++ twoL (n % 86400 / 60 % 60) ++ [58] ++ twoL (n % 86400 % 60) ++ [32, 71, 77, 84]
theorem dec_two (n : Int) (h0 : 0 ≤ n) (h1 : n < 100) : (twoL n).length = 2 := by
  unfold twoL
  split
  · rw [Lib.decDigits_one (by omega)]; rfl
  · rw [Lib.decDigits_two (by omega) (by omega)]; rfl
theorem dec_four (n : Int) (h0 : 1000 ≤ n) (h1 : n ≤ 9999) : (Lib.decDigits n.toNat).length = 4 := by
  have e : Lib.decDigits n.toNat = Lib.decDigits (n.toNat / 100) ++ [UInt8.ofNat (48 + n.toNat / 10 % 10)] ++ [UInt8.ofNat (48 + n.toNat % 10)] := by
    conv => lhs; rw [Lib.decDigits, dif_neg (by omega), Lib.decDigits, dif_neg (by omega)]
    rw [Nat.div_div_eq_div_mul]
  rw [e, Lib.decDigits_two (by omega) (by omega)]
  rfl
theorem dec_lt (n : Int) (h0 : 0 ≤ n) (h1 : n < 10) : (Lib.decDigits n.toNat).length = 1 := by rw [Lib.decDigits_one (by omega)]; rfl
theorem dec_ge (n : Int) (h0 : 10 ≤ n) (h1 : n < 100) : (Lib.decDigits n.toNat).length = 2 := by rw [Lib.decDigits_two (by omega) (by omega)]; rfl
theorem wk_len (k : Nat) (h : k < 7) : (wkD k).length = 3 := by
  simp [wkD, weekL]; omega
theorem mo_len (k : Nat) (h : k < 12) : (moD k).length = 3 := by
  simp [moD, monL]; omega
end Go.Larder
