/- The check sum, in plain numbers: byte by byte and bit by bit. No program in sight. -/
import Derived.Test.YtlonddgokafgkaaBase
import Derived.Laws.BitsAllLaws
namespace Go.Larder
set_option linter.unusedVariables false
set_option linter.unusedSimpArgs false

def cStep (n : Nat) : Nat := (n / 2) ^^^ (n % 2 * 2197175160)
def cIter : Nat → Nat → Nat
  | 0, n => n
  | k + 1, n => cIter k (cStep n)
def cByte (n : Nat) (b : UInt8) : Nat := cIter 8 (n ^^^ b.toNat)
def cFold : List UInt8 → Nat → Nat
  | [], n => n
  | b :: r, n => cFold r (cByte n b)
def crc (l : List UInt8) : Nat := 4294967295 - cFold l 4294967295

theorem cStep_lt {n : Nat} (h : n < 4294967296) : cStep n < 4294967296 := by
  unfold cStep
  have h1 : n % 2 = 0 ∨ n % 2 = 1 := by omega
  exact Nat.xor_lt_two_pow (n := 32) (by omega) (by omega)
theorem xor_u8_lt {n : Nat} (h : n < 4294967296) (b : UInt8) : n ^^^ b.toNat < 4294967296 :=
  Nat.xor_lt_two_pow (n := 32) h (by have := b.toNat_lt; omega)

/-- One bit of the reference's count. -/
def rStep (n : Nat) (b : Nat) (k : Nat) : Nat := if (n % 2 != b / 2 ^ k % 2) then (n / 2) ^^^ 2197175160 else n / 2
def rIter (b : Nat) : Nat → Nat → Nat → Nat      -- how many are left, which is next, the sum
  | 0, _, n => n
  | m + 1, k, n => rIter b m (k + 1) (rStep n b k)
theorem rStep_lt {n b k : Nat} (h : n < 4294967296) : rStep n b k < 4294967296 := by
  unfold rStep
  split
  · exact Nat.xor_lt_two_pow (n := 32) (by omega) (by omega)
  · omega
theorem cStep_rStep (n b k : Nat) : cStep (n ^^^ b / 2 ^ k) = rStep n b k ^^^ b / 2 ^ (k + 1) := by
  unfold cStep rStep
  have e1 : b / 2 ^ (k + 1) = b / 2 ^ k / 2 := by rw [Nat.pow_succ, Nat.div_div_eq_div_mul]
  rw [e1, Nat.xor_div_two]
  generalize b / 2 ^ k = c
  have h0 : (n ^^^ c) % 2 = n % 2 ^^^ c % 2 := Nat.xor_mod_two_pow (n := 1)
  rw [h0]
  have h1 : n % 2 = 0 ∨ n % 2 = 1 := by omega
  have h2 : c % 2 = 0 ∨ c % 2 = 1 := by omega
  rcases h1 with h1 | h1 <;> rcases h2 with h2 | h2 <;> simp [h1, h2, Nat.xor_assoc, Nat.xor_comm] <;> rw [← Nat.xor_assoc, Nat.xor_comm (n / 2), Nat.xor_assoc]
theorem cIter_rIter (b : Nat) : ∀ m k n, cIter m (n ^^^ b / 2 ^ k) = rIter b m k n ^^^ b / 2 ^ (k + m)
  | 0, k, n => rfl
  | m + 1, k, n => by
    rw [cIter, cStep_rStep, cIter_rIter b m (k + 1), rIter, show k + 1 + m = k + (m + 1) by omega]
theorem cByte_rIter (n : Nat) (b : UInt8) : cByte n b = rIter b.toNat 8 0 n := by
  have h := cIter_rIter b.toNat 8 0 n
  have h2 : b.toNat / 2 ^ (0 + 8) = 0 := by have := b.toNat_lt; omega
  rw [h2] at h
  simpa [cByte] using h
theorem cIter_lt : ∀ m n, n < 4294967296 → cIter m n < 4294967296
  | 0, _, h => h
  | m + 1, n, h => cIter_lt m _ (cStep_lt h)
theorem cByte_lt {n : Nat} (h : n < 4294967296) (b : UInt8) : cByte n b < 4294967296 := cIter_lt 8 _ (xor_u8_lt h b)
theorem cFold_lt : ∀ (l : List UInt8) (n : Nat), n < 4294967296 → cFold l n < 4294967296
  | [], _, h => h
  | b :: r, n, h => cFold_lt r _ (cByte_lt h b)
theorem crc_lt (l : List UInt8) : crc l < 4294967296 := by unfold crc; omega

/-- How the walk spells one step. -/
theorem cStep_walk {n : Nat} (h : n < 4294967296) : bits .xor .u32 ((n : Int) / 2) (bits .and .u32 (n : Int) 1 * 2197175160 % 4294967296) = ((cStep n : Nat) : Int) := by
  have e1 : bits .and .u32 (n : Int) 1 = ((n % 2 : Nat) : Int) := by
    have := u32_and_nat n 1 h (by omega)
    rw [Nat.and_one_is_mod] at this
    exact this
  have h1 : n % 2 = 0 ∨ n % 2 = 1 := by omega
  have e2 : ((n % 2 : Nat) : Int) * 2197175160 % 4294967296 = ((n % 2 * 2197175160 : Nat) : Int) := by omega
  rw [e1, e2, show (n : Int) / 2 = ((n / 2 : Nat) : Int) by omega, u32_xor_nat _ _ (by omega) (by omega)]
  rfl
theorem not_walk {n : Nat} (h : n < 4294967296) : bits .xor .u32 IntKind.u32.max (n : Int) = ((4294967295 - n : Nat) : Int) := by
  have e : IntKind.u32.max = ((4294967295 : Nat) : Int) := rfl
  rw [e, u32_xor_nat 4294967295 n (by omega) h]
  congr 1
  have h1 := BitVec.toNat_not (x := BitVec.ofNat 32 n)
  rw [← BitVec.allOnes_xor, BitVec.toNat_xor, BitVec.toNat_allOnes, BitVec.toNat_ofNat, Nat.mod_eq_of_lt (by omega)] at h1
  exact h1
theorem rbit_walk (m j : Nat) (x : UInt8) : ((m : Int) % 2 == IntKind.u64.wrap (((x.toNat : Int) / 2 ^ j).tmod 2)) = (m % 2 == x.toNat / 2 ^ j % 2) := by
  have e0 : ((x.toNat : Int) / 2 ^ j) = ((x.toNat / 2 ^ j : Nat) : Int) := by simp
  rw [e0]
  have hq : x.toNat / 2 ^ j < 256 := Nat.lt_of_le_of_lt (Nat.div_le_self _ _) x.toNat_lt
  generalize x.toNat / 2 ^ j = q at hq
  have e : IntKind.u64.wrap ((q : Int).tmod 2) = ((q % 2 : Nat) : Int) := by
    rw [Int.tmod_eq_emod_of_nonneg (by omega), IntWalk.u64_in _ ⟨by omega, by omega⟩]
    omega
  rw [e, Bool.eq_iff_iff]
  simp
  omega
theorem rxor_walk {m : Nat} (h : m < 4294967296) : bits .xor .u64 ((m : Int) / 2) 2197175160 = (((m / 2) ^^^ 2197175160 : Nat) : Int) := by
  rw [show (m : Int) / 2 = ((m / 2 : Nat) : Int) by omega]
  exact u64_xor_nat _ 2197175160 (by omega) (by omega)
theorem xor_walk {n : Nat} (h : n < 4294967296) (b : UInt8) : bits .xor .u32 (n : Int) (b.toNat : Int) = ((n ^^^ b.toNat : Nat) : Int) :=
  u32_xor_nat n b.toNat h (by have := b.toNat_lt; omega)
end Go.Larder
