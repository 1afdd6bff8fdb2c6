/- The check sum, in plain numbers: byte by byte and bit by bit. No program in sight. -/
import Derived.Test.YtbchkaoocobpfaaDoorBase
import Derived.Laws.BitsAllLaws
namespace Go.Larder
set_option linter.unusedVariables false
set_option linter.unusedSimpArgs false

def cStep (n : Nat) : Nat := (n / 2) ^^^ (n % 2 * 2197175160)
def cIter : Nat → Nat → Nat
  | 0, n => n
  | k + 1, n => cIter k (cStep n)
def cByte (n : Nat) (b : UInt8) : Nat := cIter 8 (n ^^^ b.toNat)
def cFold : List UInt8 → Nat → Nat
  | [], n => n
  | b :: r, n => cFold r (cByte n b)
def crc (l : List UInt8) : Nat := 4294967295 - cFold l 4294967295

theorem cStep_lt {n : Nat} (h : n < 4294967296) : cStep n < 4294967296 := by
  unfold cStep
  have h1 : n % 2 = 0 ∨ n % 2 = 1 := by omega
  exact Nat.xor_lt_two_pow (n := 32) (by omega) (by omega)
theorem xor_u8_lt {n : Nat} (h : n < 4294967296) (b : UInt8) : n ^^^ b.toNat < 4294967296 :=
  Nat.xor_lt_two_pow (n := 32) h (by have := b.toNat_lt; omega)

/-- One bit of the reference's count. -/
def rStep (n : Nat) (b : Nat) (k : Nat) : Nat := if (n % 2 != b / 2 ^ k % 2) then (n / 2) ^^^ 2197175160 else n / 2
def rIter (b : Nat) : Nat → Nat → Nat → Nat      -- how many are left, which is next, the sum
  | 0, _, n => n
  | m + 1, k, n => rIter b m (k + 1) (rStep n b k)
theorem rStep_lt {n b k : Nat} (h : n < 4294967296) : rStep n b k < 4294967296 := by
  unfold rStep
  split
  · exact Nat.xor_lt_two_pow (n := 32) (by omega) (by omega)
  · omega
theorem cStep_rStep (n b k : Nat) : cStep (n ^^^ b / 2 ^ k) = rStep n b k ^^^ b / 2 ^ (k + 1) := by
  unfold cStep rStep
  have e1 : b / 2 ^ (k + 1) = b / 2 ^ k / 2 := by rw [Nat.pow_succ, Nat.div_div_eq_div_mul]
  rw [e1, Nat.xor_div_two]
  generalize b / 2 ^ k = c
  have h0 : (n ^^^ c) % 2 = n % 2 ^^^ c % 2 := Nat.xor_mod_two_pow (n := 1)
  rw [h0]
  have h1 : n % 2 = 0 ∨ n % 2 = 1 := by omega
  have h2 : c % 2 = 0 ∨ c % 2 = 1 := by omega
  rcases h1 with h1 | h1 <;> rcases h2 with h2 | h2 <;> simp [h1, h2, Nat.xor_assoc, Nat.xor_comm] <;> rw [← Nat.xor_assoc, Nat.xor_comm (n / 2), Nat.xor_assoc]
theorem cIter_rIter (b : Nat) : ∀ m k n, cIter m (n ^^^ b / 2 ^ k) = rIter b m k n ^^^ b / 2 ^ (k + m)
  | 0, k, n => rfl
  | m + 1, k, n => by
    rw [cIter, cStep_rStep, cIter_rIter b m (k + 1), rIter, show k + 1 + m = k + (m + 1) by omega]
theorem cByte_rIter (n : Nat) (b : UInt8) : cByte n b = rIter b.toNat 8 0 n := by
  have h := cIter_rIter b.toNat 8 0 n
  have h2 : b.toNat / 2 ^ (0 + 8) = 0 := by have := b.toNat_lt; omega
  rw [h2] at h
  simpa [cByte] using h
theorem cIter_lt : ∀ m n, n < 4294967296 → cIter m n < 4294967296
  | 0, _, h => h
  | m + 1, n, h => cIter_lt m _ (cStep_lt h)
theorem cByte_lt {n : Nat} (h : n < 4294967296) (b : UInt8) : cByte n b < 4294967296 := cIter_lt 8 _ (xor_u8_lt h b)
theorem cFold_lt : ∀ (l : List UInt8) (n : Nat), n < 4294967296 → cFold l n < 4294967296
  | [], _, h => h
  | b :: r, n, h => cFold_lt r _ (cByte_lt h b)
theorem crc_lt (l : List UInt8) : crc l < 4294967296 := by unfold crc; omega

/-- How the walk spells one step. -/
theorem cStep_walk {n : Nat} (h : n < 4294967296) : bits .xor .u32 ((n : Int) / 2) (bits .and .u32 (n : Int) 1 * 2197175160 % 4294967296) = ((cStep n : Nat) : Int) := by
  have e1 : bits .and .u32 (n : Int) 1 = ((n % 2 : Nat) : Int) := by
    have := u32_and_nat n 1 h (by omega)
    rw [Nat.and_one_is_mod] at this
    exact this
  have h1 : n % 2 = 0 ∨ n % 2 = 1 := by omega
  have e2 : ((n % 2 : Nat) : Int) * 2197175160 % 4294967296 = ((n % 2 * 2197175160 : Nat) : Int) := by omega
  rw [e1, e2, show (n : Int) / 2 = ((n / 2 : Nat) : Int) by omega, u32_xor_nat _ _ (by omega) (by omega)]
  rfl
theorem not_walk {n : Nat} (h : n < 4294967296) : bits .xor .u32 IntKind.u32.max (n : Int) = ((4294967295 - n : Nat) : Int) := by
  have e : IntKind.u32.max = ((4294967295 : Nat) : Int) := rfl
  rw [e, u32_xor_nat 4294967295 n (by omega) h]
  congr 1
  have h1 := BitVec.toNat_not (x := BitVec.ofNat 32 n)
  rw [← BitVec.allOnes_xor, BitVec.toNat_xor, BitVec.toNat_allOnes, BitVec.toNat_ofNat, Nat.mod_eq_of_lt (by omega)] at h1
  exact h1
theorem rbit_walk (m j : Nat) (x : UInt8) : ((m : Int) % 2 == IntKind.u64.wrap (((x.toNat : Int) / 2 ^ j).tmod 2)) = (m % 2 == x.toNat / 2 ^ j % 2) := by
  have e0 : ((x.toNat : Int) / 2 ^ j) = ((x.toNat / 2 ^ j : Nat) : Int) := by simp
  rw [e0]
  have hq : x.toNat / 2 ^ j < 256 := Nat.lt_of_le_of_lt (Nat.div_le_self _ _) x.toNat_lt
  generalize x.toNat / 2 ^ j = q at hq
  have e : IntKind.u64.wrap ((q : Int).tmod 2) = ((q % 2 : Nat) : Int) := by
    rw [Int.tmod_eq_emod_of_nonneg (by omega), IntWalk.u64_in _ ⟨by omega, by omega⟩]
    omega
  rw [e, Bool.eq_iff_iff]
  simp
  omega
theorem rxor_walk {m : Nat} (h : m < 4294967296) : bits .xor .u64 ((m : Int) / 2) 2197175160 = (((m / 2) ^^^ 2197175160 : Nat) : Int) := by
  rw [show (m : Int) / 2 = ((m / 2 : Nat) : Int) by omega]
  exact u64_xor_nat _ 2197175160 (by omega) (by omega)
theorem xor_walk {n : Nat} (h : n < 4294967296) (b : UInt8) : bits .xor .u32 (n : Int) (b.toNat : Int) = ((n ^^^ b.toNat : Nat) : Int) :=
  u32_xor_nat n b.toNat h (by have := b.toNat_lt; omega)



/-! Frames. -/
def be4 (n : Nat) : List UInt8 := [UInt8.ofNat (n / 16777216), UInt8.ofNat (n / 65536 % 256), UInt8.ofNat (n / 256 % 256), UInt8.ofNat (n % 256)]
def le4 (c : Nat) : List UInt8 := [UInt8.ofNat (c % 256), UInt8.ofNat (c / 256 % 256), UInt8.ofNat (c / 65536 % 256), UInt8.ofNat (c / 16777216)]
def hd4 (m : Nat) : List UInt8 := [UInt8.ofNat (m / 256), UInt8.ofNat (m % 256), UInt8.ofNat (255 - m / 256), UInt8.ofNat (255 - m % 256)]
def frameL (n : Nat) (s : List UInt8) : List UInt8 := hd4 s.length ++ s ++ le4 (crc (be4 n ++ s))
theorem frameL_len (n : Nat) (s : List UInt8) : (frameL n s).length = s.length + 8 := by (simp [frameL, hd4, le4]) <;> omega
def bigL : Nat → Nat → List UInt8
  | _, 0 => []
  | n, k + 1 => bigL (n / 256) k ++ [UInt8.ofNat (n % 256)]
theorem bigL_len : ∀ (k n : Nat), (bigL n k).length = k
  | 0, _ => rfl
  | k + 1, n => by simp [bigL, bigL_len k]
theorem bigL_4 (n : Nat) (h : n < 4294967296) : bigL n 4 = be4 n := by
  simp only [bigL, be4, Nat.div_div_eq_div_mul, List.nil_append, List.cons_append, Nat.reduceMul]
  rw [Nat.mod_eq_of_lt (show n / 16777216 < 256 by omega)]
theorem bigL_2 (m : Nat) (h : m ≤ 1000) : bigL m 2 ++ bigL (65535 - m) 2 = hd4 m := by
  simp only [bigL, hd4, List.nil_append, List.cons_append]
  rw [Nat.mod_eq_of_lt (show m / 256 < 256 by omega), show (65535 - m) / 256 % 256 = 255 - m / 256 by omega, show (65535 - m) % 256 = 255 - m % 256 by omega]
theorem not_walk8 {n : Nat} (h : n < 256) : bits .xor .u8 IntKind.u8.max (n : Int) = ((255 - n : Nat) : Int) := by
  have e : IntKind.u8.max = ((255 : Nat) : Int) := rfl
  rw [e, u8_xor_nat 255 n (by omega) h]
  congr 1
  have h1 := BitVec.toNat_not (x := BitVec.ofNat 8 n)
  rw [← BitVec.allOnes_xor, BitVec.toNat_xor, BitVec.toNat_allOnes, BitVec.toNat_ofNat, Nat.mod_eq_of_lt (by omega)] at h1
  exact h1
theorem ofNat_toNat {n : Nat} (h : n < 256) : ((UInt8.ofNat n).toNat : Int) = n := by simp; omega

/-! Recover. -/
def recLen (r : List UInt8) : Nat := (r.getD 0 0).toNat * 256 + (r.getD 1 0).toNat
def recStep (k : Nat) (r : List UInt8) : Option Nat :=
  if r.length < 8 then none else if r.length < recLen r + 8 then none else if 1000 < recLen r ∨ 2147483648 < k then none
  else if frameL k ((r.drop 4).take (recLen r)) == r.take (recLen r + 8) then some (recLen r) else none
def recGo : Nat → List UInt8 → List (List UInt8) → Nat → List (List UInt8) × Nat
  | 0, _, acc, p => (acc, p)
  | f + 1, r, acc, p => match recStep acc.length r with
    | none => (acc, p)
    | some n => recGo f (r.drop (n + 8)) (acc ++ [(r.drop 4).take n]) (p + (n + 8))
def recover (l : List UInt8) : List (List UInt8) × Nat := recGo (l.length + 1) l [] 0
theorem recLen_lt (r : List UInt8) : recLen r < 65536 := by
  have := (r.getD 0 0).toNat_lt
  have := (r.getD 1 0).toNat_lt
  unfold recLen; omega
theorem recGo_none {f k : Nat} {r : List UInt8} {acc : List (List UInt8)} {p : Nat} (hf : 0 < f) (hk : k = acc.length) (h : recStep k r = none) : recGo f r acc p = (acc, p) := by
  subst hk
  cases f with
  | zero => omega
  | succ f => rw [recGo, h]
theorem recGo_some {f k n : Nat} {r : List UInt8} {acc : List (List UInt8)} {p : Nat} (hf : 0 < f) (hk : k = acc.length) (h : recStep k r = some n) : recGo f r acc p = recGo (f - 1) (r.drop (n + 8)) (acc ++ [(r.drop 4).take n]) (p + (n + 8)) := by
  subst hk
  cases f with
  | zero => omega
  | succ f => rw [recGo, h]; rfl
theorem or_walk (a b : UInt8) : bits .or .i64 ((a.toNat : Int) * 256) (b.toNat : Int) = ((a.toNat * 256 + b.toNat : Nat) : Int) := by
  have ha := a.toNat_lt
  have hb := b.toNat_lt
  have h1 : (BitVec.ofInt 64 ((a.toNat : Int) * 256)).toNat = a.toNat * 256 := by
    rw [show ((a.toNat : Int) * 256) = ((a.toNat * 256 : Nat) : Int) by omega, BitVec.ofInt_natCast, BitVec.toNat_ofNat]
    exact Nat.mod_eq_of_lt (by omega)
  have h2 : (BitVec.ofInt 64 (b.toNat : Int)).toNat = b.toNat := by
    rw [BitVec.ofInt_natCast, BitVec.toNat_ofNat]
    exact Nat.mod_eq_of_lt (by omega)
  have h3 : a.toNat * 256 ||| b.toNat = a.toNat * 256 + b.toNat := by
    have := Nat.two_pow_add_eq_or_of_lt (i := 8) hb a.toNat
    rw [show a.toNat * 256 = 2 ^ 8 * a.toNat by omega]
    exact this.symm
  show IntKind.i64.wrap ((BitVec.ofInt 64 ((a.toNat : Int) * 256) ||| BitVec.ofInt 64 (b.toNat : Int)).toNat : Int) = _
  rw [BitVec.toNat_or, h1, h2, h3, IntWalk.i64_in _ ⟨by omega, by omega⟩]

theorem recGo_len : ∀ (f : Nat) (r : List UInt8) (acc : List (List UInt8)) (p : Nat), acc.length ≤ 2147483649 → (recGo f r acc p).1.length ≤ 2147483649
  | 0, _, _, _, h => h
  | f + 1, r, acc, p, h => by
    rw [recGo]
    split
    · exact h
    · rename_i n hs
      apply recGo_len
      have : acc.length ≤ 2147483648 := by
        unfold recStep at hs
        split at hs
        · cases hs
        · split at hs
          · cases hs
          · split at hs
            · cases hs
            · omega
      simp; omega
theorem recover_len (l : List UInt8) : (recover l).1.length ≤ 2147483649 := recGo_len _ _ _ _ (by simp)

/-! ### Frame at any number, Write. -/
def frameE (n : Int) (s : List UInt8) : Except Int (List UInt8) := if n < 0 ∨ 2147483648 < n then .error 1 else if 1000 < s.length then .error 2 else .ok (frameL n.toNat s)
def writeGo : Nat → List (List UInt8) → List UInt8 → Except Int (List UInt8)
  | _, [], acc => .ok acc
  | k, s :: r, acc => match frameE (k : Int) s with
    | .error n => .error n
    | .ok f => writeGo (k + 1) r (acc ++ f)
def writeL (l : List (List UInt8)) : Except Int (List UInt8) := writeGo 0 l []
theorem writeGo_big {k : Nat} {s : List UInt8} {r : List (List UInt8)} {acc : List UInt8} (hk : k ≤ 2147483648) (hs : 1000 < s.length) : writeGo k (s :: r) acc = .error 2 := by
  rw [writeGo, frameE, if_neg (by omega), if_pos hs]
theorem writeGo_ok {k : Nat} {s : List UInt8} {r : List (List UInt8)} {acc : List UInt8} (hk : k ≤ 2147483648) (hs : ¬ 1000 < s.length) : writeGo k (s :: r) acc = writeGo (k + 1) r (acc ++ frameL k s) := by
  rw [writeGo, frameE, if_neg (by omega), if_neg hs]
  simp
theorem frameE_len {n : Int} {s f : List UInt8} (h : frameE n s = .ok f) : f.length ≤ 1008 := by
  unfold frameE at h
  split at h
  · cases h
  · split at h
    · cases h
    · cases h; rw [frameL_len]; omega
theorem writeGo_len : ∀ (l : List (List UInt8)) (k : Nat) (acc out : List UInt8), writeGo k l acc = .ok out → out.length ≤ acc.length + 1008 * l.length
  | [], _, _, _, h => by cases h; simp
  | s :: r, k, acc, out, h => by
    rw [writeGo] at h
    split at h
    · cases h
    · rename_i f hf
      have h1 := frameE_len hf
      have h2 := writeGo_len r _ _ _ h
      simp at h2 ⊢; omega
end Go.Larder
