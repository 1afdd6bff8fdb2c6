/- SpecDpp, SpecField, SpecGet, SpecPol, SpecKind, MapA, SpecDsk, SpecDpr, AppF, Flat, BoxC, AppS, OwnW, SpecLine, SpecFp, SpecHex -/
import Derived.Test.YtemjoiaapfhenaaGreatDoorGd00
import Derived.Lib.IndexMore
import Derived.Lib.IndexBytes
import Derived.Lib.Join
import Derived.Maps.OwnSet
import Derived.OwnWalk
import Derived.Laws.CopyOwn
import Derived.Lib.AppendStr

/- SpecDpp -/
section
namespace Go.Larder
set_option linter.unusedSimpArgs false
set_option linter.unusedVariables false
theorem civil_unique {n y y' r r' : Int} {m m' : Nat} (h : IsCivil n y m r) (h' : IsCivil n y' m' r') : y = y' ∧ m = m' ∧ r = r' := by
  obtain ⟨a1, _, _, _, _, _, _, a8⟩ := h.formula
  obtain ⟨b1, _, _, _, _, _, _, b8⟩ := h'.formula
  have := h.m1
  have := h'.m1
  refine ⟨?_, ?_, by omega⟩ <;> rcases a8 with a8 | a8 <;> rcases b8 with b8 | b8 <;> omega
/-- The text is the date of n. -/
def isDate (n : Int) (l : List UInt8) : Prop := ∃ (y : Int) (m : Nat) (r : Int), IsCivil (n / 86400) y m r ∧ 0 ≤ n ∧ n ≤ 253402300799 ∧ dateL n y m r = l
theorem isDate_at {n y r : Int} {m : Nat} {l : List UInt8} (h : IsCivil (n / 86400) y m r) (h0 : 0 ≤ n) (h1 : n ≤ 253402300799) : isDate n l ↔ dateL n y m r = l := by
  constructor
  · rintro ⟨y', m', r', h', _, _, e⟩
    obtain ⟨rfl, rfl, rfl⟩ := civil_unique h h'
    exact e
  · intro e
    exact ⟨y, m, r, h, h0, h1, e⟩
def seg (l : List UInt8) (a b : Nat) : List UInt8 := (l.drop a).take (b - a)
theorem seg_len {l : List UInt8} {a b : Nat} (h : b ≤ l.length) : (seg l a b).length = b - a := by unfold seg; rw [List.length_take, List.length_drop]; omega
def mon2L : List UInt8 := [74, 97, 110, 32, 70, 101, 98, 32, 77, 97, 114, 32, 65, 112, 114, 32, 77, 97, 121, 32, 74, 117, 110, 32, 74, 117, 108, 32, 65, 117, 103, 32, 83, 101, 112, 32, 79, 99, 116, 32, 78, 111, 118, 32, 68, 101, 99]
theorem mon_at : ∀ m : Fin 12, Lib.index monL (moD m.val) = ((3 * m.val : Nat) : Int) ∧ Lib.index mon2L (moD m.val) = ((4 * m.val : Nat) : Int) := by decide +kernel
/-- 'index' of a text in another one: none, or a place. -/
theorem index_cases (s sub : List UInt8) : Lib.index s sub = -1 ∨ ∃ j : Nat, Lib.index s sub = j ∧ j + sub.length ≤ s.length := by
  rcases Lib.index_spec s sub with h | ⟨i, h, _⟩
  · exact .inl h.1
  · refine .inr ⟨i, h, ?_⟩
    have := Lib.index_room s sub (by omega)
    omega
-- digits of numbers below 100, of years
theorem two_is (n : Int) (h0 : 0 ≤ n) (h1 : n < 100) : twoL n = [UInt8.ofNat (48 + n.toNat / 10), UInt8.ofNat (48 + n.toNat % 10)] := by
  unfold twoL
  split
  · rw [Lib.decDigits_one (by omega), show n.toNat / 10 = 0 from by omega, show n.toNat % 10 = n.toNat from by omega]; rfl
  · rw [Lib.decDigits_two (by omega) (by omega)]
theorem four_is (n : Int) (h0 : 1000 ≤ n) (h1 : n ≤ 9999) : Lib.decDigits n.toNat = [UInt8.ofNat (48 + n.toNat / 1000), UInt8.ofNat (48 + n.toNat / 100 % 10), UInt8.ofNat (48 + n.toNat / 10 % 10), UInt8.ofNat (48 + n.toNat % 10)] := by
  have e : Lib.decDigits n.toNat = Lib.decDigits (n.toNat / 100) ++ [UInt8.ofNat (48 + n.toNat / 10 % 10)] ++ [UInt8.ofNat (48 + n.toNat % 10)] := by
    conv => lhs; rw [Lib.decDigits, dif_neg (by omega), Lib.decDigits, dif_neg (by omega)]
    rw [Nat.div_div_eq_div_mul]
  rw [e, Lib.decDigits_two (by omega) (by omega), Nat.div_div_eq_div_mul]
  rfl
theorem dig_in (k : Nat) (h : k < 10) : inTab tensTab (UInt8.ofNat (48 + k)) = true ∧ ((UInt8.ofNat (48 + k)).toNat : Int) - 48 = k := by
  have e : (UInt8.ofNat (48 + k)).toNat = 48 + k := by rw [UInt8.toNat_ofNat']; omega
  exact ⟨by rw [tens_eq, e]; simp; omega, by rw [e]; omega⟩
theorem nmGo_dig (n : Int) (k : Nat) (h : k < 10) (l : List UInt8) : nmGo n (UInt8.ofNat (48 + k) :: l) = nmGo (10 * n + k) l := by
  rw [nmGo_yes (dig_in k h).1, (dig_in k h).2]
theorem nm_two (n : Int) (h0 : 0 ≤ n) (h1 : n < 100) : nm (twoL n) = n := by
  rw [two_is n h0 h1]
  unfold nm
  rw [nmGo_dig _ _ (by omega), nmGo_dig _ _ (by omega)]
  unfold nmGo
  omega
theorem nm_four (n : Int) (h0 : 1000 ≤ n) (h1 : n ≤ 9999) : nm (Lib.decDigits n.toNat) = n := by
  rw [four_is n h0 h1]
  unfold nm
  rw [nmGo_dig _ _ (by omega), nmGo_dig _ _ (by omega), nmGo_dig _ _ (by omega), nmGo_dig _ _ (by omega)]
  unfold nmGo
  omega
theorem len3 {l : List UInt8} (h : l.length = 3) : ∃ a b c, l = [a, b, c] := by
  match l, h with
  | [a, b, c], _ => exact ⟨a, b, c, rfl⟩
/-- The parts of a date's text. -/
theorem date_parts {n : Int} {l : List UInt8} (h : isDate n l) : ∃ (y : Int) (m : Nat) (r : Int), IsCivil (n / 86400) y m r ∧ 0 ≤ n ∧ n ≤ 253402300799 ∧ y ≤ 9999 ∧ l.length = 29 ∧
    seg l 8 11 = moD m ∧ seg l 12 16 = Lib.decDigits y.toNat ∧ seg l 5 7 = twoL (r + 1) ∧ seg l 17 19 = twoL (n % 86400 / 3600) ∧ seg l 20 22 = twoL (n % 86400 / 60 % 60) ∧ seg l 23 25 = twoL (n % 86400 % 60) := by
  obtain ⟨y, m, r, h, h0, h1, rfl⟩ := h
  have hy1 := h.y1 (by omega)
  have hm1 := h.m1
  have hr : r < 31 := by have := h.r1; have := md_bd y m; omega
  have hr0 := h.r0
  have hy0 := h.y0
  refine ⟨y, m, r, h, h0, h1, hy1, ?_⟩
  unfold dateL
  obtain ⟨a1, a2, a3, ea⟩ := len3 (wk_len (n / 86400 % 7).toNat (by omega))
  obtain ⟨b1, b2, b3, eb⟩ := len3 (mo_len m hm1)
  obtain ⟨c1, c2, c3, c4, ec⟩ : ∃ a b c d, Lib.decDigits y.toNat = [a, b, c, d] := ⟨_, _, _, _, four_is y (by omega) hy1⟩
  obtain ⟨d1, d2, ed⟩ : ∃ a b, twoL (r + 1) = [a, b] := ⟨_, _, two_is (r + 1) (by omega) (by omega)⟩
  obtain ⟨f1, f2, ef⟩ : ∃ a b, twoL (n % 86400 / 3600) = [a, b] := ⟨_, _, two_is _ (by omega) (by omega)⟩
  obtain ⟨g1, g2, eg⟩ : ∃ a b, twoL (n % 86400 / 60 % 60) = [a, b] := ⟨_, _, two_is _ (by omega) (by omega)⟩
  obtain ⟨i1, i2, eh⟩ : ∃ a b, twoL (n % 86400 % 60) = [a, b] := ⟨_, _, two_is _ (by omega) (by omega)⟩
  generalize wkD (n / 86400 % 7).toNat = W1 at *
  generalize moD m = W2 at *
  generalize Lib.decDigits y.toNat = W3 at *
  generalize twoL (r + 1) = W4 at *
  generalize twoL (n % 86400 / 3600) = W5 at *
  generalize twoL (n % 86400 / 60 % 60) = W6 at *
  generalize twoL (n % 86400 % 60) = W7 at *
  subst ea eb ec ed ef eg eh
  refine ⟨?_, ?_, ?_, ?_, ?_, ?_, ?_⟩ <;> simp [seg]
/-- date.Days answers a day. -/
def daysIn (y m d : Int) : Bool := decide (1970 ≤ y) && decide (y ≤ 9999) && decide (1 ≤ m) && decide (m ≤ 12) && decide (1 ≤ d) && decide (d ≤ md y (m - 1).toNat)
def dayN (y d : Int) (k : Nat) : Int := yd y + cum y k + d - 1
theorem dayN_bd {y d : Int} {k : Nat} (y0 : 1970 ≤ y) (y1 : y ≤ 9999) (hk : k < 12) (d0 : 1 ≤ d) (d1 : d ≤ md y k) : 0 ≤ dayN y d k ∧ dayN y d k ≤ 2932896 := by
  have a := yd_bd y0 y1
  have b := cum_bd y k
  have c := cum_top y k hk
  have hyl := lpI_bd y
  unfold dayN
  refine ⟨by omega, ?_⟩
  rcases Int.lt_or_le y 9999 with h | h
  · have := yd_step (a := y) (b := 9999) h
    have : yd 9999 = 2932532 := by decide
    omega
  · obtain rfl : y = 9999 := by omega
    have : lpI 9999 = 0 := by decide
    omega
/-- date.Parse: whether it reads a number at all, and which. -/
def pN (l : List UInt8) (k : Nat) : Int := dayN (nm (seg l 12 16)) (nm (seg l 5 7)) k * 86400 + nm (seg l 17 19) * 3600 + nm (seg l 20 22) * 60 + nm (seg l 23 25)
/-- (what is read out of a text of 29 bytes) -/
structure PGood (l : List UInt8) (k : Nat) : Prop where
  len : l.length = 29
  k12 : k < 12
  mon : Lib.index monL (seg l 8 11) = ((3 * k : Nat) : Int)
  din : daysIn (nm (seg l 12 16)) ((k : Int) + 1) (nm (seg l 5 7)) = true
  hh : 0 ≤ nm (seg l 17 19)
  mm : 0 ≤ nm (seg l 20 22)
  ss : 0 ≤ nm (seg l 23 25)
theorem daysIn_iff {y d : Int} {k : Nat} (hk : k < 12) : daysIn y ((k : Int) + 1) d = true ↔ (1970 ≤ y ∧ y ≤ 9999 ∧ 1 ≤ d ∧ d ≤ md y k) := by
  unfold daysIn
  rw [show ((k : Int) + 1 - 1).toNat = k from by omega]
  simp
  omega
theorem isDate_good {n : Int} {l : List UInt8} (h : isDate n l) : ∃ k, PGood l k ∧ pN l k = n := by
  obtain ⟨y, m, r, h, h0, h1, hy1, hl, e1, e2, e3, e4, e5, e6⟩ := date_parts h
  have hm1 := h.m1
  have hr : r < 31 := by have := h.r1; have := md_bd y m; omega
  have hr0 := h.r0
  have hy0 := h.y0
  have hr1 := h.r1
  have n1 := nm_four y (by omega) hy1
  have n2 := nm_two (r + 1) (by omega) (by omega)
  have n3 := nm_two (n % 86400 / 3600) (by omega) (by omega)
  have n4 := nm_two (n % 86400 / 60 % 60) (by omega) (by omega)
  have n5 := nm_two (n % 86400 % 60) (by omega) (by omega)
  refine ⟨m, ⟨hl, hm1, by rw [e1]; exact (mon_at ⟨m, hm1⟩).1, by rw [e2, e3, n1, n2, daysIn_iff hm1]; omega, by rw [e4, n3]; omega, by rw [e5, n4]; omega, by rw [e6, n5]; omega⟩, ?_⟩
  unfold pN dayN
  rw [e2, e3, e4, e5, e6, n1, n2, n3, n4, n5]
  have := h.eq
  omega
end Go.Larder
end

/- SpecField -/
section
namespace Go.Larder
set_option linter.unusedVariables false
set_option linter.unusedSimpArgs false
abbrev Fld := List UInt8 × List UInt8

def hits (nm : List UInt8) (f : Fld) : Bool := lowL f.1 == nm
/-- The place of the first of that name (-1: none), counted from k on. -/
def ixFrom (nm : List UInt8) : Nat → List Fld → Int
  | _, [] => -1
  | k, f :: l => if hits nm f then (k : Int) else ixFrom nm (k + 1) l
theorem ixFrom_ge (nm : List UInt8) : ∀ (l : List Fld) (k : Nat), ixFrom nm k l = -1 ∨ ∃ m : Nat, ixFrom nm k l = m ∧ k ≤ m ∧ m < k + l.length ∧ (l.take (m - k)).all (fun f => !hits nm f) = true ∧ (∃ f, l[m - k]? = some f ∧ hits nm f = true)
  | [], k => .inl rfl
  | f :: l, k => by
    unfold ixFrom
    by_cases h : hits nm f = true
    · rw [if_pos h]
      exact .inr ⟨k, rfl, by omega, by simp, by simp, f, by simp, h⟩
    · rw [if_neg h]
      rcases ixFrom_ge nm l (k + 1) with h1 | ⟨m, h1, h2, h3, h4, g, h5, h6⟩
      · exact .inl h1
      · refine .inr ⟨m, h1, by omega, by simp; omega, ?_, g, ?_, h6⟩
        · rw [show m - k = (m - (k + 1)) + 1 from by omega, List.take_succ_cons, List.all_cons, h4]
          simpa using h
        · rw [show m - k = (m - (k + 1)) + 1 from by omega, List.getElem?_cons_succ]
          exact h5
theorem ixFrom_none {nm : List UInt8} : ∀ {l : List Fld} {k : Nat}, ixFrom nm k l = -1 → l.all (fun f => !hits nm f) = true
  | [], _, _ => rfl
  | f :: l, k, h => by
    unfold ixFrom at h
    by_cases h1 : hits nm f = true
    · rw [if_pos h1] at h; omega
    · rw [if_neg h1] at h
      rw [List.all_cons, ixFrom_none h]
      simpa using h1

def dropL (nm : List UInt8) (l : List Fld) : List Fld := l.filter fun f => !hits nm f
theorem dropL_all {nm : List UInt8} {l : List Fld} (h : l.all (fun f => !hits nm f) = true) : dropL nm l = l := by
  unfold dropL
  exact List.filter_eq_self.2 (by simpa using h)

/-- The reference's way. -/
def setGo (nm name value : List UInt8) : List Fld → List Fld → Bool → List Fld
  | [], out, is => if is then out else out ++ [(name, value)]
  | f :: l, out, is => if hits nm f then (if is then setGo nm name value l out is else setGo nm name value l (out ++ [(name, value)]) true) else setGo nm name value l (out ++ [f]) is
def setR (name value : List UInt8) (l : List Fld) : List Fld := setGo (lowL name) name value l [] false
theorem setGo_true (nm name value : List UInt8) : ∀ (l out : List Fld), setGo nm name value l out true = out ++ dropL nm l
  | [], out => by simp [setGo, dropL]
  | f :: l, out => by
    unfold setGo
    by_cases h : hits nm f = true
    · rw [if_pos h, if_pos rfl, setGo_true nm name value l out]; simp [dropL, h]
    · rw [if_neg h, setGo_true nm name value l _]; simp [dropL, h]
theorem setGo_false (nm name value : List UInt8) : ∀ (l out : List Fld), l.all (fun f => !hits nm f) = true → setGo nm name value l out false = out ++ l ++ [(name, value)]
  | [], out, _ => by simp [setGo]
  | f :: l, out, h => by
    rw [List.all_cons, Bool.and_eq_true] at h
    unfold setGo
    rw [if_neg (by simpa using h.1), setGo_false nm name value l _ h.2]
    simp
theorem setGo_skip (nm name value : List UInt8) : ∀ (p l out : List Fld), p.all (fun f => !hits nm f) = true → setGo nm name value (p ++ l) out false = setGo nm name value l (out ++ p) false
  | [], l, out, _ => by simp
  | f :: p, l, out, h => by
    rw [List.all_cons, Bool.and_eq_true] at h
    rw [List.cons_append]
    conv => lhs; unfold setGo
    rw [if_neg (by simpa using h.1), setGo_skip nm name value p l _ h.2]
    simp
/-- The program's way. -/
theorem setR_none {name value : List UInt8} {l : List Fld} (h : ixFrom (lowL name) 0 l = -1) : setR name value l = l ++ [(name, value)] := by
  unfold setR
  rw [setGo_false _ _ _ l [] (ixFrom_none h)]
  simp
theorem setR_some {name value : List UInt8} {l : List Fld} {m : Nat} (h : ixFrom (lowL name) 0 l = m) : setR name value l = l.take m ++ [(name, value)] ++ dropL (lowL name) (l.drop (m + 1)) := by
  rcases ixFrom_ge (lowL name) l 0 with h1 | ⟨m', h1, h2, h3, h4, f, h5, h6⟩
  · omega
  · obtain rfl : m' = m := by omega
    have hm : m' < l.length := by omega
    have hsplit : l = l.take m' ++ (f :: l.drop (m' + 1)) := by
      have h7 : l[m']? = some f := by simpa using h5
      have h8 := List.drop_eq_getElem_cons hm
      rw [(List.getElem?_eq_some_iff.1 h7).2] at h8
      rw [← h8, List.take_append_drop]
    unfold setR
    conv => lhs; rw [hsplit]
    rw [setGo_skip _ _ _ _ _ _ (by simpa using h4)]
    conv => lhs; unfold setGo
    rw [if_pos h6, if_neg (by simp), setGo_true]
    simp
end Go.Larder
end

/- SpecGet -/
section
namespace Go.Larder
open Go.RowKit
set_option linter.unusedVariables false
set_option linter.unusedSimpArgs false
def valsL (nm : List UInt8) (l : List Fld) : List (List UInt8) := (l.filter (hits nm)).map (·.2)
def sepL : List UInt8 := [44, 32]
def getStep (out : List UInt8) (is : Bool) (v : List UInt8) : List UInt8 := if is then out ++ sepL ++ v else out ++ v
def getGo (nm : List UInt8) : List Fld → List UInt8 → Bool → List UInt8 × Bool
  | [], out, is => (out, is)
  | f :: l, out, is => if hits nm f then getGo nm l (getStep out is f.2) true else getGo nm l out is
theorem join_snoc (vs : List (List UInt8)) (x : List UInt8) : Lib.join (vs ++ [x]) sepL = getStep (Lib.join vs sepL) (!vs.isEmpty) x := by
  cases vs with
  | nil => simp [getStep, Lib.join_nil, Lib.join_one]
  | cons v vs => simp [getStep, Lib.join_cons, Lib.joinTail]
theorem getGo_eq (nm : List UInt8) : ∀ (l : List Fld) (vs : List (List UInt8)), getGo nm l (Lib.join vs sepL) (!vs.isEmpty) = (Lib.join (vs ++ valsL nm l) sepL, !(vs ++ valsL nm l).isEmpty)
  | [], vs => by simp [getGo, valsL]
  | f :: l, vs => by
    unfold getGo
    by_cases h : hits nm f = true
    · rw [if_pos h, ← join_snoc]
      have := getGo_eq nm l (vs ++ [f.2])
      rw [show (!(vs ++ [f.2]).isEmpty) = true from by simp] at this
      rw [this]
      simp [valsL, h]
    · rw [if_neg h, getGo_eq nm l vs]
      simp [valsL, h]
theorem getGo_all (nm : List UInt8) (l : List Fld) : getGo nm l [] false = (Lib.join (valsL nm l) sepL, !(valsL nm l).isEmpty) := by
  have := getGo_eq nm l []
  simpa [Lib.join_nil] using this
theorem join_len_le (vs : List (List UInt8)) : (Lib.join vs sepL).length ≤ (vs.map (fun v => v.length + 2)).sum := by
  induction vs with
  | nil => simp [Lib.join_nil]
  | cons v vs ih =>
    rw [Lib.join_length]
    have h2 : ∀ l : List (List UInt8), 2 * l.length + Lib.lens l = (l.map (fun v => v.length + 2)).sum := by
      intro l
      induction l with
      | nil => rfl
      | cons a l ih2 => simp [Lib.lens] at ih2 ⊢; omega
    have h3 := h2 vs
    simp [Lib.lens, sepL] at h3 ⊢
    omega
theorem vals_len_le (nm : List UInt8) : ∀ l : List Fld, ((valsL nm l).map (fun v => v.length + 2)).sum ≤ (l.map (fun f => f.1.length + f.2.length + 3)).sum
  | [] => by simp [valsL]
  | f :: l => by
    have ih := vals_len_le nm l
    unfold valsL at ih ⊢
    by_cases h : hits nm f = true
    · simp [h] at ih ⊢; omega
    · simp [h] at ih ⊢; omega
end Go.Larder
end

/- SpecPol -/
section
namespace Go.Larder
set_option linter.unusedVariables false
set_option linter.unusedSimpArgs false
def hitsN (ns : List (List UInt8)) (f : Fld) : Bool := ns.any fun y => lowL f.1 == y
def ixP (p : Fld → Bool) : Nat → List Fld → Int
  | _, [] => -1
  | k, f :: l => if p f then (k : Int) else ixP p (k + 1) l
def dropP (p : Fld → Bool) (l : List Fld) : List Fld := l.filter fun f => !p f
theorem ixP_ge (p : Fld → Bool) : ∀ (l : List Fld) (k : Nat), ixP p k l = -1 ∨ ∃ m : Nat, ixP p k l = m ∧ k ≤ m ∧ m < k + l.length ∧ (l.take (m - k)).all (fun f => !p f) = true ∧ (∃ f, l[m - k]? = some f ∧ p f = true)
  | [], k => .inl rfl
  | f :: l, k => by
    unfold ixP
    by_cases h : p f = true
    · rw [if_pos h]
      exact .inr ⟨k, rfl, by omega, by simp, by simp, f, by simp, h⟩
    · rw [if_neg h]
      rcases ixP_ge p l (k + 1) with h1 | ⟨m, h1, h2, h3, h4, g, h5, h6⟩
      · exact .inl h1
      · refine .inr ⟨m, h1, by omega, by simp; omega, ?_, g, ?_, h6⟩
        · rw [show m - k = (m - (k + 1)) + 1 from by omega, List.take_succ_cons, List.all_cons, h4]
          simpa using h
        · rw [show m - k = (m - (k + 1)) + 1 from by omega, List.getElem?_cons_succ]
          exact h5
theorem ixP_none {p : Fld → Bool} : ∀ {l : List Fld} {k : Nat}, ixP p k l = -1 → l.all (fun f => !p f) = true
  | [], _, _ => rfl
  | f :: l, k, h => by
    unfold ixP at h
    by_cases h1 : p f = true
    · rw [if_pos h1] at h; omega
    · rw [if_neg h1] at h
      rw [List.all_cons, ixP_none h]
      simpa using h1
theorem dropP_all {p : Fld → Bool} {l : List Fld} (h : l.all (fun f => !p f) = true) : dropP p l = l := by
  unfold dropP
  exact List.filter_eq_self.2 (by simpa using h)
/-- The place of the first of a text in a list of texts. -/
def ixS (x : List UInt8) : Nat → List (List UInt8) → Int
  | _, [] => -1
  | k, y :: l => if x == y then (k : Int) else ixS x (k + 1) l
theorem ixS_any (x : List UInt8) : ∀ (l : List (List UInt8)) (k : Nat), decide (0 ≤ ixS x k l) = l.any (fun y => x == y)
  | [], k => rfl
  | y :: l, k => by
    unfold ixS
    cases h : (x == y)
    · rw [if_neg (by simp), ixS_any x l (k + 1), List.any_cons, h]; simp
    · rw [if_pos rfl, List.any_cons, h]; simp
def connL : List UInt8 := [67, 111, 110, 110, 101, 99, 116, 105, 111, 110]
def hop7 : List (List UInt8) := [[99, 111, 110, 110, 101, 99, 116, 105, 111, 110], [107, 101, 101, 112, 45, 97, 108, 105, 118, 101], [112, 114, 111, 120, 121, 45, 99, 111, 110, 110, 101, 99, 116, 105, 111, 110], [116, 101], [116, 114, 97, 105, 108, 101, 114], [116, 114, 97, 110, 115, 102, 101, 114, 45, 101, 110, 99, 111, 100, 105, 110, 103], [117, 112, 103, 114, 97, 100, 101]]
def partsOf (s : List UInt8) : List (List UInt8) := match splitE s with
  | .error _ => []
  | .ok p => p
def hopsL (l : List Fld) : List (List UInt8) := hop7 ++ (partsOf (Lib.join (valsL (lowL connL) l) sepL)).map lowL
theorem partsOf_err {s : List UInt8} {n : Int} (h : splitE s = .error n) : partsOf s = [] := by unfold partsOf; rw [h]
theorem partsOf_ok {s : List UInt8} {p : List (List UInt8)} (h : splitE s = .ok p) : partsOf s = p := by unfold partsOf; rw [h]
def stripL (l : List Fld) : List Fld := dropP (hitsN (hopsL l)) l
theorem sum_big {l : List Fld} (h : (l.map (fun f => f.1.length + f.2.length + 3)).sum ≤ 1048576) : l.length ≤ 1048576 ∧ ∀ f ∈ l, f.1.length ≤ 1048576 ∧ f.2.length ≤ 1048576 := by
  have h1 : ∀ l : List Fld, l.length ≤ (l.map (fun f => f.1.length + f.2.length + 3)).sum := by
    intro l
    induction l with
    | nil => simp
    | cons f l ih => simp; omega
  have h2 : ∀ l : List Fld, ∀ f ∈ l, f.1.length + f.2.length ≤ (l.map (fun f => f.1.length + f.2.length + 3)).sum := by
    intro l
    induction l with
    | nil => simp
    | cons g l ih =>
      intro f hf
      rcases List.mem_cons.1 hf with rfl | hf
      · simp; omega
      · have := ih f hf; simp; omega
  exact ⟨by have := h1 l; omega, fun f hf => by have := h2 l f hf; omega⟩
theorem join_ok {nm : List UInt8} {l : List Fld} (h : (l.map (fun f => f.1.length + f.2.length + 3)).sum ≤ 1048576) : (Lib.join (valsL nm l) sepL).length ≤ 1048576 := by
  have h1 := join_len_le (valsL nm l)
  have h2 := vals_len_le nm l
  omega
theorem splitE_20 {s : List UInt8} {l : List (List UInt8)} (h : splitE s = .ok l) : l.length ≤ 20 := by
  unfold splitE at h
  split at h
  · cases h
  · split at h
    · cases h
    · split at h
      · cases h
      · injection h with h; subst h; omega
theorem partsOf_len (s : List UInt8) : (partsOf s).length ≤ 20 := by
  unfold partsOf
  split
  · simp
  · rename_i p hp; exact splitE_20 hp
theorem hopsL_len (l : List Fld) : (hopsL l).length ≤ 27 := by
  unfold hopsL
  have := partsOf_len (Lib.join (valsL (lowL connL) l) sepL)
  simp [hop7]; omega
def mets4 : List (List UInt8) := [[80, 85, 84], [80, 79, 83, 84], [68, 69, 76, 69, 84, 69], [80, 65, 84, 67, 72]]
def inval (m : List UInt8) (c : Int) : Bool := (mets4.any fun y => m == y) && decide (200 ≤ c) && decide (c < 400)
end Go.Larder
end

/- SpecKind -/
section
namespace Go.Larder
open Go.RowKit
set_option linter.unusedVariables false
set_option linter.unusedSimpArgs false
theorem nmGo_nn : ∀ (l : List UInt8) (n : Int), (∀ x ∈ l, inTab tensTab x = true) → 0 ≤ n → n ≤ nmGo n l
  | [], n, _, h => Int.le_refl _
  | c :: l, n, hd, h => by
    have hc : 48 ≤ c.toNat ∧ c.toNat ≤ 57 := by have := hd c (by simp); rw [tens_eq] at this; exact of_decide_eq_true this
    have := nmGo_nn l (10 * n + (c.toNat - 48)) (fun x hx => hd x (by simp [hx])) (by omega)
    have e : nmGo n (c :: l) = nmGo (10 * n + (c.toNat - 48)) l := by
      rw [nmGo, if_pos (hd c (by simp))]
    rw [e]
    omega
theorem dec_one {n : Nat} (h : n < 10) : Lib.decDigits n = [UInt8.ofNat (48 + n)] := by rw [Lib.decDigits, dif_pos h]
/-- Digits without a leading zero: the text is its number's digits. -/
theorem dec_nm : ∀ (k : Nat) (l : List UInt8), l.length ≤ k → l ≠ [] → (∀ x ∈ l, inTab tensTab x = true) → (1 < l.length → l.head? ≠ some 48) → Lib.decDigits (nm l).toNat = l ∧ 0 ≤ nm l
  | 0, l, hl, hne, _, _ => absurd (List.eq_nil_of_length_eq_zero (Nat.le_zero.1 hl)) hne
  | k + 1, l, hl, hne, hd, hz => by
    rcases nil_or_snoc l with rfl | ⟨m, c, rfl⟩
    · exact absurd rfl hne
    · have hc : inTab tensTab c = true := hd c (by simp)
      have hcd : 48 ≤ c.toNat ∧ c.toNat ≤ 57 := by have := hc; rw [tens_eq] at this; exact of_decide_eq_true this
      have hm : ∀ x ∈ m, inTab tensTab x = true := fun x hx => hd x (by simp [hx])
      have hs : nm (m ++ [c]) = 10 * nm m + (c.toNat - 48) := nmGo_snoc m 0 c hm hc
      have hcc : UInt8.ofNat (48 + (c.toNat - 48)) = c := by
        rw [show 48 + (c.toNat - 48) = c.toNat from by omega]; exact UInt8.ofNat_toNat
      by_cases hme : m = []
      · subst hme
        have h0 : nm ([] : List UInt8) = 0 := rfl
        rw [hs, h0]
        refine ⟨?_, by omega⟩
        rw [show ((10 : Int) * 0 + ((c.toNat : Int) - 48)).toNat = c.toNat - 48 from by omega, dec_one (by omega), hcc]
        rfl
      · have hml : 0 < m.length := List.length_pos_iff.2 hme
        have hhead : m.head? ≠ some 48 := by
          have := hz (by simp; omega)
          rcases m with _ | ⟨a, m⟩
          · exact absurd rfl hme
          · simpa using this
        obtain ⟨ih, ih0⟩ := dec_nm k m (by simp at hl; omega) hme hm (fun _ => hhead)
        have h1 : 1 ≤ nm m := by
          rcases m with _ | ⟨a, m⟩
          · exact absurd rfl hme
          · have ha : 48 ≤ a.toNat ∧ a.toNat ≤ 57 := by have := hm a (by simp); rw [tens_eq] at this; exact of_decide_eq_true this
            have hne48 : a.toNat ≠ 48 := fun h => hhead (by
              have : a = 48 := UInt8.toNat_inj.1 (by show a.toNat = 48; omega)
              simp [this])
            have := nmGo_nn m (a.toNat - 48) (fun x hx => hm x (by simp [hx])) (by omega)
            have e : nm (a :: m) = nmGo (a.toNat - 48) m := by
              unfold nm
              rw [nmGo, if_pos (hm a (by simp))]
              simp
            rw [e]
            omega
        rw [hs]
        refine ⟨?_, by omega⟩
        have hn : (10 * nm m + ((c.toNat : Int) - 48)).toNat = 10 * (nm m).toNat + (c.toNat - 48) := by omega
        rw [hn, dec_step (by omega), show (10 * (nm m).toNat + (c.toNat - 48)) / 10 = (nm m).toNat from by omega, ih, show (10 * (nm m).toNat + (c.toNat - 48)) % 10 = c.toNat - 48 from by omega, hcc]
theorem nm_dig : ∀ (l : List UInt8) (n : Int), 0 ≤ n → 0 ≤ nmGo n l → ∀ x ∈ l, inTab tensTab x = true
  | [], _, _, _ => by simp
  | c :: l, n, hn, h => by
    rw [nmGo] at h
    split at h
    · next hc =>
      have hcd : 48 ≤ c.toNat ∧ c.toNat ≤ 57 := by have := hc; rw [tens_eq] at this; exact of_decide_eq_true this
      intro x hx
      rcases List.mem_cons.1 hx with rfl | hx
      · exact hc
      · exact nm_dig l _ (by omega) h x hx
    · omega
/-- A number of at most four digits, read. -/
theorem cnt_yes {t : List UInt8} (h : 0 ≤ cnt t 9999) : Lib.decDigits (cnt t 9999).toNat = t ∧ cnt t 9999 ≤ 9999 := by
  unfold cnt at *
  split at h
  · omega
  · next hg =>
    rw [if_neg hg]
    split at h
    · omega
    · next hm =>
      rw [if_neg hm]
      simp only [Bool.or_eq_true, Bool.and_eq_true, decide_eq_true_eq, not_or, not_and] at hg
      obtain ⟨⟨h1, h2⟩, h3⟩ := hg
      refine ⟨(dec_nm t.length t (Nat.le_refl _) (by intro e; subst e; simp at h1) (nm_dig t 0 (by omega) h) (fun hl => by have := h3 hl; simpa using this)).1, by omega⟩
theorem dec_len4 {n : Nat} (h : (Lib.decDigits n).length ≤ 4) : n ≤ 9999 := by
  rcases Nat.lt_or_ge 9999 n with hn | hn
  · exfalso
    rw [dec_step (by omega), dec_step (by omega), dec_step (by omega), dec_step (by omega)] at h
    have := List.length_pos_iff.2 (dec_ne (n / 10 / 10 / 10 / 10))
    simp only [List.length_append, List.length_cons, List.length_nil] at h
    omega
  · exact hn
theorem dec_len4' {n : Nat} (h : n ≤ 9999) : (Lib.decDigits n).length ≤ 4 := by
  by_cases h1 : n < 10
  · rw [dec_one h1]; simp
  · rw [dec_step h1]
    by_cases h2 : n / 10 < 10
    · rw [dec_one h2]; simp
    · rw [dec_step h2]
      by_cases h3 : n / 10 / 10 < 10
      · rw [dec_one h3]; simp
      · rw [dec_step h3, dec_one (by omega)]; simp
/-- What a length field says. -/
def sizeL : List (List UInt8) → Int × Int
  | [] => (0, 10)
  | t :: r => if r.all (· == t) && decide (0 ≤ cnt t 9999) then (if 5000 < cnt t 9999 then (0, 2) else (cnt t 9999, 0)) else (0, 10)
def sizeB (v : List UInt8) : Int × Int := match splitE v with
  | .error _ => (0, 10)
  | .ok l => sizeL l
def teN : List UInt8 := [84, 114, 97, 110, 115, 102, 101, 114, 45, 69, 110, 99, 111, 100, 105, 110, 103]
def clN : List UInt8 := [67, 111, 110, 116, 101, 110, 116, 45, 76, 101, 110, 103, 116, 104]
def teL : List UInt8 := [116, 114, 97, 110, 115, 102, 101, 114, 45, 101, 110, 99, 111, 100, 105, 110, 103]
def clL : List UInt8 := [99, 111, 110, 116, 101, 110, 116, 45, 108, 101, 110, 103, 116, 104]
theorem te_low : lowL teN = lowL teL := by decide
theorem cl_low : lowL clN = lowL clL := by decide
def headL : List UInt8 := [72, 69, 65, 68]
def chkL : List UInt8 := [99, 104, 117, 110, 107, 101, 100]
def noBody (req : Bool) (m : List UInt8) (code : Int) : Bool := !req && (m == headL || decide (code < 200) || code == 204 || code == 304)
def kindI (req : Bool) (nb : Bool) (coded sized chk : Bool) (sz : Int × Int) : Int × Int × Int :=
  if nb then (1, 0, 0) else if coded then (if sized || !chk then (0, 0, 10) else (3, 0, 0))
  else if sized then (if sz.2 = 0 then (2, sz.1, 0) else (0, 0, sz.2)) else if req then (1, 0, 0) else (4, 0, 0)
def kindE (req : Bool) (m : List UInt8) (code : Int) (l : List Fld) : Int × Int × Int :=
  kindI req (noBody req m code) (!(valsL (lowL teN) l).isEmpty) (!(valsL (lowL clN) l).isEmpty) (lowL (Lib.join (valsL (lowL teN) l) sepL) == chkL) (sizeB (Lib.join (valsL (lowL clN) l) sepL))
end Go.Larder
end

/- MapA -/
section
namespace Go.Larder
open Go.RowKit
set_option linter.unusedVariables false
set_option linter.unusedSimpArgs false
section plain
variable {β : Type}
/-- the place and the value of a key -/
def idxM : List (List UInt8 × β) → List UInt8 → Option (Nat × β)
  | [], _ => none
  | (a, v) :: r, k => if k = a then some (0, v) else (idxM r k).map fun p => (p.1 + 1, p.2)
def getM : List (List UInt8 × β) → List UInt8 → Option β
  | [], _ => none
  | (a, v) :: r, k => if k = a then some v else getM r k
def putM : List (List UInt8 × β) → List UInt8 → β → List (List UInt8 × β)
  | [], k, v => [(k, v)]
  | (a, u) :: r, k, v => if k = a then (a, v) :: r else (a, u) :: putM r k v
def delM : List (List UInt8 × β) → List UInt8 → List (List UInt8 × β)
  | [], _ => []
  | (a, u) :: r, k => if k = a then r else (a, u) :: delM r k
def keysM (m : List (List UInt8 × β)) : List (List UInt8) := m.map Prod.fst
theorem getM_idx : ∀ (m : List (List UInt8 × β)) (k : List UInt8), getM m k = (idxM m k).map Prod.snd
  | [], _ => rfl
  | (a, v) :: r, k => by
    by_cases h : k = a
    · simp [getM, idxM, h]
    · simp only [getM, idxM, if_neg h]; rw [getM_idx r k]; cases idxM r k <;> rfl
theorem getM_none : ∀ {m : List (List UInt8 × β)} {k : List UInt8}, getM m k = none ↔ k ∉ keysM m
  | [], k => by simp [getM, keysM]
  | (a, v) :: r, k => by
    have ih := getM_none (m := r) (k := k)
    unfold keysM at ih ⊢
    by_cases h : k = a
    · simp [getM, h]
    · simp [getM, h, ih]
theorem getM_some_mem {m : List (List UInt8 × β)} {k : List UInt8} {v : β} (h : getM m k = some v) : (k, v) ∈ m := by
  induction m with
  | nil => simp [getM] at h
  | cons p r ih =>
    obtain ⟨a, u⟩ := p
    by_cases hk : k = a
    · subst hk; simp [getM] at h; simp [h]
    · simp only [getM, if_neg hk] at h; exact List.mem_cons_of_mem _ (ih h)
theorem getM_of_mem {m : List (List UInt8 × β)} (hn : (keysM m).Nodup) {k : List UInt8} {v : β} (h : (k, v) ∈ m) : getM m k = some v := by
  induction m with
  | nil => cases h
  | cons p r ih =>
    obtain ⟨a, u⟩ := p
    unfold keysM at hn
    rw [List.map_cons, List.nodup_cons] at hn
    rcases List.mem_cons.1 h with h' | h'
    · injection h' with h1 h2; subst h1 h2; exact if_pos rfl
    · have : k ≠ a := by
        rintro rfl
        exact hn.1 (List.mem_map.2 ⟨(k, v), h', rfl⟩)
      simp only [getM, if_neg this]
      exact ih hn.2 h'
theorem getM_put (m : List (List UInt8 × β)) (k k' : List UInt8) (v : β) : getM (putM m k v) k' = if k' = k then some v else getM m k' := by
  induction m with
  | nil => simp [putM, getM]
  | cons p r ih =>
    obtain ⟨a, u⟩ := p
    by_cases h : k = a
    · subst h
      by_cases h2 : k' = k <;> simp [putM, getM, h2]
    · by_cases h2 : k' = a
      · subst h2
        have : ¬ k' = k := fun h3 => h h3.symm
        simp [putM, getM, h, this]
      · simp [putM, getM, h, h2, ih]
theorem keysM_put (m : List (List UInt8 × β)) (k : List UInt8) (v : β) : keysM (putM m k v) = if k ∈ keysM m then keysM m else keysM m ++ [k] := by
  induction m with
  | nil => simp [putM, keysM]
  | cons p r ih =>
    obtain ⟨a, u⟩ := p
    unfold keysM at ih ⊢
    by_cases h : k = a
    · subst h; simp [putM]
    · rw [putM, if_neg h, List.map_cons, List.map_cons, ih]
      simp only [List.mem_cons, h, false_or]
      by_cases h2 : k ∈ List.map Prod.fst r
      · rw [if_pos h2, if_pos h2]
      · rw [if_neg h2, if_neg h2]; rfl
theorem nodup_put {m : List (List UInt8 × β)} (hn : (keysM m).Nodup) (k : List UInt8) (v : β) : (keysM (putM m k v)).Nodup := by
  rw [keysM_put]
  split
  · exact hn
  · rename_i h
    refine List.nodup_append.2 ⟨hn, by simp, ?_⟩
    intro a ha b hb
    simp only [List.mem_singleton] at hb
    subst hb
    rintro rfl
    exact h ha
theorem len_put (m : List (List UInt8 × β)) (k : List UInt8) (v : β) : (putM m k v).length = if (getM m k).isSome then m.length else m.length + 1 := by
  have h1 : (putM m k v).length = (keysM (putM m k v)).length := by simp [keysM]
  have h2 := getM_none (m := m) (k := k)
  rw [h1, keysM_put]
  cases hg : getM m k with
  | none => rw [if_neg (h2.1 hg)]; simp [keysM]
  | some x =>
    have : k ∈ keysM m := by
      apply Classical.byContradiction
      intro hc
      rw [h2.2 hc] at hg
      cases hg
    rw [if_pos this]; simp [keysM]
theorem keysM_del (m : List (List UInt8 × β)) (k : List UInt8) : keysM (delM m k) = (keysM m).erase k := by
  induction m with
  | nil => rfl
  | cons p r ih =>
    obtain ⟨a, u⟩ := p
    unfold keysM at ih ⊢
    by_cases h : k = a
    · subst h; simp [delM]
    · have h' : ¬ (a == k) = true := by simpa using fun e => h e.symm
      simp only [delM, if_neg h, List.map_cons, ih]
      rw [List.erase_cons_tail h']
theorem nodup_del {m : List (List UInt8 × β)} (hn : (keysM m).Nodup) (k : List UInt8) : (keysM (delM m k)).Nodup := by
  rw [keysM_del]; exact hn.erase k
theorem getM_del {m : List (List UInt8 × β)} (hn : (keysM m).Nodup) (k k' : List UInt8) : getM (delM m k) k' = if k' = k then none else getM m k' := by
  induction m with
  | nil => simp [delM, getM]
  | cons p r ih =>
    obtain ⟨a, u⟩ := p
    unfold keysM at hn
    rw [List.map_cons, List.nodup_cons] at hn
    by_cases h : k = a
    · subst h
      by_cases h2 : k' = k
      · subst h2
        simp only [delM, if_true]
        exact getM_none.2 hn.1
      · simp [delM, getM, h2]
    · by_cases h2 : k' = a
      · subst h2
        have : ¬ k' = k := fun h3 => h h3.symm
        simp [delM, getM, h, this]
      · simp only [delM, if_neg h, getM, if_neg h2]; exact ih hn.2
theorem len_del (m : List (List UInt8 × β)) (k : List UInt8) : (delM m k).length = if (getM m k).isSome then m.length - 1 else m.length := by
  induction m with
  | nil => rfl
  | cons p r ih =>
    obtain ⟨a, u⟩ := p
    by_cases h : k = a
    · subst h; simp [delM, getM]
    · simp only [delM, if_neg h, getM, List.length_cons, ih]
      split
      · rename_i h2
        have : 0 < r.length := by
          cases r with
          | nil => simp [getM] at h2
          | cons x r => simp
        omega
      · rfl
end plain
def entV (p : List UInt8 × Value) : Value × Value := (S p.1, p.2)
/-- Block g is a map with these entries, in this order. -/
def MapAt (w : World) (g : Nat) (m : List (List UInt8 × Value)) : Prop :=
  ∃ es clock, w.heap[g]? = some (.map es clock) ∧ MapKept.Stamped es clock ∧ es.toList.map (fun e => (e.key, e.val)) = m.map entV
theorem S_inj {a b : List UInt8} (h : S a = S b) : a = b := by
  injection h with h
  have := congrArg (fun x : ByteArray => x.data.toList) h
  simpa using this
theorem S_beq (a b : List UInt8) : ((⟨a.toArray⟩ : ByteArray) == (⟨b.toArray⟩ : ByteArray)) = decide (a = b) := by
  rw [Bool.eq_iff_iff, MapKept.bytes_beq, decide_eq_true_eq]
  constructor
  · intro h; exact S_inj (by rw [S, S, h])
  · rintro rfl; rfl
theorem findNow_S (k : List UInt8) : ∀ (es : List MapEntry) (m : List (List UInt8 × Value)) (i : Nat), es.map (fun e => (e.key, e.val)) = m.map entV → Instr.findNow .string (S k) es i = some ((idxM m k).map fun p => (i + p.1, p.2))
  | [], [], i, _ => rfl
  | [], _ :: _, _, h => by simp at h
  | _ :: _, [], _, h => by simp at h
  | e :: es, (a, v) :: m, i, h => by
    simp only [List.map_cons, List.cons.injEq, entV, Prod.mk.injEq] at h
    obtain ⟨⟨hk, hv⟩, h⟩ := h
    have ih := findNow_S k es m (i + 1) (by simpa [entV] using h)
    unfold Instr.findNow
    rw [hk]
    simp only [Instr.sameNow, S_beq]
    by_cases hka : k = a
    · subst hka
      simp [idxM, hv]
    · simp only [hka, decide_false, ih, idxM, if_false]
      cases idxM m k with
      | none => rfl
      | some p => simp; omega
section
variable {P : Program} {w w' : World} {g : Nat} {m : List (List UInt8 × Value)} {t kt et : TypeId}
theorem MapAt.made (w : World) : MapAt (w.alloc (.map #[] 0)) w.heap.size [] := ⟨#[], 0, heap_alloc_new w _, MapKept.stamped_empty 0, rfl⟩
theorem MapAt.lt (h : MapAt w g m) : g < w.heap.size := by
  obtain ⟨es, c, h, _⟩ := h
  exact (Array.getElem?_eq_some_iff.1 h).1
theorem MapAt.same (h : MapAt w g m) (hk : w'.heap[g]? = w.heap[g]?) : MapAt w' g m := by
  obtain ⟨es, c, h1, h2⟩ := h
  exact ⟨es, c, hk.trans h1, h2⟩
theorem MapAt.keep (h : MapAt w g m) (hb : Below w.heap.size w w') : MapAt w' g m := h.same (hb.block g h.lt)
theorem MapAt.but {B : Nat → Prop} (h : MapAt w g m) (hb : SameBut B w w') (hg : ¬ B g) : MapAt w' g m := h.same (hb.block g h.lt hg)
theorem MapAt.alloc (h : MapAt w g m) (o : Obj) : MapAt (w.alloc o) g m := h.keep ((Below.refl _ _).alloc (Nat.le_refl _) o)
theorem MapAt.drew (h : MapAt w g m) : MapAt w.drew g m := h
theorem MapAt.setCell (h : MapAt w g m) (a : Addr) (ha : g ≠ a.block) (v : Value) : MapAt (w.setCell a v) g m := h.same (heap_setCell_other _ _ _ _ ha)
theorem MapAt.nodup (h : MapAt w g m) : (keysM m).Nodup := by
  obtain ⟨es, c, _, hs, he⟩ := h
  have h1 : es.toList.map (·.key) = (keysM m).map S := by
    have := congrArg (List.map Prod.fst) he
    simpa [entV, keysM, Function.comp_def] using this
  have h2 := hs.2.2
  rw [h1] at h2
  exact (List.pairwise_map.1 h2).imp fun {a b} hab he => hab (by rw [he])
theorem MapAt.box_ne {T : TypeId} {b : Nat} {cs : List Value} (h : MapAt w g m) (hb : BoxAt w b T cs) : g ≠ b := by
  rintro rfl
  obtain ⟨es, c, h1, _⟩ := h
  unfold BoxAt at hb
  rw [h1] at hb
  injection hb with hb
  cases hb
theorem run_lookup_S (ht : P.underlying t = some (.map kt et)) (hk : P.underlying kt = some .string) (h : MapAt w g m) (k : List UInt8) (ok : Bool) {i : Nat} {v : Value} (hv : getM m k = some v) :
    (Instr.lookup t (.map (some g)) (S k) ok).run P w = .ok (if ok then .tuple #[v, .bool true] else v) w := by
  obtain ⟨es, c, hb, _, he⟩ := h
  have hf := MapKept.run_findKey (w := w) hk (findNow_S k es.toList m 0 he)
  rw [getM_idx] at hv
  cases hi : idxM m k with
  | none => rw [hi] at hv; cases hv
  | some p =>
    rw [hi] at hv hf
    simp only [Option.map_some, Option.some.injEq] at hv hf
    subst hv
    simp [Instr.lookup, run_underlying ht, MapKept.run_getObj_map hb, MapKept.run_checkKey (w := w) hk (k := S k) trivial, hf, Result.andThen]
theorem run_lookup_none (ht : P.underlying t = some (.map kt et)) (hk : P.underlying kt = some .string) (h : MapAt w g m) (k : List UInt8) (ok : Bool) {z : Value} (hz : (zeroValue et).run P w = .ok z w) (hv : getM m k = none) :
    (Instr.lookup t (.map (some g)) (S k) ok).run P w = .ok (if ok then .tuple #[z, .bool false] else z) w := by
  obtain ⟨es, c, hb, _, he⟩ := h
  have hf := MapKept.run_findKey (w := w) hk (findNow_S k es.toList m 0 he)
  rw [getM_idx] at hv
  cases hi : idxM m k with
  | some p => rw [hi] at hv; cases hv
  | none =>
    rw [hi] at hf
    simp only [Option.map_none] at hf
    simp [Instr.lookup, run_underlying ht, MapKept.run_getObj_map hb, MapKept.run_checkKey (w := w) hk (k := S k) trivial, hf, hz, Result.andThen]
theorem run_len_map (ht : P.underlying t = some (.map kt et)) (h : MapAt w g m) (ty : TypeId) : (Builtin.len_ #[t] ty #[.map (some g)]).run P w = .ok (.int .i64 (m.length : Int)) w := by
  obtain ⟨es, c, hb, _, he⟩ := h
  have := congrArg List.length he
  simp only [List.length_map, Array.length_toList] at this
  simp [Builtin.len_, run_underlying ht, MapKept.run_getObj_map hb, goInt, Result.andThen, this]
theorem sameBut_put {es es' : Array MapEntry} {c c' : Nat} (hb : w.heap[g]? = some (.map es c)) : SameBut (fun j => j = g) w { w with heap := w.heap.setIfInBounds g (.map es' c') } :=
  ⟨rfl, rfl, rfl, by simp, fun j _ hj => (MapKept.heap_set hb).2 j hj⟩
theorem idxM_at : ∀ {m : List (List UInt8 × Value)} {k : List UInt8} {i : Nat} {v : Value}, idxM m k = some (i, v) → m[i]? = some (k, v)
  | [], _, _, _, h => by simp [idxM] at h
  | (a, u) :: m, k, i, v, h => by
    by_cases hk : k = a
    · subst hk
      simp only [idxM, if_true, Option.some.injEq, Prod.mk.injEq] at h
      obtain ⟨rfl, rfl⟩ := h
      rfl
    · simp only [idxM, if_neg hk, Option.map_eq_some_iff] at h
      obtain ⟨p, hp, h⟩ := h
      injection h with h1 h2
      subst h1 h2
      simp only [List.getElem?_cons_succ]
      exact idxM_at hp
theorem putM_mod : ∀ {m : List (List UInt8 × Value)} {k : List UInt8} {i : Nat} {u v : Value}, idxM m k = some (i, u) → putM m k v = m.modify i (fun p => (p.1, v))
  | [], _, _, _, _, h => by simp [idxM] at h
  | (a, x) :: m, k, i, u, v, h => by
    by_cases hk : k = a
    · subst hk
      simp only [idxM, if_true, Option.some.injEq, Prod.mk.injEq] at h
      obtain ⟨rfl, rfl⟩ := h
      simp [putM]
    · simp only [idxM, if_neg hk, Option.map_eq_some_iff] at h
      obtain ⟨p, hp, h⟩ := h
      injection h with h1 h2
      subst h1 h2
      simp only [putM, if_neg hk, List.modify_succ_cons]
      rw [putM_mod (v := v) hp]
theorem putM_new : ∀ {m : List (List UInt8 × Value)} {k : List UInt8} {v : Value}, idxM m k = none → putM m k v = m ++ [(k, v)]
  | [], _, _, _ => rfl
  | (a, x) :: m, k, v, h => by
    by_cases hk : k = a
    · simp [idxM, hk] at h
    · simp only [idxM, if_neg hk, Option.map_eq_none_iff] at h
      simp only [putM, if_neg hk, putM_new h, List.cons_append]
theorem delM_idx : ∀ {m : List (List UInt8 × Value)} {k : List UInt8} {i : Nat} {u : Value}, idxM m k = some (i, u) → delM m k = m.eraseIdx i
  | [], _, _, _, h => by simp [idxM] at h
  | (a, x) :: m, k, i, u, h => by
    by_cases hk : k = a
    · subst hk
      simp only [idxM, if_true, Option.some.injEq, Prod.mk.injEq] at h
      obtain ⟨rfl, rfl⟩ := h
      simp [delM]
    · simp only [idxM, if_neg hk, Option.map_eq_some_iff] at h
      obtain ⟨p, hp, h⟩ := h
      injection h with h1 h2
      subst h1 h2
      simp only [delM, if_neg hk, List.eraseIdx_cons_succ]
      rw [delM_idx hp]
theorem delM_none : ∀ {m : List (List UInt8 × Value)} {k : List UInt8}, idxM m k = none → delM m k = m
  | [], _, _ => rfl
  | (a, x) :: m, k, h => by
    by_cases hk : k = a
    · simp [idxM, hk] at h
    · simp only [idxM, if_neg hk, Option.map_eq_none_iff] at h
      simp only [delM, if_neg hk, delM_none h]
theorem MapAt.put (ht : P.underlying t = some (.map kt et)) (hk : P.underlying kt = some .string) (h : MapAt w g m) (k : List UInt8) (v : Value) :
    ∃ w', (Instr.mapUpdate t (.map (some g)) (S k) v).run P w = .ok () w' ∧ MapAt w' g (putM m k v) ∧ SameBut (fun j => j = g) w w' := by
  have hnd := h.nodup
  obtain ⟨es, c, hb, hs, he⟩ := h
  have hf := MapKept.run_findKey (w := w) hk (findNow_S k es.toList m 0 he)
  cases hi : idxM m k with
  | none =>
    rw [hi] at hf
    simp only [Option.map_none] at hf
    refine ⟨_, ?_, ⟨es.push { key := S k, val := v, born := c }, c + 1, (MapKept.heap_set hb).1, MapKept.stamped_push hs ?_, ?_⟩, sameBut_put hb⟩
    · simp [Instr.mapUpdate, run_underlying ht, MapKept.run_getObj_map hb, MapKept.run_checkKey (w := w) hk (k := S k) trivial, hf, Result.andThen, MapKept.run_setObj_map _ hb]
    · intro x hx hxk
      have h1 : (x.key, x.val) ∈ m.map entV := by rw [← he]; exact List.mem_map.2 ⟨x, hx, rfl⟩
      obtain ⟨p, hp, h2⟩ := List.mem_map.1 h1
      simp only [entV, Prod.mk.injEq] at h2
      rw [hxk] at h2
      have h3 := S_inj h2.1
      have h4 : getM m k = none := by rw [getM_idx, hi]; rfl
      exact getM_none.1 h4 (List.mem_map.2 ⟨p, hp, h3⟩)
    · rw [putM_new hi]
      simp [he, entV]
  | some p =>
    obtain ⟨i, u⟩ := p
    rw [hi] at hf
    simp only [Option.map_some, Nat.zero_add] at hf
    have hat := idxM_at hi
    have hmi : (es.toList.map (fun e => (e.key, e.val)))[i]? = some (S k, u) := by rw [he, List.getElem?_map, hat]; rfl
    rw [List.getElem?_map, Option.map_eq_some_iff] at hmi
    obtain ⟨e0, he0, he1⟩ := hmi
    simp only [Prod.mk.injEq] at he1
    rw [Array.getElem?_toList] at he0
    refine ⟨_, ?_, ⟨es.modify i fun e => { e with key := S k, val := v }, c, (MapKept.heap_set hb).1, MapKept.stamped_modify hs i _ (fun _ _ => rfl) ?_, ?_⟩, sameBut_put hb⟩
    · have hst := MapKept.run_keyThatStays (P := P) (w := w) (d := .string) (k := S k) trivial
      have hgd : ((es[i]?).map (·.key)).getD (S k) = S k := by rw [he0, Option.map_some, Option.getD_some]; exact he1.1
      simp [Instr.mapUpdate, run_underlying ht, MapKept.run_getObj_map hb, MapKept.run_checkKey (w := w) hk (k := S k) trivial, hf, Result.andThen, MapKept.run_setObj_map _ hb, hgd, hst]
    · intro e _ h1
      rw [he0] at h1
      injection h1 with h1
      rw [← h1]
      exact he1.1.symm
    · rw [putM_mod hi]
      apply List.ext_getElem?
      intro j
      have hj := congrArg (fun l => l[j]?) he
      simp only [List.getElem?_map] at hj
      simp only [List.getElem?_map, Array.getElem?_toList, Array.getElem?_modify, List.getElem?_modify]
      rw [Array.getElem?_toList] at hj
      by_cases hij : i = j
      · subst hij
        rw [he0, hat]
        simp [entV]
      · simp only [if_neg hij]
        simpa using hj
theorem MapAt.del (ht : P.underlying t = some (.map kt et)) (hk : P.underlying kt = some .string) (h : MapAt w g m) (k : List UInt8) (ty : TypeId) :
    ∃ w', (Builtin.delete_ #[t, kt] ty #[.map (some g), S k]).run P w = .ok (.tuple #[]) w' ∧ MapAt w' g (delM m k) ∧ SameBut (fun j => j = g) w w' := by
  obtain ⟨es, c, hb, hs, he⟩ := h
  have hf := MapKept.run_findKey (w := w) hk (findNow_S k es.toList m 0 he)
  cases hi : idxM m k with
  | none =>
    rw [hi] at hf
    simp only [Option.map_none] at hf
    refine ⟨_, ?_, ⟨es, c, (MapKept.heap_set hb).1, hs, by rw [delM_none hi]; exact he⟩, sameBut_put hb⟩
    simp [Builtin.delete_, run_underlying ht, MapKept.run_getObj_map hb, MapKept.run_checkKey (w := w) hk (k := S k) trivial, hf, Result.andThen, MapKept.run_setObj_map _ hb]
  | some p =>
    obtain ⟨i, u⟩ := p
    rw [hi] at hf
    simp only [Option.map_some, Nat.zero_add] at hf
    refine ⟨_, ?_, ⟨es.eraseIdxIfInBounds i, c, (MapKept.heap_set hb).1, MapKept.stamped_erase hs i, ?_⟩, sameBut_put hb⟩
    · simp [Builtin.delete_, run_underlying ht, MapKept.run_getObj_map hb, MapKept.run_checkKey (w := w) hk (k := S k) trivial, hf, Result.andThen, MapKept.run_setObj_map _ hb]
    · rw [delM_idx hi]
      have h1 : (es.eraseIdxIfInBounds i).toList = es.toList.eraseIdx i := by
        unfold Array.eraseIdxIfInBounds
        split
        · simp only [Array.toList_eraseIdx]
        · rw [List.eraseIdx_of_length_le]; simpa using (by omega : es.size ≤ i)
      rw [h1]
      apply List.ext_getElem?
      intro j
      have hj : ∀ j : Nat, (es.toList.map fun e => (e.key, e.val))[j]? = (m.map entV)[j]? := fun j => by rw [he]
      simp only [List.getElem?_map] at hj
      simp only [List.getElem?_map, List.getElem?_eraseIdx]
      split
      · exact hj j
      · exact hj (j + 1)
/-- .. at the operation -/
theorem wpList_mapPut {ops : Array Oper} {rest : List Oper} {o : Oper} {a : Act} {Q : Exit → Act → World → Prop}
    (hg : o.guard = none) (x k v : Operand) (hop : o.op = Op.mapUpdate t x k v) (ht : P.underlying t = some (.map kt et)) (hk : P.underlying kt = some .string)
    (hx : a.eval x = .map (some g)) (h : MapAt w g m) (key : List UInt8) (hkey : a.eval k = S key) (val : Value) (hv : a.eval v = val)
    (K : ∀ w', MapAt w' g (putM m key val) → SameBut (fun j => j = g) w w' → wpList P ops Q rest (a.put o.dst undef) w') : wpList P ops Q (o :: rest) a w := by
  refine wpList_plain hg fun K' hK' => ?_
  obtain ⟨w', hrun, r1, r2⟩ := h.put ht hk key val
  unfold Oper.wp
  simp only [execOp, hop, hx, hkey, hv, Sem.run_bind, Sem.run_pure, hrun, Result.andThen_ok]
  exact hK' _ _ (K w' r1 r2)
theorem wpList_mapDel {ops : Array Oper} {rest : List Oper} {o : Oper} {a : Act} {Q : Exit → Act → World → Prop}
    (hg : o.guard = none) (x k : Operand) (hop : o.op = .call { callee := .builtin .delete, args := #[x, k], argTypes := #[t, kt] }) (ht : P.underlying t = some (.map kt et)) (hk : P.underlying kt = some .string)
    (hx : a.eval x = .map (some g)) (h : MapAt w g m) (key : List UInt8) (hkey : a.eval k = S key)
    (K : ∀ w', MapAt w' g (delM m key) → SameBut (fun j => j = g) w w' → wpList P ops Q rest (a.put o.dst (.tuple #[])) w') : wpList P ops Q (o :: rest) a w := by
  refine wpList_plain hg fun K' hK' => ?_
  obtain ⟨w', hrun, r1, r2⟩ := h.del ht hk key o.type
  unfold Oper.wp
  simp only [execOp, hop, resolve, invoke, builtin, Sem.run_bind, Sem.run_pure, Result.andThen_ok, List.map_toArray, List.map_cons, List.map_nil, hx, hkey, hrun]
  exact hK' _ _ (K w' r1 r2)
end
end Go.Larder
end

/- SpecDsk -/
section
namespace Go.Larder
set_option linter.unusedVariables false
set_option linter.unusedSimpArgs false
abbrev Txd := List UInt8
abbrev itL (n : Nat) : Txd := Lib.decDigits n
def sizesL (l : List Txd) : List Txd := l.map fun s => itL s.length
def noneT : Txd := [110, 111, 110, 101]
def listL (l : List Txd) : Txd := if l.length = 0 then noneT else Lib.join l [32]
def pairE (a : Txd) (n : Int) : Except Int Txd := if n = 0 then .ok a else .error n
def bindE {α β : Type} (x : Except Int α) (f : α → Except Int β) : Except Int β := match x with
  | .error n => .error n
  | .ok a => f a
/-- the digits of a number, or none -/
def numE (s : Txd) : Except Int Int := if cnt s 4611686018427387904 < 0 then .error 3 else .ok (cnt s 4611686018427387904)
open Classical in
noncomputable def dprE (n : Int) : Except Int Txd := if h : ∃ l, isDate n l then .ok (Classical.choose h) else .error 1
open Classical in
noncomputable def dpaE (l : Txd) : Except Int Int := if h : ∃ n, isDate n l then .ok (Classical.choose h) else .error 3
theorem dprE_yes {n : Int} {l : Txd} (h : isDate n l) : dprE n = .ok l := by
  unfold dprE
  have hex : ∃ l, isDate n l := ⟨l, h⟩
  rw [dif_pos hex]
  have h1 := Classical.choose_spec hex
  obtain ⟨y, m, r, hc, h0, h2, e⟩ := h
  rw [isDate_at hc h0 h2] at h1
  rw [← h1, e]
theorem dprE_no {n : Int} (h : n < 0 ∨ 253402300799 < n) : dprE n = .error 1 := by
  unfold dprE
  rw [dif_neg]
  rintro ⟨l, y, m, r, hc, h0, h2, e⟩
  omega
theorem dpaE_yes {n : Int} {l : Txd} (h : isDate n l) (hu : ∀ n', isDate n' l → n' = n) : dpaE l = .ok n := by
  unfold dpaE
  have hex : ∃ n, isDate n l := ⟨n, h⟩
  rw [dif_pos hex, hu _ (Classical.choose_spec hex)]
theorem dpaE_no {l : Txd} (h : ∀ n, ¬ isDate n l) : dpaE l = .error 3 := by
  unfold dpaE
  rw [dif_neg (fun ⟨n, hn⟩ => h n hn)]
def tagT (s : Txd) : Except Int Txd := if (parseTR s).isSome then .ok s else .error 3
theorem tag_back {s t : Txd} {wk : Bool} (h : parseTR s = some (wk, t)) : tagE wk t = .ok s := by
  unfold parseTR at h
  split at h
  · rename_i hc
    injection h with h
    injection h with h1 h2
    rw [Bool.and_eq_true] at hc
    rw [← h1, ← h2, tagE_ok hc.1]
    have := hc.2
    simp only [beq_iff_eq] at this
    rw [this]
  · cases h
def slotT (x : Int × Int) : Txd := itL x.1.toNat ++ [45] ++ itL x.2.toNat
def rangeE (s t : Txd) : Except Int Txd := bindE (numE t) fun size => bindE (spnE s) fun want => bindE (spanRes want size) fun some => .ok (listL (some.map slotT))
theorem slots_bd {size : Int} (hs : 0 ≤ size) : ∀ {l : List (Int × Int)}, (∀ f ∈ l, isWant f = true) → ∀ x ∈ slots size l, 0 ≤ x.1 ∧ x.1 ≤ size ∧ 0 ≤ x.2 ∧ x.2 ≤ size
  | [], _, x, hx => by simp [slots] at hx
  | f :: l, hw, x, hx => by
    unfold slots at hx
    have ih := slots_bd hs (l := l) (fun g hg => hw g (List.mem_cons_of_mem _ hg)) x
    split at hx
    · rename_i hlt
      rcases List.mem_cons.1 hx with rfl | hx
      · revert hlt
        unfold slotOf
        split
        · simp only; omega
        · split
          · simp only; omega
          · simp only; omega
      · exact ih hx
    · exact ih hx
theorem spanRes_bd {l out : List (Int × Int)} {size : Int} (h : spanRes l size = .ok out) : ∀ x ∈ out, 0 ≤ x.1 ∧ x.1 ≤ size ∧ 0 ≤ x.2 ∧ x.2 ≤ size := by
  unfold spanRes at h
  split at h
  · cases h
  · rename_i hc
    simp only [Bool.or_eq_true, not_or, beq_iff_eq, decide_eq_true_eq, List.any_eq_true, Bool.not_eq_true'] at hc
    split at h
    · cases h
    · split at h
      · cases h
      · injection h with h
        subst h
        refine slots_bd (by omega) fun f hf => ?_
        cases hw : isWant f
        · exact absurd ⟨f, hf, hw⟩ hc.1.2
        · rfl
theorem dirR_bd (t : Txd) : (dirR t).1.1.length ≤ t.length ∧ (dirR t).1.2.2.length ≤ t.length := by
  have hl : ∀ x : Txd, (lowL x).length = x.length := fun x => by simp [lowL]
  unfold dirR
  split
  · unfold dirAt
    have hu := unqAll_len (t.drop ((Lib.indexByte t 61).toNat + 1))
    have h1 : (t.drop ((Lib.indexByte t 61).toNat + 1)).length ≤ t.length := by rw [List.length_drop]; omega
    split
    · simp only [hl, List.length_take]; omega
    · split
      · simp only [hl, List.length_take]; omega
      · simp only [hl, List.length_take]; omega
  · simp only [hl, List.length_nil]; omega
theorem dirsGo_bd {B : Nat} : ∀ {l : List Txd} {acc ds : List Dir'}, (∀ t ∈ l, t.length ≤ B) → (∀ d ∈ acc, d.1.length ≤ B ∧ d.2.2.length ≤ B) → dirsGo l acc = some ds → ∀ d ∈ ds, d.1.length ≤ B ∧ d.2.2.length ≤ B
  | [], acc, ds, _, ha, h => by injection h with h; subst h; exact ha
  | t :: l, acc, ds, hl, ha, h => by
    unfold dirsGo at h
    split at h
    · refine dirsGo_bd (fun x hx => hl x (List.mem_cons_of_mem _ hx)) (fun d hd => ?_) h
      rcases List.mem_append.1 hd with hd | hd
      · exact ha d hd
      · simp only [List.mem_singleton] at hd
        subst hd
        have := dirR_bd t
        have := hl t (by simp)
        omega
    · cases h
theorem ctlE_bd {s : Txd} {ds : List Dir'} (h : ctlE s = .ok ds) : ds.length ≤ 20 ∧ ∀ d ∈ ds, d.1.length ≤ 1000 ∧ d.2.2.length ≤ 1000 := by
  unfold ctlE at h
  cases hsp : splitE s with
  | error n => rw [hsp] at h; cases h
  | ok l =>
    rw [hsp] at h
    simp only at h
    cases hd : dirsGo l [] with
    | none => rw [hd] at h; cases h
    | some d2 =>
      rw [hd] at h
      injection h with h
      subst h
      refine ⟨?_, dirsGo_bd (splitE_text hsp) (by simp) hd⟩
      have := dirsGo_len l [] d2 hd
      have := splitE_ok hsp
      simp at *
      omega
abbrev topN : Int := 4611686018427387904
theorem cnt_top {t : Txd} (h : ¬ cnt t topN < 0) : Lib.decDigits (cnt t topN).toNat = t ∧ t.length ≤ 18 ∧ 0 ≤ cnt t topN ∧ cnt t topN ≤ 1000000000000000000 := by
  unfold cnt at *
  split at h
  · omega
  · next hg =>
    rw [if_neg hg]
    split at h
    · omega
    · next hm =>
      rw [if_neg hm]
      simp only [Bool.or_eq_true, Bool.and_eq_true, decide_eq_true_eq, not_or, not_and] at hg
      obtain ⟨⟨h1, h2⟩, h3⟩ := hg
      have h18 : t.length ≤ 18 := by omega
      have := (nm_bd t 18 h18).2
      have e : ((10 ^ 18 : Nat) : Int) = 1000000000000000000 := by decide
      rw [e] at this
      exact ⟨(dec_nm t.length t (Nat.le_refl _) (by intro e; subst e; simp at h1) (nm_dig t 0 (by omega) (by show 0 ≤ nm t; omega)) (fun hl => by have := h3 hl; simpa using this)).1, h18, by omega, by omega⟩
theorem cnt_of_dec {n : Nat} (h : (Lib.decDigits n).length ≤ 18) : cnt (Lib.decDigits n) topN = n := by
  have hb := (nm_bd _ 18 h).2
  have e : ((10 ^ 18 : Nat) : Int) = 1000000000000000000 := by decide
  rw [e, nm_dec] at hb
  unfold cnt
  rw [nm_dec, if_neg, if_neg (by show ¬ (4611686018427387904 : Int) < _; omega)]
  rcases Nat.lt_or_ge n 10 with h1 | h1
  · rw [Lib.decDigits_one h1]; simp
  · obtain ⟨c, r, e, hc⟩ := dec_head n (by omega)
    rw [e] at h ⊢
    simp [hc]
    simpa using h
theorem dW_sum {ds : List Dr} (hk : ds.length ≤ 20) (h : ∀ d ∈ ds, d.1.length ≤ 1000 ∧ d.2.2.length ≤ 1000) : (ds.map fun f : Dr => f.1.length + f.2.2.length + 4).sum ≤ 1048576 := by
  have : ∀ l : List Dr, (∀ d ∈ l, d.1.length ≤ 1000 ∧ d.2.2.length ≤ 1000) → (l.map fun f : Dr => f.1.length + f.2.2.length + 4).sum ≤ l.length * 3000 := by
    intro l
    induction l with
    | nil => simp
    | cons d l ih =>
      intro hl
      have h1 := hl d (by simp)
      have h2 := ih fun x hx => hl x (List.mem_cons_of_mem _ hx)
      simp only [List.map_cons, List.sum_cons, List.length_cons]
      omega
  have := this ds h
  omega
theorem atoi18 {n : Nat} (h : (Lib.decDigits n).length ≤ 18) : Lib.atoiAll (Lib.decDigits n) = .ok (n : Int) := by
  rw [Lib.atoiAll_short _ h, atoi_dec]
  rfl
/-- what is read of a text as a number, as the program reads it -/
theorem numE_yes {s : Txd} {v : Int} (hl : s.length ≤ 18) (h0 : 0 ≤ v) (he : itL v.toNat = s) : numE s = .ok v := by
  subst he
  unfold numE
  rw [cnt_of_dec hl, if_neg (by omega)]
  congr 1; omega
theorem numE_no {s : Txd} (h : ∀ v : Int, Lib.atoiAll s = .ok v → s.length ≤ 18 → 0 ≤ v → itL v.toNat ≠ s) : numE s = .error 3 := by
  unfold numE
  by_cases hc : cnt s 4611686018427387904 < 0
  · rw [if_pos hc]
  · exfalso
    obtain ⟨h1, h2, h3, h4⟩ := cnt_top hc
    refine h (cnt s 4611686018427387904) ?_ h2 h3 h1
    have := atoi18 (n := (cnt s 4611686018427387904).toNat) (by rw [h1]; exact h2)
    rw [h1] at this
    rw [this]
    congr 1; omega
theorem numE_bd {s : Txd} {v : Int} (h : numE s = .ok v) : 0 ≤ v ∧ v ≤ 1000000000000000000 := by
  unfold numE at h
  split at h
  · cases h
  · rename_i hc
    injection h with h
    obtain ⟨h1, h2, h3, h4⟩ := cnt_top hc
    rw [← h]
    exact ⟨h3, h4⟩
theorem quoE_in {s : Txd} {n : Int} (h : quoE s = .error n) : 1 ≤ n ∧ n ≤ 11 := by
  unfold quoE at h
  split at h
  · injection h with h; omega
  · split at h
    · cases h
    · injection h with h; omega
theorem nrmE_in {s : Txd} {n : Int} (h : nrmE s = .error n) : 1 ≤ n ∧ n ≤ 11 := by
  unfold nrmE at h
  split at h
  · injection h with h; omega
  · split at h
    · split at h
      · injection h with h; omega
      · cases h
    · injection h with h; omega
theorem dprE_in {m n : Int} (h : dprE m = .error n) : 1 ≤ n ∧ n ≤ 11 := by
  unfold dprE at h
  split at h
  · cases h
  · injection h with h; omega
theorem cutE_in {sg : UInt8} {s : Txd} {n : Int} (h : cutE sg s = .error n) : 1 ≤ n ∧ n ≤ 11 := by
  unfold cutE at h
  split at h
  · injection h with h; omega
  · cases h
theorem splitE_in {s : Txd} {n : Int} (h : splitE s = .error n) : 1 ≤ n ∧ n ≤ 11 := by
  unfold splitE at h
  split at h
  · injection h with h; omega
  · split at h
    · rename_i hc; injection h with h; subst h; exact cutE_in hc
    · split at h
      · injection h with h; omega
      · cases h
theorem ctlE_in {s : Txd} {n : Int} (h : ctlE s = .error n) : 1 ≤ n ∧ n ≤ 11 := by
  unfold ctlE at h
  split at h
  · rename_i hc; injection h with h; subst h; exact splitE_in hc
  · split at h
    · injection h with h; omega
    · cases h
theorem dirE_in {d : Dr} {n : Int} (h : dirE d = .error n) : 1 ≤ n ∧ n ≤ 11 := by
  unfold dirE at h
  split at h
  · split at h
    · split at h
      · cases h
      · split at h
        · rename_i hc; injection h with h; subst h; exact quoE_in hc
        · cases h
    · cases h
  · injection h with h; omega
theorem cpGo_in {n : Int} : ∀ {l : List Dr} {ts : List Txd}, cpGo l ts = .error n → 1 ≤ n ∧ n ≤ 11
  | [], ts, h => by cases h
  | d :: l, ts, h => by
    unfold cpGo at h
    split at h
    · rename_i hc; injection h with h; subst h; exact dirE_in hc
    · exact cpGo_in h
theorem cpE_in {l : List Dr} {n : Int} (h : cpE l = .error n) : 1 ≤ n ∧ n ≤ 11 := by
  unfold cpE cpEnd at h
  split at h
  · rename_i hc; injection h with h; subst h; exact cpGo_in hc
  · split at h
    · injection h with h; omega
    · cases h
theorem spnE_in {s : Txd} {n : Int} (h : spnE s = .error n) : 1 ≤ n ∧ n ≤ 11 := by
  unfold spnE at h
  split at h
  · split at h
    · injection h with h; omega
    · split at h
      · injection h with h; omega
      · cases h
  · injection h with h; omega
theorem spanRes_in {l : List (Int × Int)} {z n : Int} (h : spanRes l z = .error n) : 1 ≤ n ∧ n ≤ 11 := by
  unfold spanRes at h
  split at h
  · injection h with h; omega
  · split at h
    · injection h with h; omega
    · split at h
      · injection h with h; omega
      · cases h
theorem ne_of_in {n : Int} (h : 1 ≤ n ∧ n ≤ 11) : ¬ n = 0 := by omega
theorem quoE_ne {s : Txd} {n : Int} (h : quoE s = .error n) : ¬ n = 0 := ne_of_in (quoE_in h)
theorem nrmE_ne {s : Txd} {n : Int} (h : nrmE s = .error n) : ¬ n = 0 := ne_of_in (nrmE_in h)
theorem dprE_ne {m n : Int} (h : dprE m = .error n) : ¬ n = 0 := ne_of_in (dprE_in h)
theorem splitE_ne {s : Txd} {n : Int} (h : splitE s = .error n) : ¬ n = 0 := ne_of_in (splitE_in h)
theorem ctlE_ne {s : Txd} {n : Int} (h : ctlE s = .error n) : ¬ n = 0 := ne_of_in (ctlE_in h)
theorem cpE_ne {l : List Dr} {n : Int} (h : cpE l = .error n) : ¬ n = 0 := ne_of_in (cpE_in h)
theorem spnE_ne {s : Txd} {n : Int} (h : spnE s = .error n) : ¬ n = 0 := ne_of_in (spnE_in h)
theorem spanRes_ne {l : List (Int × Int)} {z n : Int} (h : spanRes l z = .error n) : ¬ n = 0 := ne_of_in (spanRes_in h)
theorem numE_in {s : Txd} {n : Int} (h : numE s = .error n) : 1 ≤ n ∧ n ≤ 11 := by
  unfold numE at h
  split at h
  · injection h with h; omega
  · cases h
theorem unq_in (s : Txd) : (unqAll s).2 = 0 ∨ 1 ≤ (unqAll s).2 ∧ (unqAll s).2 ≤ 11 := by
  unfold unqAll
  split
  · exact .inr (by decide)
  · split
    · exact .inr (by decide)
    · unfold unqMid unqEnd
      (repeat' split) <;> first | exact .inl rfl | exact .inr (by decide) | exact .inr ⟨by decide, by decide⟩
theorem itL_len {n : Nat} (h : n ≤ 1000000000000000000) : (itL n).length ≤ 20 := by
  have h1 : ∀ k : Nat, ∀ n : Nat, n < 10 ^ (k + 1) → (Lib.decDigits n).length ≤ k + 1 := by
    intro k
    induction k with
    | zero => intro n hn; rw [Lib.decDigits_one (by simpa using hn)]; simp
    | succ k ih =>
      intro n hn
      by_cases h1 : n < 10
      · rw [Lib.decDigits_one h1]; simp
      · rw [dec_step h1, List.length_append]
        have := ih (n / 10) (by rw [Nat.pow_succ] at hn; omega)
        simp only [List.length_cons, List.length_nil]; omega
  have := h1 18 n (by have : (10 : Nat) ^ (18 + 1) = 10000000000000000000 := by decide
                      omega)
  show (Lib.decDigits n).length ≤ 20
  omega
end Go.Larder
end

/- SpecDpr -/
section
namespace Go.Larder
set_option linter.unusedSimpArgs false
set_option linter.unusedVariables false
def z48 (c : UInt8) : Bool := c == 48
/-- a number out of a text of digits, noughts ahead taken off; -1: nothing is left -/
def av (l : List UInt8) : Int := cnt (l.dropWhile z48) 9999
theorem nmGo_mono : ∀ (l : List UInt8) (n : Int), 1 ≤ n → l.all (inTab tensTab) = true → 1 ≤ nmGo n l
  | [], n, h, _ => h
  | c :: l, n, h, ha => by
    rw [List.all_cons, Bool.and_eq_true] at ha
    obtain ⟨h1, h2⟩ := digB' c ha.1
    rw [nmGo_yes ha.1]
    exact nmGo_mono l _ (by omega) ha.2
theorem av_eq : ∀ (l : List UInt8), l.length ≤ 4 → l.all (inTab tensTab) = true → av l = if nm l = 0 then -1 else nm l
  | [], _, _ => by simp [av, cnt, nm, nmGo]
  | c :: l, hl, ha => by
    have ha2 := ha
    rw [List.all_cons, Bool.and_eq_true] at ha2
    rw [List.length_cons] at hl
    by_cases hc : c = 48
    · subst hc
      have e1 : av (48 :: l) = av l := by unfold av; rw [List.dropWhile_cons]; rfl
      have e2 : nm (48 :: l) = nm l := by unfold nm; rw [nmGo_yes (by decide)]; rfl
      rw [e1, e2]
      exact av_eq l (by omega) ha2.2
    · have e1 : av (c :: l) = cnt (c :: l) 9999 := by unfold av; rw [List.dropWhile_cons, show z48 c = false from by simp [z48, hc]]; simp
      obtain ⟨h1, h2⟩ := digB' c ha2.1
      have hc48 : c.toNat ≠ 48 := fun h => hc (UInt8.toNat_inj.1 (by rw [h]; rfl))
      have hge : 1 ≤ nm (c :: l) := by
        unfold nm; rw [nmGo_yes ha2.1]
        exact nmGo_mono l _ (by omega) ha2.2
      have hb := (nm_bd (c :: l) 4 (by simpa using hl)).2
      rw [show ((10 ^ 4 : Nat) : Int) = 10000 from rfl] at hb
      rw [e1, if_neg (by omega)]
      unfold cnt
      rw [if_neg (by simp [hc]; omega), if_neg (by omega)]
theorem av_bd {l : List UInt8} (h : l.length ≤ 4) : -1 ≤ av l ∧ av l ≤ 9999 := by
  have h2 : (l.dropWhile z48).length ≤ 4 := Nat.le_trans (List.dropWhile_sublist z48).length_le h
  have := nm_bd (l.dropWhile z48) 4 h2
  rw [show ((10 ^ 4 : Nat) : Int) = 10000 from rfl] at this
  unfold av cnt
  split
  · omega
  · split <;> omega
def segsR (l : List UInt8) : List (List UInt8) := [seg l 5 7, seg l 12 16, seg l 17 19, seg l 20 22, seg l 23 25]
structure RGood (l : List UInt8) (k : Nat) : Prop where
  len : l.length = 29
  k12 : k < 12
  mon : Lib.index mon2L (seg l 8 11) = ((4 * k : Nat) : Int)
  dig : ∀ s ∈ segsR l, s.all (inTab tensTab) = true
  din : daysIn (av (seg l 12 16)) ((k : Int) + 1) (max 0 (av (seg l 5 7))) = true
def rN (l : List UInt8) (k : Nat) : Int := dayN (av (seg l 12 16)) (max 0 (av (seg l 5 7))) k * 86400 + max 0 (av (seg l 17 19)) * 3600 + max 0 (av (seg l 20 22)) * 60 + max 0 (av (seg l 23 25))
theorem tens_two (n : Int) (h0 : 0 ≤ n) (h1 : n < 100) : (twoL n).all (inTab tensTab) = true := (nm_all _ 0 (by omega)).2 (by have := nm_two n h0 h1; unfold nm at this; omega)
theorem tens_four (n : Int) (h0 : 1000 ≤ n) (h1 : n ≤ 9999) : (Lib.decDigits n.toNat).all (inTab tensTab) = true := (nm_all _ 0 (by omega)).2 (by have := nm_four n h0 h1; unfold nm at this; omega)
theorem av_two (n : Int) (h0 : 0 ≤ n) (h1 : n < 100) : max 0 (av (twoL n)) = n := by
  rw [av_eq _ (by rw [dec_two n h0 h1]; omega) (tens_two n h0 h1), nm_two n h0 h1]
  split <;> omega
theorem av_four (n : Int) (h0 : 1000 ≤ n) (h1 : n ≤ 9999) : av (Lib.decDigits n.toNat) = n := by
  rw [av_eq _ (by rw [dec_four n h0 h1]; omega) (tens_four n h0 h1), nm_four n h0 h1]
  split <;> omega
theorem isDate_goodR {n : Int} {l : List UInt8} (h : isDate n l) : ∃ k, RGood l k ∧ rN l k = n := by
  obtain ⟨y, m, r, h, h0, h1, hy1, hl, e1, e2, e3, e4, e5, e6⟩ := date_parts h
  have hm1 := h.m1
  have hr : r < 31 := by have := h.r1; have := md_bd y m; omega
  have hr0 := h.r0
  have hy0 := h.y0
  have hr1 := h.r1
  have n1 := av_four y (by omega) hy1
  have n2 := av_two (r + 1) (by omega) (by omega)
  have n3 := av_two (n % 86400 / 3600) (by omega) (by omega)
  have n4 := av_two (n % 86400 / 60 % 60) (by omega) (by omega)
  have n5 := av_two (n % 86400 % 60) (by omega) (by omega)
  refine ⟨m, ⟨hl, hm1, by rw [e1]; exact (mon_at ⟨m, hm1⟩).2, ?_, by rw [e2, e3, n1, n2, daysIn_iff hm1]; omega⟩, ?_⟩
  · intro s hs
    unfold segsR at hs
    rw [e2, e3, e4, e5, e6] at hs
    simp only [List.mem_cons, List.not_mem_nil, or_false] at hs
    rcases hs with rfl | rfl | rfl | rfl | rfl
    · exact tens_two _ (by omega) (by omega)
    · exact tens_four _ (by omega) hy1
    · exact tens_two _ (by omega) (by omega)
    · exact tens_two _ (by omega) (by omega)
    · exact tens_two _ (by omega) (by omega)
  · unfold rN dayN
    rw [e2, e3, e4, e5, e6, n1, n2, n3, n4, n5]
    have := h.eq
    omega
end Go.Larder
end

/- AppF -/
section
namespace Go.Larder
open Go.RowKit
set_option linter.unusedVariables false
set_option linter.unusedSimpArgs false
section
variable {P : Program} {w : World} {ops : Array Oper} {rest : List Oper} {o : Oper} {a : Act} {Q : Exit → Act → World → Prop} {t e : TypeId} {bytes : Nat} {α : Type} {base c : Nat} {A : Option Addr} {l : List α}
theorem OwnL.form {E : ElemT α} (h : OwnL E w base e A c l) : (A = none ∧ l.length = 0 ∧ c = 0) ∨ ∃ g, A = some ⟨g, 0, none⟩ ∧ base ≤ g ∧ g < w.heap.size := by
  obtain ⟨_, h2⟩ := h
  rcases h2 with ⟨hv, h0⟩ | ⟨g, cap, cur, hv, hg, hh, r⟩
  · injection hv with hA hl hc
    exact .inl ⟨hA, h0, hc⟩
  · injection hv with hA _ _
    refine .inr ⟨g, hA, hg, ?_⟩
    rcases Nat.lt_or_ge g w.heap.size with h' | h'
    · exact h'
    · simp [Array.getElem?_eq_none h'] at hh
theorem wpList_appF (E : ElemT α) (T : SlT P t e E.size bytes) (news : List α) (hgd : o.guard = none) (s x : Operand)
    (ho : o.op = .call { callee := .builtin .append, args := #[s, x], argTypes := #[t, t] })
    (hs : a.eval s = .slice A l.length c) (hown : OwnL E w base e A c l) (cs : Array Value) (hcs : cs.toList = news.flatMap E.enc) (m : Nat) (hm : news.length = m + 1)
    (hx : a.eval x = .slice (some ⟨w.heap.size, 0, none⟩) (m + 1) (m + 1)) (hb : (l.length + (m + 1)) * bytes ≤ 140737488355328) (h63 : l.length + (m + 1) ≤ maxLen) (hbase : base ≤ w.heap.size)
    (k : ∀ g c' w', OwnL E w' base e (some ⟨g, 0, none⟩) c' (l ++ news) → (A = some ⟨g, 0, none⟩ ∨ w.heap.size < g) → (∀ b, b < w.heap.size → A ≠ some ⟨b, 0, none⟩ → w'.heap[b]? = w.heap[b]?) → Below base w w' → wpList P ops Q rest (a.put o.dst (.slice (some ⟨g, 0, none⟩) (l.length + (m + 1)) c')) w') :
    wpList P ops Q (o :: rest) a (w.alloc (.cells cs e)) := by
  obtain ⟨i, z, hi, hz, hz1, hz2, hz3⟩ := T.info
  have hsz : (w.alloc (.cells cs e)).heap.size = w.heap.size + 1 := by simp
  have hnews : ∀ j u, (news.flatMap E.enc)[j]? = some u → (w.alloc (.cells cs e)).cell? ((⟨w.heap.size, 0, none⟩ : Addr).add j) = some u := fun j u hj =>
    World.news_of_block (heap_alloc_new w (.cells cs e)) j u (by rw [hcs]; exact hj)
  have hl : (l ++ news).length = l.length + (m + 1) := by simp [hm]
  have hown2 := OwnL.alloc hown (.cells cs e)
  by_cases hfit : l.length + (m + 1) ≤ c
  · rcases hown.form with ⟨rfl, h0, rfl⟩ | ⟨g, rfl, hg, hlt⟩
    · omega
    · refine wpList_append_fits _ hgd s x t ho base e i E.size T.ht hi hz1 g l.length c (l.flatMap E.enc) hs hown2 ⟨w.heap.size, 0, none⟩ (m + 1) (m + 1) (news.flatMap E.enc) hx (by rw [E.length_flatMap, hm]) hnews (E.one_flatMap news) hfit ?_
      intro w' r1 r2
      refine k g c w' (by unfold OwnL; rw [hl, List.flatMap_append]; exact r1) (.inl rfl) (fun b hb hne => (r2.block b (by rw [hsz]; omega) (fun h => by injection h with h; exact hne (by rw [h]))).trans (Below.heap_alloc w _ b hb))
        ⟨r2.os, r2.tape, r2.output, Nat.le_trans (by simp) r2.size, fun b hb => (r2.block b (by rw [hsz]; omega) (fun h => by injection h with h; omega)).trans (Below.heap_alloc w _ b (by omega))⟩
  · refine wpList_append_grows _ hgd s x t ho e i z E.size bytes T.ht hi hz hz1 hz2 hz3 E.pos A l.length c (l.flatMap E.enc) hs ?_ (E.length_flatMap l) ?_ ⟨w.heap.size, 0, none⟩ (m + 1) (m + 1) (news.flatMap E.enc) hx (by rw [E.length_flatMap, hm]) hnews (E.one_flatMap news) (by omega) h63 hb ?_
    · intro hA
      rcases hown.form with ⟨_, h0, h1⟩ | ⟨g, h, _⟩
      · exact ⟨h0, h1⟩
      · rw [hA] at h; cases h
    · intro ad hA j u hj
      subst hA
      obtain ⟨k', r, y, rfl, hy, hu⟩ := flat_at E l j u hj
      obtain ⟨b', off', hA2, _, hc⟩ := hown2.read.at_ hy
      injection hA2 with hA2
      subst hA2
      have hadd : ∀ i, (⟨b', off', none⟩ : Addr).add i = ⟨b', off' + i, none⟩ := fun i => by unfold Addr.add; split <;> simp_all
      rw [hadd, ← Nat.add_assoc]
      exact hc r u hu
    · intro v' w' h1 h2
      obtain ⟨g, cap, rfl, hg⟩ : ∃ g cap, v' = .slice (some ⟨g, 0, none⟩) (l.length + (m + 1)) cap ∧ (w.alloc (.cells cs e)).heap.size ≤ g := by
        rcases h1.2 with ⟨_, h0⟩ | ⟨g, cap, _, rfl, hg, _⟩
        · omega
        · exact ⟨g, cap, rfl, hg⟩
      refine k g cap w' ?_ (.inr (by omega)) (fun b hb hne => (h2.block b (by rw [hsz]; omega) (by simp)).trans (Below.heap_alloc w _ b hb))
        ⟨h2.os, h2.tape, h2.output, Nat.le_trans (by simp) h2.size, fun b hb => (h2.block b (by rw [hsz]; omega) (by simp)).trans (Below.heap_alloc w _ b (by omega))⟩
      unfold OwnL
      rw [hl, List.flatMap_append]
      obtain ⟨q1, q2⟩ := h1
      refine ⟨q1, ?_⟩
      rcases q2 with q2 | ⟨g2, c2, cur, e1, e2, r⟩
      · exact .inl q2
      · exact .inr ⟨g2, c2, cur, e1, by omega, r⟩
end
end Go.Larder
end

/- Flat -/
section
namespace Go.Larder
open Go.RowKit
set_option linter.unusedVariables false
set_option linter.unusedSimpArgs false
theorem results_tmp4 {fn : Func} {t u v x : Tmp} (h : fn.results = #[.tmp t, .tmp u, .tmp v, .tmp x]) (tmps : Array Value) (P : Program) (w : World) :
    (results fn tmps).run P w = .ok (.tuple #[tmps.getD t undef, tmps.getD u undef, tmps.getD v undef, tmps.getD x undef]) w := by
  simp [results, h]
def flatR : Except Int (List UInt8) → List UInt8 × Int
  | .error n => ([], n)
  | .ok out => (out, 0)
theorem flatSt {w : World} {r : Except Int (List UInt8)} {e : Ending} {w' : World} (h : StPost w r e w') : ∃ a n, e = .returned (.tuple #[S a, .int .i64 n]) ∧ (a, n) = flatR r ∧ Below w.heap.size w w' := by
  cases r with
  | error n => exact ⟨[], n, h.1, rfl, h.2⟩
  | ok out => exact ⟨out, 0, h.1, rfl, h.2⟩
end Go.Larder
end

/- BoxC -/
section
namespace Go.Larder
open Go.RowKit
set_option linter.unusedVariables false
set_option linter.unusedSimpArgs false
theorem setRow_same (w : World) (g : Nat) (cs : Array Value) : SameBut (fun j => j = g) w (w.setRow g cs) := ⟨rfl, rfl, rfl, by simp, fun k _ hn => setRow_other w g k cs hn⟩
theorem wpList_copy_box {P : Program} {w : World} {ops : Array Oper} {rest : List Oper} {o : Oper} {a : Act} {Q : Exit → Act → World → Prop} (hgd : o.guard = none) (d s : Operand) (dT sT : TypeId)
    (ho : o.op = .call { callee := .builtin .copy, args := #[d, s], argTypes := #[dT, sT] }) (elem : TypeId) (hu : P.underlying dT = some (.slice elem)) (hsz : (P.info? elem).map (·.size) = some 1)
    {g off dLen dCap m sCap : Nat} {t : TypeId} {ad : Addr} {cs : List Value} (cs2 : List Value) (hd : a.eval d = .slice (some ⟨g, off, none⟩) dLen dCap) (hs : a.eval s = .slice (some ad) m sCap) (hb : BoxAt w g t cs)
    (hm : cs2.length = m) (hle : m ≤ dLen) (hsrc : ∀ j v, cs2[j]? = some v → w.cell? (ad.add j) = some v) (hfit : off + m ≤ cs.length) (h1 : ∀ v ∈ cs2, v.oneCell' = true) (N : Int) (hN : (m : Int) = N)
    (h : ∀ w', BoxAt w' g t (cs.take off ++ (cs2 ++ cs.drop (off + m))) → SameBut (fun j => j = g) w w' → wpList P ops Q rest (a.put o.dst (.int .i64 N)) w') : wpList P ops Q (o :: rest) a w := by
  subst hm hN
  refine wpList_copy_own hgd d s dT sT ho elem hu hsz g off dLen dCap ad cs2.length sCap hd hs cs.toArray t hb cs2 (Nat.min_eq_left hle).symm hsrc (by simpa using hfit) h1 ?_
  refine h _ ?_ (setRow_same w g _)
  have := setRow_heap w g _ (cs.toArray.toList.take off ++ (cs2 ++ cs.toArray.toList.drop (off + cs2.length))).toArray t _ hb
  exact this
theorem BoxAt.srcs {w : World} {g : Nat} {t : TypeId} {cs : List Value} (h : BoxAt w g t cs) : ∀ j v, cs[j]? = some v → w.cell? ((⟨g, 0, none⟩ : Addr).add j) = some v := fun j v hv => by
  have hadd : (⟨g, 0, none⟩ : Addr).add j = ⟨g, j, none⟩ := by unfold Addr.add; split <;> simp_all
  rw [hadd]
  exact h.cell hv
end Go.Larder
end

/- AppS -/
section
namespace Go.Larder
open Go.RowKit
set_option linter.unusedVariables false
set_option linter.unusedSimpArgs false
theorem run_app_str {P : Program} {w : World} {t tS ty e : TypeId} {base c : Nat} {A : Option Addr} {l : List UInt8}
    (ht : P.underlying t = some (.slice e)) (hS : P.underlying tS = some .string) (hinfo : (P.info? e).map (fun i => (i.zero, i.size, i.bytes)) = some (some (.int .u8 0), 1, 1))
    (hown : OwnL encB w base e A c l) (m : List UInt8) (hb : l.length + m.length ≤ 140737488355328) (hbase : base ≤ w.heap.size) :
    ∃ A' c' w', (Builtin.append_ #[t, tS] ty #[.slice A l.length c, S m]).run P w = .ok (.slice A' (l.length + m.length) c') w' ∧ OwnL encB w' base e A' c' (l ++ m) ∧ Below base w w' := by
  obtain ⟨i, hi, hz, hz1, hz2⟩ := info_parts hinfo
  have e1 : (⟨m.toArray⟩ : ByteArray).size = m.length := ba_size m
  obtain ⟨v', w', hrun, h1, h2, _⟩ := Lib.run_append_own_string (P := P) w base t tS ty e i ht hS hi hz hz1 hz2 _ l.length _ hown ⟨m.toArray⟩ (by rw [e1]; simp only [maxLen]; omega) (by rw [e1]; exact hb) hbase
  rw [e1] at h1
  obtain ⟨A', cap, rfl⟩ : ∃ A' cap, v' = .slice A' (l.length + m.length) cap := by
    rcases h1.2 with ⟨h, h0⟩ | ⟨g, cap, _, rfl, _⟩
    · exact ⟨none, 0, by rw [h, h0]⟩
    · exact ⟨_, cap, rfl⟩
  have hl : (l ++ m).length = l.length + m.length := by simp
  exact ⟨A', cap, w', hrun, (by
    unfold OwnL
    rw [hl, flat_B, List.map_append, ← flat_B]
    exact h1), ⟨h2.os, h2.tape, h2.output, h2.size, fun j hj => h2.block j (by omega) (by
      intro hne
      cases A with
      | none => simp [Value.ownBlock] at hne
      | some g' =>
        have := (OwnL.lt hown g' rfl).1
        simp [Value.ownBlock] at hne
        omega)⟩⟩
/-- .. at a step of a region that draws. -/
theorem step_app_str {P : Program} {w : World} {ops : Array Oper} {o : Oper} {a : Act} {K : Act → World → Prop} {Q : Exit → Act → World → Prop} {Z : Prop} {t tS e : TypeId} {base c : Nat} {A : Option Addr} {l : List UInt8}
    (ht : P.underlying t = some (.slice e)) (hS : P.underlying tS = some .string) (hinfo : (P.info? e).map (fun i => (i.zero, i.size, i.bytes)) = some (some (.int .u8 0), 1, 1)) (hgd : o.guard = none) (s x : Operand)
    (ho : o.op = .call { callee := .builtin .append, args := #[s, x], argTypes := #[t, tS] })
    (hs : a.eval s = .slice A l.length c) (hown : OwnL encB w base e A c l) (m : List UInt8) (hx : a.eval x = S m) (hb : l.length + m.length ≤ 140737488355328) (hbase : base ≤ w.heap.size)
    (k : ∀ A' c' w', OwnL encB w' base e A' c' (l ++ m) → Below base w w' → K (a.put o.dst (.slice A' (l.length + m.length) c')) w') :
    if Region.wanted o (yielded ops a.tmps) = true then Oper.wp P o a w K Q else Z := by
  have hw : Region.wanted o (yielded ops a.tmps) = true := by simp [Region.wanted, hgd]
  rw [if_pos hw]
  obtain ⟨A', cap, w', hrun, h1, h2⟩ := run_app_str (ty := o.type) ht hS hinfo hown m hb hbase
  have hk := k A' cap w' h1 h2
  unfold Oper.wp execOp
  simp only [ho, resolve, invoke, builtin, Sem.run_bind, Sem.run_pure, Result.andThen_ok, List.map_toArray, List.map_cons, List.map_nil, hs, hx, hrun]
  exact hk
end Go.Larder
end

/- OwnW -/
section
namespace Go.Larder
open Go.RowKit
set_option linter.unusedVariables false
set_option linter.unusedSimpArgs false
structure OwnW (w : World) (base : Nat) (e : TypeId) (A : Option Addr) (c : Nat) (l : List UInt8) : Prop where
  le : l.length ≤ c
  body : (A = none ∧ c = 0) ∨ ∃ g off cur, A = some ⟨g, off, none⟩ ∧ base ≤ g ∧ w.heap[g]? = some (.cells cur e (0, 0)) ∧ off + c ≤ cur.size ∧ (cur.toList.drop off).take l.length = Lib.byteCells l
variable {w w' : World} {base c : Nat} {e : TypeId} {A : Option Addr} {l : List UInt8}
theorem OwnW.nil (w : World) (base : Nat) (e : TypeId) : OwnW w base e none 0 [] := ⟨Nat.le_refl _, .inl ⟨rfl, rfl⟩⟩
theorem OwnW.lt (h : OwnW w base e A c l) {a : Addr} (ha : A = some a) : base ≤ a.block ∧ a.block < w.heap.size := by
  subst ha
  rcases h.body with ⟨h0, _⟩ | ⟨g, off, cur, h1, h2, h3, _⟩
  · cases h0
  · injection h1 with h1
    subst h1
    exact ⟨h2, (Array.getElem?_eq_some_iff.1 h3).1⟩
theorem OwnW.keep (h : OwnW w base e A c l) (hk : ∀ a, A = some a → w'.heap[a.block]? = w.heap[a.block]?) : OwnW w' base e A c l := by
  refine ⟨h.le, ?_⟩
  rcases h.body with h0 | ⟨g, off, cur, h1, h2, h3, h4⟩
  · exact .inl h0
  · exact .inr ⟨g, off, cur, h1, h2, (hk _ h1).trans h3, h4⟩
theorem OwnW.below (h : OwnW w base e A c l) (hb : Below w.heap.size w w') : OwnW w' base e A c l := h.keep fun a ha => hb.block _ (h.lt ha).2
theorem OwnW.cells (h : OwnW w base e A c l) : ∀ g off, A = some ⟨g, off, none⟩ → ∀ j v, (Lib.byteCells l)[j]? = some v → w.cell? ((⟨g, off, none⟩ : Addr).add j) = some v := by
  intro g off hA j v hv
  rcases h.body with ⟨h0, _⟩ | ⟨g', off', cur, h1, h2, h3, h4, h5⟩
  · rw [h0] at hA; cases hA
  · rw [hA] at h1
    injection h1 with h1
    injection h1 with h1 h1'
    subst h1 h1'
    have hadd : (⟨g, off, none⟩ : Addr).add j = ⟨g, off + j, none⟩ := by unfold Addr.add; split <;> simp_all
    rw [hadd, cell_of_row _ _ _ _ _ _ h3]
    have hj : j < l.length := by
      have := (List.getElem?_eq_some_iff.1 hv).1
      rwa [Lib.byteCells_length] at this
    rw [← h5, List.getElem?_take, if_pos hj, List.getElem?_drop] at hv
    rw [← Array.getElem?_toList]
    exact hv
theorem OwnW.read (h : OwnW w base e A c l) : ReadL encB w w.heap.size A l := by
  intro hn
  rcases h.body with ⟨h0, h0'⟩ | ⟨g, off, cur, h1, h2, h3, h4, h5⟩
  · have := h.le
    omega
  · refine ⟨g, off, h1, (Array.getElem?_eq_some_iff.1 h3).1, fun k y hy r u hu => ?_⟩
    have hr : r = 0 := by
      have := (List.getElem?_eq_some_iff.1 hu).1
      simp [encB] at this; exact this
    subst hr
    have hu' : Value.int .u8 (y.toNat : Int) = u := by simpa [encB] using hu
    have := h.cells g off h1 k u (by unfold Lib.byteCells; rw [List.getElem?_map, hy, ← hu']; rfl)
    have hadd : (⟨g, off, none⟩ : Addr).add k = ⟨g, off + k, none⟩ := by unfold Addr.add; split <;> simp_all
    rw [hadd] at this
    rw [show off + k * encB.size + 0 = off + k from by show off + k * 1 + 0 = _; omega]
    exact this
theorem OwnW.drop (h : OwnW w base e A c l) {k : Nat} (hk : k ≤ l.length) : OwnW w base e (A.map fun a => a.add k) (c - k) (l.drop k) := by
  have hle := h.le
  refine ⟨by rw [List.length_drop]; omega, ?_⟩
  rcases h.body with ⟨h0, h0'⟩ | ⟨g, off, cur, h1, h2, h3, h4, h5⟩
  · exact .inl ⟨by rw [h0]; rfl, by omega⟩
  · have hadd : (⟨g, off, none⟩ : Addr).add k = ⟨g, off + k, none⟩ := by unfold Addr.add; split <;> simp_all
    refine .inr ⟨g, off + k, cur, by rw [h1, Option.map_some, hadd], h2, h3, by omega, ?_⟩
    have := congrArg (List.drop k) h5
    rw [List.drop_take, List.drop_drop] at this
    rw [List.length_drop, this]
    unfold Lib.byteCells
    rw [List.map_drop]
theorem run_append_room_str {P : Program} {w : World} (t u ty e : TypeId) (i : TypeInfo) (ht : P.underlying t = some (.slice e)) (hu : P.underlying u = some .string) (hi : P.info? e = some i) (hs1 : i.size = 1)
    (g off sLen sCap : Nat) (cur : Array Value) (hg : w.heap[g]? = some (.cells cur e (0, 0))) (s : ByteArray)
    (hroom : sLen + s.size ≤ sCap) (hfit : off + sLen + s.size ≤ cur.size) :
    (Builtin.append_ #[t, u] ty #[.slice (some ⟨g, off, none⟩) sLen sCap, .string s]).run P w =
      .ok (.slice (some ⟨g, off, none⟩) (sLen + s.size) sCap) (w.setRow g (cur.toList.take (off + sLen) ++ Lib.strCells s ++ cur.toList.drop (off + sLen + s.size)).toArray) := by
  have hf := Lib.run_firstCells_string (P := P) w 1 s
  have hst := run_storeCells_at P g (off + sLen) e (Lib.strCells s) 0 cur w hg (by simpa [Lib.strCells_length] using hfit) (Lib.strCells_oneCell s)
  simp only [Nat.add_zero, Lib.strCells_length] at hst
  have hadd : (⟨g, off, none⟩ : Addr).add sLen = ⟨g, off + sLen, none⟩ := by unfold Addr.add; split <;> simp_all
  simp [Builtin.append_, run_underlying ht, run_underlying hu, sizeOf, typeInfo, hi, hs1, Builtin.lenOf, hroom, hf, hadd, hst]
theorem strCells_S (m : List UInt8) : Lib.strCells ⟨m.toArray⟩ = Lib.byteCells m := by simp [Lib.strCells, Lib.byteCells]
theorem byteCells_app (a b : List UInt8) : Lib.byteCells (a ++ b) = Lib.byteCells a ++ Lib.byteCells b := by simp [Lib.byteCells]
theorem own_new {w : World} {g base cap : Nat} {e : TypeId} {l : List UInt8} {rest : List Value} {cur : Array Value} (hh : w.heap[g]? = some (.cells cur e (0, 0))) (hc : cur.toList = Lib.byteCells l ++ rest) (hs : cap ≤ cur.size) (hl : l.length ≤ cap) (hb : base ≤ g) : OwnW w base e (some ⟨g, 0, none⟩) cap l :=
  ⟨hl, .inr ⟨g, 0, cur, rfl, hb, hh, by omega, by rw [List.drop_zero, hc, ← Lib.byteCells_length l, List.take_left]⟩⟩
theorem OwnW.app {P : Program} {w : World} {t tS ty e : TypeId} {base c : Nat} {A : Option Addr} {l : List UInt8}
    (ht : P.underlying t = some (.slice e)) (hS : P.underlying tS = some .string) (hinfo : (P.info? e).map (fun i => (i.zero, i.size, i.bytes)) = some (some (.int .u8 0), 1, 1))
    (h : OwnW w base e A c l) (m : List UInt8) (hb : l.length + m.length ≤ 140737488355328) (hbase : base ≤ w.heap.size) :
    ∃ A' c' w', (Builtin.append_ #[t, tS] ty #[.slice A l.length c, S m]).run P w = .ok (.slice A' (l.length + m.length) c') w' ∧ OwnW w' base e A' c' (l ++ m) ∧ w.grownBy w' (blkOf A) := by
  obtain ⟨i, hi, hz, hz1, hz2⟩ := info_parts hinfo
  have e1 : (⟨m.toArray⟩ : ByteArray).size = m.length := ba_size m
  have hzc : (Value.int IntKind.u8 0).cells.size = 1 := rfl
  have hle := h.le
  rcases h.body with ⟨rfl, rfl⟩ | ⟨g, off, cur, rfl, hbg, hg, hcs, htk⟩
  · obtain rfl : l = [] := List.eq_nil_of_length_eq_zero (by omega)
    by_cases hm : m.length = 0
    · obtain rfl : m = [] := List.eq_nil_of_length_eq_zero hm
      refine ⟨none, 0, w, ?_, OwnW.nil _ _ _, rfl, rfl, rfl, Nat.le_refl _, fun _ _ _ => rfl⟩
      have hf := Lib.run_firstCells_string (P := P) w 1 ByteArray.empty
      have h0 : ByteArray.empty.size = 0 := rfl
      rw [h0] at hf
      show (Builtin.append_ #[t, tS] ty #[.slice none 0 0, .string ByteArray.empty]).run P w = _
      simp [Builtin.append_, run_underlying ht, run_underlying hS, sizeOf, typeInfo, hi, hz1, Builtin.lenOf, hf]
    · have hr := run_append_nil_string (P := P) (w := w) t tS ty e i (.int .u8 0) ht hS hi hz ⟨m.toArray⟩ (by omega) (by omega) (by rw [hz2]; omega)
      rw [e1] at hr
      have hg2 : w.grownBy (w.drew.alloc (.cells ((⟨m.toArray⟩ : ByteArray).data.map (fun b => Value.int .u8 b.toNat) ++ Builtin.zeroCells (Value.int .u8 0).cells (grownCap w m.length 0 e - m.length)) e)) (blkOf none) := ⟨rfl, rfl, rfl, by simp, fun k hk _ => Below.heap_alloc w.drew _ k hk⟩
      refine ⟨some ⟨w.heap.size, 0, none⟩, grownCap w m.length 0 e, _, ?_, ?_, hg2⟩
      · rw [List.length_nil, Nat.zero_add]
        exact hr
      have hge := grownCap_ge w m.length 0 e
      refine own_new (rest := (Builtin.zeroCells (Value.int .u8 0).cells (grownCap w m.length 0 e - m.length)).toList) (heap_alloc_new w.drew _) ?_ ?_ ?_ hbase
      · simp [Lib.byteCells]
      · simp only [Array.size_append, Array.size_map, size_zeroCells, hzc]
        have : m.toArray.size = m.length := by simp
        omega
      · simpa using hge
  · by_cases hroom : l.length + m.length ≤ c
    · have hr := run_append_room_str (P := P) (w := w) t tS ty e i ht hS hi hz1 g off l.length c cur hg ⟨m.toArray⟩ (by omega) (by omega)
      rw [e1, strCells_S] at hr
      refine ⟨_, _, _, hr, ⟨by simp; omega, .inr ⟨g, off, _, rfl, hbg, setRow_heap w g cur _ e _ hg, ?_, ?_⟩⟩, rfl, rfl, rfl, by simp, fun k hk hne => setRow_other _ _ _ _ fun hkg => hne (by simp [blkOf, hkg])⟩
      · simp [Lib.byteCells_length]
        omega
      · have hl0 : (cur.toList.take (off + l.length)).length = off + l.length := by rw [List.length_take]; simp; omega
        show List.take (l ++ m).length (List.drop off (cur.toList.take (off + l.length) ++ Lib.byteCells m ++ cur.toList.drop (off + l.length + m.length))) = _
        rw [List.append_assoc, List.drop_append_of_le_length (by omega), List.drop_take, Nat.add_sub_cancel_left, htk, byteCells_app, ← List.append_assoc, List.length_append, ← Lib.byteCells_length l, ← Lib.byteCells_length m, ← List.length_append, List.take_left]
    · have hr := Lib.run_append_grow_string (P := P) (w := w) t tS ty e i (.int .u8 0) ht hS hi hz ⟨g, off, none⟩ l.length c (Lib.byteCells l) (by rw [Lib.byteCells_length, hz1, Nat.mul_one]) (h.cells g off rfl) ⟨m.toArray⟩ (by omega) (by omega) (by rw [e1]; exact growslice_fits (by omega) (by rw [hz2]; omega))
      rw [e1, strCells_S] at hr
      have hge := grownCap_ge w (l.length + m.length) c e
      refine ⟨_, _, _, hr, ?_, rfl, rfl, rfl, by simp, fun k hk _ => Below.heap_alloc w.drew _ k hk⟩
      refine own_new (rest := (Builtin.zeroCells (Value.int .u8 0).cells (grownCap w (l.length + m.length) c e - (l.length + m.length))).toList) (heap_alloc_new w.drew _) ?_ ?_ ?_ hbase
      · simp [byteCells_app, List.append_assoc]
      · simp only [Array.size_append, List.size_toArray, size_zeroCells, hzc, Lib.byteCells_length]
        omega
      · rw [List.length_append]; exact hge
end Go.Larder
namespace Go.Larder
open Go.RowKit
/-- .. as an operation of a walk. -/
theorem wpList_appW {P : Program} {w : World} {ops : Array Oper} {rest : List Oper} {o : Oper} {a : Act} {Q : Exit → Act → World → Prop} {t tS e : TypeId} {base c n : Nat} {A : Option Addr} {l : List UInt8}
    (ht : P.underlying t = some (.slice e)) (hS : P.underlying tS = some .string) (hinfo : (P.info? e).map (fun i => (i.zero, i.size, i.bytes)) = some (some (.int .u8 0), 1, 1)) (hgd : o.guard = none) (s x : Operand)
    (ho : o.op = .call { callee := .builtin .append, args := #[s, x], argTypes := #[t, tS] })
    (hs : a.eval s = .slice A n c) (h : OwnW w base e A c l) (hn : l.length = n) (m : List UInt8) (hx : a.eval x = S m) (hb : l.length + m.length ≤ 140737488355328) (hbase : base ≤ w.heap.size)
    (k : ∀ A' c' w', OwnW w' base e A' c' (l ++ m) → w.grownBy w' (blkOf A) → wpList P ops Q rest (a.put o.dst (.slice A' (n + m.length) c')) w') : wpList P ops Q (o :: rest) a w := by
  subst hn
  refine wpList_plain hgd fun K hK => ?_
  obtain ⟨A', cap, w', hrun, h1, h2⟩ := OwnW.app (ty := o.type) ht hS hinfo h m hb hbase
  have hk := hK _ _ (k A' cap w' h1 h2)
  unfold Oper.wp execOp
  simp only [ho, resolve, invoke, builtin, Sem.run_bind, Sem.run_pure, Result.andThen_ok, List.map_toArray, List.map_cons, List.map_nil, hs, hx, hrun]
  exact hk
end Go.Larder
end

/- SpecLine -/
section
namespace Go.Larder
set_option linter.unusedVariables false
set_option linter.unusedSimpArgs false

def isTg (c : UInt8) : Bool := decide (33 ≤ (c.toNat : Int)) && decide ((c.toNat : Int) ≤ 126)
def verL : List UInt8 := [72, 84, 84, 80, 47, 49, 46, 49]
def lineE (s : List UInt8) (most : Nat) : Except Int (List UInt8) :=
  if Lib.index s [13, 10] < 0 then (if most + 1 < s.length then .error 2 else .error 8)
  else if (most : Int) < Lib.index s [13, 10] then .error 2 else .ok (s.take (Lib.index s [13, 10]).toNat)
def reqOK (m t : List UInt8) : Bool := isTok m && decide (m.length ≤ 30) && !t.isEmpty && decide (t.length ≤ 200) && t.all isTg
def reqL (m t : List UInt8) : List UInt8 := m ++ [32] ++ t ++ [32] ++ verL ++ [13, 10]
def reqE (m t : List UInt8) : Except Int (List UInt8) := if reqOK m t = true then .ok (reqL m t) else .error 3

theorem line_none {s : List UInt8} (h : Lib.index s [13, 10] = -1) (most : Nat) : lineE s most = if most + 1 < s.length then .error 2 else .error 8 := by
  unfold lineE; rw [h]; rfl
theorem line_at {s : List UInt8} {i : Nat} (h : Lib.index s [13, 10] = (i : Int)) (most : Nat) : lineE s most = if most < i then .error 2 else .ok (s.take i) := by
  unfold lineE
  rw [h, if_neg (by omega)]
  by_cases hi : most < i
  · rw [if_pos (by omega), if_pos hi]
  · rw [if_neg (by omega), if_neg hi]; simp
theorem line_len {s l : List UInt8} {most : Nat} (h : lineE s most = .ok l) : l.length ≤ most ∧ l.length + 2 ≤ s.length := by
  unfold lineE at h
  split at h
  · split at h <;> cases h
  · next h1 =>
    split at h
    · cases h
    · next h2 =>
      injection h with h
      subst h
      have := Lib.index_room s [13, 10] (by omega)
      simp at this
      rw [List.length_take]
      omega
theorem line_err {s : List UInt8} {most : Nat} {n : Int} (h : lineE s most = .error n) : n ≠ 0 := by
  unfold lineE at h
  split at h
  · split at h <;> cases h <;> decide
  · split at h <;> cases h
    decide
theorem idxL_cases (s sub : List UInt8) : Lib.index s sub = -1 ∨ ∃ i : Nat, Lib.index s sub = i ∧ i + sub.length ≤ s.length := by
  rcases Lib.index_spec s sub with ⟨h, _⟩ | ⟨i, h, _, _, _⟩
  · exact .inl h
  · exact .inr ⟨i, h, by have := Lib.index_room s sub (by omega); omega⟩
theorem cut_none {s sub : List UInt8} (h : Lib.index s sub = -1) : Lib.cut s sub = (s, [], false) := by unfold Lib.cut; rw [h]; rfl
theorem cut_at {s sub : List UInt8} {i : Nat} (h : Lib.index s sub = (i : Int)) : Lib.cut s sub = (s.take i, s.drop (i + sub.length), true) := by
  unfold Lib.cut
  rw [h, if_pos (by omega)]
  simp

/-- The first two words. -/
def w01 (l : List UInt8) : List UInt8 × List UInt8 := match spl 32 l with
  | [] => ([], [])
  | [a] => (a, [])
  | a :: b :: _ => (a, b)
def parseP (s : List UInt8) : Except Int (List UInt8 × List UInt8 × Nat) := match lineE s 300 with
  | .error n => .error n
  | .ok l => match spl 32 l with
    | [a, b, c] => if (c == verL && reqOK a b) = true then .ok (a, b, l.length + 2) else .error 3
    | _ => .error 3
def parseR (s : List UInt8) : Except Int (List UInt8 × List UInt8 × Nat) := match lineE s 300 with
  | .error n => .error n
  | .ok l => if (reqOK (w01 l).1 (w01 l).2 && (reqL (w01 l).1 (w01 l).2 == l ++ [13, 10])) = true then .ok ((w01 l).1, (w01 l).2, l.length + 2) else .error 3
theorem tok_no32 {a : List UInt8} (h : isTok a = true) : ∀ x ∈ a, x ≠ 32 := by
  intro x hx e
  subst e
  unfold isTok at h
  rw [Bool.and_eq_true, List.all_eq_true] at h
  have h1 := h.2 _ hx
  have h2 : tokB 32 = false := by decide +kernel
  rw [h2] at h1
  cases h1
theorem tg_no32 {a : List UInt8} (h : a.all isTg = true) : ∀ x ∈ a, x ≠ 32 := by
  intro x hx e
  subst e
  have h1 := List.all_eq_true.1 h _ hx
  have h2 : isTg 32 = false := by decide +kernel
  rw [h2] at h1
  cases h1
theorem reqOK_parts {m t : List UInt8} (h : reqOK m t = true) : isTok m = true ∧ m.length ≤ 30 ∧ t.isEmpty = false ∧ t.length ≤ 200 ∧ t.all isTg = true := by
  unfold reqOK at h
  simp only [Bool.and_eq_true, decide_eq_true_eq, Bool.not_eq_true'] at h
  exact ⟨h.1.1.1.1, h.1.1.1.2, h.1.1.2, h.1.2, h.2⟩
theorem parse_line (l : List UInt8) : (match spl 32 l with
    | [a, b, c] => if (c == verL && reqOK a b) = true then (Except.ok (a, b, l.length + 2) : Except Int (List UInt8 × List UInt8 × Nat)) else .error 3
    | _ => .error 3) = if (reqOK (w01 l).1 (w01 l).2 && (reqL (w01 l).1 (w01 l).2 == l ++ [13, 10])) = true then .ok ((w01 l).1, (w01 l).2, l.length + 2) else .error 3 := by
  by_cases h : (reqOK (w01 l).1 (w01 l).2 && (reqL (w01 l).1 (w01 l).2 == l ++ [13, 10])) = true
  · rw [if_pos h]
    rw [Bool.and_eq_true, beq_iff_eq] at h
    obtain ⟨h1, h2⟩ := h
    generalize (w01 l).1 = a at h1 h2
    generalize (w01 l).2 = b at h1 h2
    have hp := reqOK_parts h1
    have hl : l = a ++ 32 :: (b ++ 32 :: verL) := by
      have : (a ++ 32 :: (b ++ 32 :: verL)) ++ [13, 10] = l ++ [13, 10] := by rw [← h2]; simp [reqL]
      exact (List.append_cancel_right this).symm
    have hs : spl 32 l = [a, b, verL] := by
      rw [hl, spl_app _ (tok_no32 hp.1), spl_app _ (tg_no32 hp.2.2.2.2), spl_free (by decide)]
    rw [hs]
    simp [h1]
  · rw [if_neg h]
    split
    · next a b c hs =>
      by_cases hc : (c == verL && reqOK a b) = true
      · exfalso
        apply h
        rw [Bool.and_eq_true, beq_iff_eq] at hc
        obtain ⟨hc1, hc2⟩ := hc
        have hw : w01 l = (a, b) := by unfold w01; rw [hs]
        have hj := jn_spl 32 l
        rw [hs, hc1] at hj
        rw [hw]
        simp only
        rw [hc2, ← hj]
        simp [reqL, jn]
      · rw [if_neg hc]
    · rfl
theorem parse_eq (s : List UInt8) : parseP s = parseR s := by
  unfold parseP parseR
  cases lineE s 300 with
  | error n => rfl
  | ok l => exact parse_line l
theorem tg_nat : ∀ n : Fin 256, isTg (UInt8.ofNat n.val) = (isPl (UInt8.ofNat n.val) && !([32, 9] : List UInt8).contains (UInt8.ofNat n.val)) := by decide +kernel
theorem tg_eq (c : UInt8) : isTg c = (isPl c && !([32, 9] : List UInt8).contains c) := by
  have := tg_nat ⟨c.toNat, c.toNat_lt⟩
  simpa using this
theorem all_tg (l : List UInt8) : l.all isTg = (l.all isPl && !Lib.containsAny l [32, 9]) := all_plain_but tg_eq l
end Go.Larder
end

/- SpecFp -/
section
namespace Go.Larder
set_option linter.unusedVariables false
set_option linter.unusedSimpArgs false
theorem trim_lenF (l : List UInt8) : (trim l).length ≤ l.length := by
  unfold trim trimR
  rw [List.length_reverse]
  have h1 := (List.dropWhile_sublist isB (l := (l.dropWhile isB).reverse)).length_le
  have h2 := (List.dropWhile_sublist isB (l := l)).length_le
  rw [List.length_reverse] at h1
  omega
def chkF (n v : List UInt8) : Int :=
  if isTok n then (if 30 < n.length ∨ 1000 < v.length then 2 else if trim v = v ∧ v.all isPl = true then 0 else 3) else 3
def fpGo : Nat → List UInt8 → Nat → List (List UInt8 × List UInt8) → Except Int (List (List UInt8 × List UInt8) × Nat)
  | 0, _, _, _ => .error 0
  | n + 1, rest, k, out => match lineE rest 1100 with
    | .error e => .error e
    | .ok l => if l.isEmpty then .ok (out, k + 2) else if out.length = 30 then .error 2 else
      if ((cut1 58 l).2.2 && isTok (cut1 58 l).1) = true then
        (if chkF (cut1 58 l).1 (trim (cut1 58 l).2.1) = 0 then fpGo n (rest.drop (l.length + 2)) (k + l.length + 2) (out ++ [((cut1 58 l).1, trim (cut1 58 l).2.1)]) else .error (chkF (cut1 58 l).1 (trim (cut1 58 l).2.1)))
      else .error 3
def fpE (s : List UInt8) : Except Int (List (List UInt8 × List UInt8) × Nat) := fpGo (s.length + 1) s 0 []
section
variable {m k : Nat} {rest l : List UInt8} {out : List (List UInt8 × List UInt8)}
theorem fp_err {e : Int} (h : lineE rest 1100 = .error e) : fpGo (m + 1) rest k out = .error e := by
  unfold fpGo; rw [h]
theorem fp_end (h : lineE rest 1100 = .ok []) : fpGo (m + 1) rest k out = .ok (out, k + 2) := by
  unfold fpGo; rw [h]; rfl
theorem fp_full (h : lineE rest 1100 = .ok l) (hl : l.isEmpty = false) (ho : out.length = 30) : fpGo (m + 1) rest k out = .error 2 := by
  unfold fpGo; rw [h]; simp only; rw [hl, if_neg (by simp), if_pos ho]
theorem fp_syn (h : lineE rest 1100 = .ok l) (hl : l.isEmpty = false) (ho : out.length ≠ 30) (hc : ((cut1 58 l).2.2 && isTok (cut1 58 l).1) = false) : fpGo (m + 1) rest k out = .error 3 := by
  unfold fpGo; rw [h]; simp only; rw [hl, if_neg (by simp), if_neg ho, hc]; rfl
theorem fp_chk (h : lineE rest 1100 = .ok l) (hl : l.isEmpty = false) (ho : out.length ≠ 30) (hc : ((cut1 58 l).2.2 && isTok (cut1 58 l).1) = true) (hk : ¬ chkF (cut1 58 l).1 (trim (cut1 58 l).2.1) = 0) :
    fpGo (m + 1) rest k out = .error (chkF (cut1 58 l).1 (trim (cut1 58 l).2.1)) := by
  rw [fpGo]
  simp only [h, hl, Bool.false_eq_true, if_false, if_neg ho, hc, if_true, if_neg hk]
theorem fp_step (h : lineE rest 1100 = .ok l) (hl : l.isEmpty = false) (ho : out.length ≠ 30) (hc : ((cut1 58 l).2.2 && isTok (cut1 58 l).1) = true) (hk : chkF (cut1 58 l).1 (trim (cut1 58 l).2.1) = 0) :
    fpGo (m + 1) rest k out = fpGo m (rest.drop (l.length + 2)) (k + l.length + 2) (out ++ [((cut1 58 l).1, trim (cut1 58 l).2.1)]) := by
  conv => lhs; rw [fpGo]
  simp only [h, hl, Bool.false_eq_true, if_false, if_neg ho, hc, if_true, if_pos hk]
end
end Go.Larder
end

/- SpecHex -/
section
namespace Go.Larder
set_option linter.unusedSimpArgs false
set_option linter.unusedVariables false
def hxTab : List UInt8 := [48, 49, 50, 51, 52, 53, 54, 55, 56, 57, 97, 98, 99, 100, 101, 102]
def hexd (k : Nat) : UInt8 := hxTab.getD k 0
def hxL (n : Nat) : List UInt8 := if h : n < 16 then [hexd n] else hxL (n / 16) ++ [hexd (n % 16)]
theorem hxL_one {n : Nat} (h : n < 16) : hxL n = [hexd n] := by rw [hxL, dif_pos h]
theorem hxL_step {n : Nat} (h : ¬ n < 16) : hxL n = hxL (n / 16) ++ [hexd (n % 16)] := by rw [hxL, dif_neg h]
theorem hxL_pos (n : Nat) : 1 ≤ (hxL n).length := by
  by_cases h : n < 16
  · rw [hxL_one h]; simp
  · rw [hxL_step h]; simp
theorem hxL_len {n : Nat} (h : n ≤ 5000) : (hxL n).length ≤ 4 := by
  have e : ∀ m : Nat, m < 16 → (hxL m).length = 1 := fun m hm => by rw [hxL_one hm]; rfl
  have s : ∀ m : Nat, ¬ m < 16 → (hxL m).length = (hxL (m / 16)).length + 1 := fun m hm => by rw [hxL_step hm]; simp
  by_cases h1 : n < 16
  · rw [e n h1]; omega
  · rw [s n h1]
    by_cases h2 : n / 16 < 16
    · rw [e _ h2]; omega
    · rw [s _ h2]
      by_cases h3 : n / 16 / 16 < 16
      · rw [e _ h3]; omega
      · rw [s _ h3, e _ (by omega)]; omega
theorem sixteen {P : Nat → Prop} (h0 : P 0) (h1 : P 1) (h2 : P 2) (h3 : P 3) (h4 : P 4) (h5 : P 5) (h6 : P 6) (h7 : P 7) (h8 : P 8) (h9 : P 9) (h10 : P 10) (h11 : P 11) (h12 : P 12) (h13 : P 13) (h14 : P 14) (h15 : P 15) : ∀ k, k < 16 → P k
  | 0, _ => h0 | 1, _ => h1 | 2, _ => h2 | 3, _ => h3 | 4, _ => h4 | 5, _ => h5 | 6, _ => h6 | 7, _ => h7 | 8, _ => h8 | 9, _ => h9 | 10, _ => h10 | 11, _ => h11 | 12, _ => h12 | 13, _ => h13 | 14, _ => h14 | 15, _ => h15
  | n + 16, h => absurd h (by omega)
end Go.Larder
end
