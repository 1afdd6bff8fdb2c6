/- Dates, read: the reference's way. No program in sight. -/
import Derived.Test.YthpckcfdgfdngaaDoorSpecDpp
namespace Go.Larder
set_option linter.unusedSimpArgs false
set_option linter.unusedVariables false
def z48 (c : UInt8) : Bool := c == 48
/-- a number out of a text of digits, noughts ahead taken off; -1: nothing is left -/
def av (l : List UInt8) : Int := cnt (l.dropWhile z48) 9999
theorem nmGo_mono : ∀ (l : List UInt8) (n : Int), 1 ≤ n → l.all (inTab tensTab) = true → 1 ≤ nmGo n l
  | [], n, h, _ => h
  | c :: l, n, h, ha => by
    rw [List.all_cons, Bool.and_eq_true] at ha
    obtain ⟨h1, h2⟩ := digB' c ha.1
    rw [nmGo_yes ha.1]
    exact nmGo_mono l _ (by omega) ha.2
theorem av_eq : ∀ (l : List UInt8), l.length ≤ 4 → l.all (inTab tensTab) = true → av l = if nm l = 0 then -1 else nm l
  | [], _, _ => by simp [av, cnt, nm, nmGo]
  | c :: l, hl, ha => by
    have ha2 := ha
    rw [List.all_cons, Bool.and_eq_true] at ha2
    rw [List.length_cons] at hl
    by_cases hc : c = 48
    · subst hc
      have e1 : av (48 :: l) = av l := by unfold av; rw [List.dropWhile_cons]; rfl
      have e2 : nm (48 :: l) = nm l := by unfold nm; rw [nmGo_yes (by decide)]; rfl
      rw [e1, e2]
      exact av_eq l (by omega) ha2.2
    · have e1 : av (c :: l) = cnt (c :: l) 9999 := by unfold av; rw [List.dropWhile_cons, show z48 c = false from by simp [z48, hc]]; simp
      obtain ⟨h1, h2⟩ := digB' c ha2.1
      have hc48 : c.toNat ≠ 48 := fun h => hc (UInt8.toNat_inj.1 (by rw [h]; rfl))
      have hge : 1 ≤ nm (c :: l) := by
        unfold nm; rw [nmGo_yes ha2.1]
        exact nmGo_mono l _ (by omega) ha2.2
      have hb := (nm_bd (c :: l) 4 (by simpa using hl)).2
      rw [show ((10 ^ 4 : Nat) : Int) = 10000 from rfl] at hb
      rw [e1, if_neg (by omega)]
      unfold cnt
      rw [if_neg (by simp [hc]; omega), if_neg (by omega)]
theorem av_bd {l : List UInt8} (h : l.length ≤ 4) : -1 ≤ av l ∧ av l ≤ 9999 := by
  have h2 : (l.dropWhile z48).length ≤ 4 := Nat.le_trans (List.dropWhile_sublist z48).length_le h
  have := nm_bd (l.dropWhile z48) 4 h2
  rw [show ((10 ^ 4 : Nat) : Int) = 10000 from rfl] at this
  unfold av cnt
  split
  · omega
  · split <;> omega
def segsR (l : List UInt8) : List (List UInt8) := [seg l 5 7, seg l 12 16, seg l 17 19, seg l 20 22, seg l 23 25]
structure RGood (l : List UInt8) (k : Nat) : Prop where
  len : l.length = 29
  k12 : k < 12
  mon : Lib.index mon2L (seg l 8 11) = ((4 * k : Nat) : Int)
  dig : ∀ s ∈ segsR l, s.all (inTab tensTab) = true
  din : daysIn (av (seg l 12 16)) ((k : Int) + 1) (max 0 (av (seg l 5 7))) = true
def rN (l : List UInt8) (k : Nat) : Int := dayN (av (seg l 12 16)) (max 0 (av (seg l 5 7))) k * 86400 + max 0 (av (seg l 17 19)) * 3600 + max 0 (av (seg l 20 22)) * 60 + max 0 (av (seg l 23 25))
theorem tens_two (n : Int) (h0 : 0 ≤ n) (h1 : n < 100) : (twoL n).all (inTab tensTab) = true := (nm_all _ 0 (by omega)).2 (by have := nm_two n h0 h1; unfold nm at this; omega)
theorem tens_four (n : Int) (h0 : 1000 ≤ n) (h1 : n ≤ 9999) : (Lib.decDigits n.toNat).all (inTab tensTab) = true := (nm_all _ 0 (by omega)).2 (by have := nm_four n h0 h1; unfold nm at this; omega)
theorem av_two (n : Int) (h0 : 0 ≤ n) (h1 : n < 100) : max 0 (av (twoL n)) = n := by
  rw [av_eq _ (by rw [dec_two n h0 h1]; omega) (tens_two n h0 h1), nm_two n h0 h1]
  split <;> omega
theorem av_four (n : Int) (h0 : 1000 ≤ n) (h1 : n ≤ 9999) : av (Lib.decDigits n.toNat) = n := by
  rw [av_eq _ (by rw [dec_four n h0 h1]; omega) (tens_four n h0 h1), nm_four n h0 h1]
  split <;> omega
theorem isDate_goodR {n : Int} {l : List UInt8} (h : isDate n l) : ∃ k, RGood l k ∧ rN l k = n := by
  obtain ⟨y, m, r, h, h0, h1, hy1, hl, e1, e2, e3, e4, e5, e6⟩ := date_parts h
  have hm1 := h.m1
  have hr : r < 31 := by have := h.r1; have := md_bd y m; omega
  have hr0 := h.r0
  have hy0 := h.y0
  have hr1 := h.r1
  have n1 := av_four y (by omega) hy1
  have n2 := av_two (r + 1) (by omega) (by omega)
  have n3 := av_two (n % 86400 / 3600) (by omega) (by omega)
  have n4 := av_two (n % 86400 / 60 % 60) (by omega) (by omega)
  have n5 := av_two (n % 86400 % 60) (by omega) (by omega)
  refine ⟨m, ⟨hl, hm1, by rw [e1]; exact (mon_at ⟨m, hm1⟩).2, ?_, by rw [e2, e3, n1, n2, daysIn_iff hm1]; omega⟩, ?_⟩
  · intro s hs
    unfold segsR at hs
    rw [e2, e3, e4, e5, e6] at hs
    simp only [List.mem_cons, List.not_mem_nil, or_false] at hs
    rcases hs with rfl | rfl | rfl | rfl | rfl
    · exact tens_two _ (by omega) (by omega)
    · exact tens_four _ (by omega) hy1
    · exact tens_two _ (by omega) (by omega)
    · exact tens_two _ (by omega) (by omega)
    · exact tens_two _ (by omega) (by omega)
  · unfold rN dayN
    rw [e2, e3, e4, e5, e6, n1, n2, n3, n4, n5]
    have := h.eq
    omega
end Go.Larder
