/- Directives read: one, a list of them. No program in sight. -/
import Derived.Test.YtmhhjmncbclihaaSpecIs
import Derived.Test.YtmhhjmncbclihaaSpecTok
import Derived.Test.YtmhhjmncbclihaaSpecCut
namespace Go.Larder
open Go.RowKit
set_option linter.unusedVariables false
set_option linter.unusedSimpArgs false
theorem ixb : ∀ (l : List UInt8) (c : UInt8), Lib.indexByte l c = -1 ∨ ∃ k : Nat, Lib.indexByte l c = (k : Int) ∧ k < l.length
  | [], c => .inl rfl
  | x :: l, c => by
    unfold Lib.indexByte
    by_cases h : x = c
    · exact .inr ⟨0, by simp [h], Nat.succ_pos _⟩
    · rcases ixb l c with h1 | ⟨k, h1, h2⟩
      · exact .inl (by simp [h, h1])
      · refine .inr ⟨k + 1, ?_, Nat.succ_lt_succ h2⟩
        have h3 : ((k : Int) == -1) = false := by rw [beq_eq_false_iff_ne]; omega
        have h4 : (x == c) = false := by simp [h]
        rw [h4, h1, h3]
        simp
/-- Unquote of any text. -/
def unqAll : List UInt8 → List UInt8 × Int
  | [] => ([], 3)
  | a :: t => match t.reverse with
    | [] => ([], 3)
    | b :: r => unqMid a r.reverse b
theorem unqAll_short {l : List UInt8} (h : l.length < 2) : unqAll l = ([], 3) := by
  rcases l with _ | ⟨a, _ | ⟨b, t⟩⟩
  · rfl
  · rfl
  · simp at h; omega
theorem unqAll_mid (a : UInt8) (m : List UInt8) (b : UInt8) : unqAll (a :: (m ++ [b])) = unqMid a m b := by
  simp [unqAll]
theorem mid_of {l : List UInt8} (h : ¬ l.length < 2) : ∃ a m b, l = a :: (m ++ [b]) := by
  rcases l with _ | ⟨a, t⟩
  · simp at h
  · rcases nil_or_snoc t with rfl | ⟨m, b, rfl⟩
    · simp at h
    · exact ⟨a, m, b, rfl⟩
theorem unq_len : ∀ (m acc out : List UInt8), unq m acc = some out → out.length ≤ m.length + acc.length := by
  intro m acc
  fun_induction unq m acc with
  | case1 acc => intro out h; injection h with h; subst h; simp
  | case2 c acc h => intro out h; cases h
  | case3 c acc h h2 => intro out h; injection h with h; subst h; simp; omega
  | case4 c acc h h2 => intro out h; cases h
  | case5 c d r acc h h2 ih => intro out h; have := ih out h; simp at this ⊢; omega
  | case6 c d r acc h h2 => intro out h; cases h
  | case7 c d r acc h h2 => intro out h; cases h
  | case8 c d r acc h h2 h3 ih => intro out h; have := ih out h; simp at this ⊢; omega
  | case9 c d r acc h h2 h3 => intro out h; cases h
theorem unqAll_len (l : List UInt8) : (unqAll l).1.length ≤ l.length := by
  by_cases h : l.length < 2
  · rw [unqAll_short h]; simp
  · obtain ⟨a, m, b, rfl⟩ := mid_of h
    rw [unqAll_mid]
    unfold unqMid
    split
    · unfold unqEnd
      split
      · simp
      · rename_i o ho
        have := unq_len m [] o ho
        split
        · simp
        · simp at this ⊢; omega
    · simp
theorem tokLow_nat : ∀ n : Fin 256, tokB (lowB (UInt8.ofNat n.val)) = tokB (UInt8.ofNat n.val) := by decide +kernel
theorem tokLow (c : UInt8) : tokB (lowB c) = tokB c := by
  have := tokLow_nat ⟨c.toNat, c.toNat_lt⟩
  simpa using this
theorem isTok_low (l : List UInt8) : isTok (lowL l) = isTok l := by
  unfold isTok lowL
  have h : (l.map lowB).all tokB = l.all tokB := by
    rw [List.all_map]
    congr 1
    funext c
    exact tokLow c
  rw [h]
  cases l <;> rfl

abbrev Dir' := List UInt8 × Bool × List UInt8
/-- One directive, and whether it can be read. -/
def dirAt (t : List UInt8) (k : Nat) : Dir' × Bool :=
  if isTok (t.drop (k + 1)) then ((lowL (t.take k), true, t.drop (k + 1)), isTok (t.take k))
  else if (unqAll (t.drop (k + 1))).2 = 0 then ((lowL (t.take k), true, (unqAll (t.drop (k + 1))).1), isTok (t.take k))
  else ((lowL (t.take k), true, t.drop (k + 1)), false)
def dirR (t : List UInt8) : Dir' × Bool :=
  if 0 ≤ Lib.indexByte t 61 then dirAt t (Lib.indexByte t 61).toNat else ((lowL t, false, []), isTok t)
theorem dirR_no {t : List UInt8} (h : Lib.indexByte t 61 = -1) : dirR t = ((lowL t, false, []), isTok t) := by unfold dirR; rw [if_neg (by omega)]
theorem dirR_at {t : List UInt8} {k : Nat} (h : Lib.indexByte t 61 = (k : Int)) : dirR t = dirAt t k := by unfold dirR; rw [if_pos (by omega), h]; rfl
def dirsGo : List (List UInt8) → List Dir' → Option (List Dir')
  | [], acc => some acc
  | t :: l, acc => if (dirR t).2 then dirsGo l (acc ++ [(dirR t).1]) else none
def ctlE (s : List UInt8) : Except Int (List Dir') :=
  match splitE s with
  | .error n => .error n
  | .ok l => match dirsGo l [] with
    | none => .error 3
    | some ds => .ok ds
theorem dirsGo_len : ∀ (l : List (List UInt8)) (acc ds : List Dir'), dirsGo l acc = some ds → ds.length = l.length + acc.length
  | [], acc, ds, h => by injection h with h; subst h; simp
  | t :: l, acc, ds, h => by
    unfold dirsGo at h
    split at h
    · have := dirsGo_len l _ ds h; simp at this ⊢; omega
    · cases h
theorem ctlE_err {s : List UInt8} {n : Int} (h : splitE s = .error n) : ctlE s = .error n := by unfold ctlE; rw [h]
theorem ctlE_none {s : List UInt8} {l : List (List UInt8)} (h : splitE s = .ok l) (h2 : dirsGo l [] = none) : ctlE s = .error 3 := by unfold ctlE; rw [h]; simp only [h2]
theorem ctlE_some {s : List UInt8} {l : List (List UInt8)} {ds : List Dir'} (h : splitE s = .ok l) (h2 : dirsGo l [] = some ds) : ctlE s = .ok ds := by unfold ctlE; rw [h]; simp only [h2]
theorem trim_len (l : List UInt8) : (trim l).length ≤ l.length := by
  unfold trim trimR
  rw [List.length_reverse]
  have h1 := (List.dropWhile_sublist isB (l := (l.dropWhile isB).reverse)).length_le
  have h2 := (List.dropWhile_sublist isB (l := l)).length_le
  rw [List.length_reverse] at h1
  omega
theorem partsR_len (sg : UInt8) : ∀ (l : List UInt8) (q cn : Bool) (acc : List (List UInt8)) (cur : List UInt8), ∀ t ∈ (partsR sg l q cn acc cur).1, t ∈ acc ∨ t.length ≤ l.length + cur.length
  | [], q, cn, acc, cur, t, ht => by
    simp [partsR] at ht
    rcases ht with h | rfl
    · exact .inl h
    · exact .inr (by simp)
  | c :: r, q, cn, acc, cur, t, ht => by
    unfold partsR at ht
    have hc : (cur ++ [c]).length = cur.length + 1 := by simp
    split at ht
    · rcases partsR_len sg r q cn _ _ t ht with h | h
      · rcases List.mem_append.1 h with h | h
        · exact .inl h
        · simp at h; subst h; exact .inr (by simp)
      · exact .inr (by simp at h ⊢; omega)
    · split at ht
      · rcases partsR_len sg r _ _ _ _ t ht with h | h
        · exact .inl h
        · exact .inr (by rw [hc] at h; simp; omega)
      · split at ht
        · rcases partsR_len sg r _ _ _ _ t ht with h | h
          · exact .inl h
          · exact .inr (by rw [hc] at h; simp; omega)
        · split at ht
          · rcases partsR_len sg r _ _ _ _ t ht with h | h
            · exact .inl h
            · exact .inr (by rw [hc] at h; simp; omega)
          · rcases partsR_len sg r _ _ _ _ t ht with h | h
            · exact .inl h
            · exact .inr (by rw [hc] at h; simp; omega)
theorem cutE_text {sg : UInt8} (h1 : isQ sg = false) (h2 : isBS sg = false) {s : List UInt8} {l : List (List UInt8)} (h : cutE sg s = .ok l) : ∀ t ∈ l, t.length ≤ s.length := by
  rw [cutE_parts sg h1 h2] at h
  split at h
  · injection h with h
    subst h
    intro t ht
    obtain ⟨u, hu, rfl⟩ := List.mem_map.1 ht
    have h3 := trim_len u
    rcases partsR_len sg s false false [] [] u hu with h4 | h4
    · simp at h4
    · simp at h4; omega
  · cases h
theorem splitE_text {s : List UInt8} {l : List (List UInt8)} (h : splitE s = .ok l) : ∀ t ∈ l, t.length ≤ 1000 := by
  unfold splitE at h
  split at h
  · cases h
  · rename_i hs
    split at h
    · cases h
    · rename_i o ho
      split at h
      · cases h
      · injection h with h
        subst h
        intro t ht
        have := cutE_text rfl rfl ho t (List.mem_filter.1 ht).1
        omega
/-- How many texts there are. -/
theorem splitE_ok {s : List UInt8} {l : List (List UInt8)} (h : splitE s = .ok l) : l.length ≤ 20 := by
  unfold splitE at h
  split at h
  · cases h
  · split at h
    · cases h
    · split at h
      · cases h
      · injection h with h; subst h; omega
end Go.Larder
