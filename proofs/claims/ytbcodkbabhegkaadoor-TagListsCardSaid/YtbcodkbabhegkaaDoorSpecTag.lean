/- Entity tags. No program in sight. -/
import Derived.Test.YtbcodkbabhegkaaDoorSpecTok
import Derived.Test.YtbcodkbabhegkaaDoorSpecCutOne
import Derived.Lib.Strings
import Derived.Lib.IndexAny
namespace Go.Larder
set_option linter.unusedSimpArgs false
set_option linter.unusedVariables false

def isTagB (c : UInt8) : Bool := (c.toNat : Int) == 33 || (decide (35 ≤ (c.toNat : Int)) && decide ((c.toNat : Int) ≤ 126))
def wkL : List UInt8 := [87, 47]
def tagL (wk : Bool) (t : List UInt8) : List UInt8 := (if wk then wkL else []) ++ 34 :: (t ++ [34])
def tagOK (t : List UInt8) : Bool := decide (t.length ≤ 100) && t.all isTagB
def tagE (wk : Bool) (t : List UInt8) : Except Int (List UInt8) := if 100 < t.length then .error 2 else if t.all isTagB = true then .ok (tagL wk t) else .error 3
theorem tagE_ok {wk : Bool} {t : List UInt8} (h : tagOK t = true) : tagE wk t = .ok (tagL wk t) := by
  unfold tagOK at h
  rw [Bool.and_eq_true, decide_eq_true_eq] at h
  unfold tagE
  rw [if_neg (by omega), if_pos h.2]
theorem tagE_bad {wk : Bool} {t : List UInt8} (h : tagOK t = false) : ∃ n, tagE wk t = .error n ∧ (n == 0) = false := by
  unfold tagE
  by_cases h1 : 100 < t.length
  · rw [if_pos h1]; exact ⟨2, rfl, rfl⟩
  · rw [if_neg h1]
    cases h2 : t.all isTagB
    · rw [if_neg (by simp)]; exact ⟨3, rfl, rfl⟩
    · unfold tagOK at h; rw [h2] at h; simp at h; omega
/-- A tag at a text's head, and what stands behind it. -/
def firstE (s : List UInt8) : Option (Bool × List UInt8 × List UInt8) :=
  let s1 := Lib.trimPrefix s wkL
  let c := cut1 34 (Lib.trimPrefix s1 [34])
  if (Lib.hasPrefix s1 [34] && c.2.2 && tagOK c.1) = true then some (Lib.hasPrefix s wkL, c.1, c.2.1) else none
def parseT (s : List UInt8) : Option (Bool × List UInt8) := match firstE s with
  | some (wk, t, r) => if r.isEmpty then some (wk, t) else none
  | none => none
def midL (r : List UInt8) : List UInt8 := if 1 < r.length then (r.drop 1).take (r.length - 1 - 1) else []
def parseTR (s : List UInt8) : Option (Bool × List UInt8) :=
  if (tagOK (midL (Lib.trimPrefix s wkL)) && (tagL (Lib.hasPrefix s wkL) (midL (Lib.trimPrefix s wkL)) == s)) = true then some (Lib.hasPrefix s wkL, midL (Lib.trimPrefix s wkL)) else none
theorem tagB_no34 {t : List UInt8} (h : t.all isTagB = true) : ∀ x ∈ t, x ≠ 34 := by
  intro x hx e
  subst e
  have := List.all_eq_true.1 h _ hx
  revert this
  decide
theorem tagOK_parts {t : List UInt8} (h : tagOK t = true) : t.length ≤ 100 ∧ t.all isTagB = true := by
  unfold tagOK at h
  rw [Bool.and_eq_true, decide_eq_true_eq] at h
  exact h
theorem pre_wk (r : List UInt8) : Lib.hasPrefix (wkL ++ r) wkL = true := by simp [Lib.hasPrefix, wkL, List.isPrefixOf]
theorem pre_q (r : List UInt8) : Lib.hasPrefix (34 :: r) [34] = true := by simp [Lib.hasPrefix, List.isPrefixOf]
theorem pre_wk_q (r : List UInt8) : Lib.hasPrefix (34 :: r) wkL = false := by simp [Lib.hasPrefix, wkL, List.isPrefixOf]
theorem pre_app {s p : List UInt8} (h : Lib.hasPrefix s p = true) : s = p ++ Lib.trimPrefix s p := by
  unfold Lib.trimPrefix
  rw [if_pos h]
  unfold Lib.hasPrefix at h
  obtain ⟨r, rfl⟩ := List.isPrefixOf_iff_prefix.1 h
  simp
theorem trim_wk (r : List UInt8) : Lib.trimPrefix (wkL ++ r) wkL = r := by
  unfold Lib.trimPrefix; rw [pre_wk]; simp
theorem trim_q (r : List UInt8) : Lib.trimPrefix (34 :: r) [34] = r := by
  unfold Lib.trimPrefix; rw [pre_q]; simp
theorem trim_no {s p : List UInt8} (h : Lib.hasPrefix s p = false) : Lib.trimPrefix s p = s := by unfold Lib.trimPrefix; rw [h]; rfl
theorem tagL_pre (wk : Bool) (t : List UInt8) : Lib.hasPrefix (tagL wk t) wkL = wk ∧ Lib.trimPrefix (tagL wk t) wkL = 34 :: (t ++ [34]) := by
  cases wk
  · have : tagL false t = 34 :: (t ++ [34]) := rfl
    rw [this]
    exact ⟨pre_wk_q _, trim_no (pre_wk_q _)⟩
  · have : tagL true t = wkL ++ 34 :: (t ++ [34]) := rfl
    rw [this]
    exact ⟨pre_wk _, trim_wk _⟩
theorem mid_of_q (t : List UInt8) : midL (34 :: (t ++ [34])) = t := by
  unfold midL
  rw [if_pos (by simp)]
  simp
theorem firstE_tag (wk : Bool) (t r : List UInt8) (h : tagOK t = true) : firstE (tagL wk t ++ r) = some (wk, t, r) := by
  have e1 : Lib.hasPrefix (tagL wk t ++ r) wkL = wk ∧ Lib.trimPrefix (tagL wk t ++ r) wkL = 34 :: (t ++ 34 :: r) := by
    cases wk
    · have : tagL false t ++ r = 34 :: (t ++ 34 :: r) := by simp [tagL]
      rw [this]
      exact ⟨pre_wk_q _, trim_no (pre_wk_q _)⟩
    · have : tagL true t ++ r = wkL ++ 34 :: (t ++ 34 :: r) := by simp [tagL]
      rw [this]
      exact ⟨pre_wk _, trim_wk _⟩
  unfold firstE
  rw [e1.1, e1.2]
  simp only
  rw [pre_q, trim_q, cut1_app _ (tagB_no34 (tagOK_parts h).2)]
  simp [h]
theorem firstE_some {s : List UInt8} {wk : Bool} {t r : List UInt8} (h : firstE s = some (wk, t, r)) : s = tagL wk t ++ r ∧ tagOK t = true := by
  unfold firstE at h
  simp only at h
  split at h
  · next hc =>
    rw [Bool.and_eq_true, Bool.and_eq_true] at hc
    obtain ⟨⟨h1, h2⟩, h3⟩ := hc
    injection h with h
    injection h with ha hb
    injection hb with hb hc
    obtain ⟨h4, _⟩ := cut1_true h2
    rw [hb, hc] at h4
    rw [hb] at h3
    have h5 := pre_app h1
    rw [h4] at h5
    refine ⟨?_, h3⟩
    cases hw : Lib.hasPrefix s wkL
    · rw [trim_no hw] at h5
      rw [hw] at ha
      subst ha
      rw [h5]; simp [tagL]
    · have h6 := pre_app hw
      rw [hw] at ha
      subst ha
      rw [h5] at h6
      rw [h6]
      simp [tagL]
  · cases h
theorem parseT_eq (s : List UInt8) : parseT s = parseTR s := by
  unfold parseTR
  by_cases h : (tagOK (midL (Lib.trimPrefix s wkL)) && (tagL (Lib.hasPrefix s wkL) (midL (Lib.trimPrefix s wkL)) == s)) = true
  · rw [if_pos h]
    rw [Bool.and_eq_true, beq_iff_eq] at h
    have := firstE_tag (Lib.hasPrefix s wkL) (midL (Lib.trimPrefix s wkL)) [] h.1
    rw [List.append_nil, h.2] at this
    unfold parseT
    rw [this]
    rfl
  · rw [if_neg h]
    unfold parseT
    cases hf : firstE s with
    | none => rfl
    | some x =>
      obtain ⟨wk, t, r⟩ := x
      simp only
      cases r with
      | nil =>
        exfalso
        apply h
        obtain ⟨h1, h2⟩ := firstE_some hf
        rw [List.append_nil] at h1
        have h3 := tagL_pre wk t
        rw [← h1] at h3
        rw [h3.1, h3.2, mid_of_q, h2, ← h1]
        simp
      | cons a r => rfl
theorem tagB_nat : ∀ n : Fin 256, isTagB (UInt8.ofNat n.val) = (isPl (UInt8.ofNat n.val) && !([32, 9, 34] : List UInt8).contains (UInt8.ofNat n.val)) := by decide +kernel
theorem tagB_eq (c : UInt8) : isTagB c = (isPl c && !([32, 9, 34] : List UInt8).contains c) := by
  have := tagB_nat ⟨c.toNat, c.toNat_lt⟩
  simpa using this
theorem trimPre_len (s p : List UInt8) : (Lib.trimPrefix s p).length ≤ s.length := Lib.trimPrefix_le s p
end Go.Larder
