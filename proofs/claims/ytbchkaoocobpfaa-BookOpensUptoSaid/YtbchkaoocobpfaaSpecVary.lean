/- Names that a response varies by. No program in sight. -/
import Derived.Test.YtbchkaoocobpfaaSpecPol
import Derived.Test.YtbchkaoocobpfaaSpecIs
import Derived.Sort.KeysCollected
import Derived.Maps.Views
import Derived.Maps.Range
namespace Go.Larder
open Go.RowKit
set_option linter.unusedVariables false
set_option linter.unusedSimpArgs false
def varyN : List UInt8 := [86, 97, 114, 121]
def addN (out : List (List UInt8)) (p : List UInt8) : List (List UInt8) := if p == [42] then out else if out.any (fun y => lowL p == y) then out else out ++ [lowL p]
def namesL (ps : List (List UInt8)) : List (List UInt8) := ps.foldl addN []
def sortL (l : List (List UInt8)) : List (List UInt8) := l.mergeSort leB
theorem addN_mem {out : List (List UInt8)} {p x : List UInt8} : x ∈ addN out p ↔ x ∈ out ∨ ((p == [42]) = false ∧ x = lowL p) := by
  unfold addN
  cases h : (p == [42])
  · simp only [Bool.false_eq_true, if_false, true_and]
    by_cases h2 : (out.any fun y => lowL p == y) = true
    · rw [if_pos h2]
      constructor
      · exact .inl
      · rintro (h' | rfl)
        · exact h'
        · obtain ⟨y, hy, he⟩ := List.any_eq_true.1 h2
          rw [eq_of_beq he]; exact hy
    · rw [if_neg h2]; simp
  · simp
theorem addN_nodup {out : List (List UInt8)} {p : List UInt8} (h : out.Nodup) : (addN out p).Nodup := by
  unfold addN
  cases hp : (p == [42])
  · simp only [Bool.false_eq_true, if_false]
    by_cases h2 : (out.any fun y => lowL p == y) = true
    · rw [if_pos h2]; exact h
    · rw [if_neg h2]
      refine List.nodup_append.2 ⟨h, by simp, fun a ha b hb => ?_⟩
      simp only [List.mem_singleton] at hb
      subst hb
      rintro rfl
      exact h2 (List.any_eq_true.2 ⟨_, ha, by simp⟩)
  · simpa using h
theorem addN_len {out : List (List UInt8)} {p : List UInt8} : (addN out p).length ≤ out.length + 1 := by
  unfold addN
  split
  · omega
  · split
    · omega
    · simp
theorem names_step {ps : List (List UInt8)} {k : Nat} {p : List UInt8} (h : ps[k]? = some p) : namesL (ps.take (k + 1)) = addN (namesL (ps.take k)) p := by
  unfold namesL
  rw [List.take_add_one, h, List.foldl_append]
  rfl
theorem names_nodup (ps : List (List UInt8)) : (namesL ps).Nodup := by
  unfold namesL
  suffices ∀ (l out : List (List UInt8)), out.Nodup → (l.foldl addN out).Nodup from this ps [] List.nodup_nil
  intro l
  induction l with
  | nil => exact fun _ h => h
  | cons a l ih => exact fun out h => ih _ (addN_nodup h)
theorem names_len (ps : List (List UInt8)) : (namesL ps).length ≤ ps.length := by
  unfold namesL
  suffices ∀ (l out : List (List UInt8)), (l.foldl addN out).length ≤ out.length + l.length from by simpa using this ps []
  intro l
  induction l with
  | nil => simp
  | cons a l ih =>
    intro out
    have h1 := ih (addN out a)
    have h2 := addN_len (out := out) (p := a)
    simp only [List.foldl_cons, List.length_cons]
    omega
theorem names_memlen (ps : List (List UInt8)) (B : Nat) (hB : ∀ p ∈ ps, p.length ≤ B) : ∀ x ∈ namesL ps, x.length ≤ B := by
  unfold namesL
  suffices ∀ (l out : List (List UInt8)), (∀ x ∈ out, x.length ≤ B) → (∀ p ∈ l, p.length ≤ B) → ∀ x ∈ l.foldl addN out, x.length ≤ B from this ps [] (by simp) hB
  intro l
  induction l with
  | nil => exact fun _ h _ => h
  | cons a l ih =>
    intro out h hl
    refine ih _ (fun x hx => ?_) (fun p hp => hl p (by simp [hp]))
    rcases addN_mem.1 hx with hx | ⟨_, rfl⟩
    · exact h x hx
    · rw [lowL_len]; exact hl a (by simp)
theorem sortL_perm (l : List (List UInt8)) : (sortL l).Perm l := List.mergeSort_perm l leB
theorem sortL_len (l : List (List UInt8)) : (sortL l).length = l.length := (sortL_perm l).length_eq
theorem leB_trans : ∀ a b c : List UInt8, leB a b = true → leB b c = true → leB a c = true := fun a b c h1 h2 => by simp only [leB, decide_eq_true_eq] at *; exact List.le_trans h1 h2
theorem leB_total : ∀ a b : List UInt8, (leB a b || leB b a) = true := fun a b => by simp only [leB, Bool.or_eq_true, decide_eq_true_eq]; exact List.le_total a b
theorem sortL_pair (l : List (List UInt8)) : (sortL l).Pairwise fun a b => leB a b = true := List.pairwise_mergeSort leB_trans leB_total l
theorem sorted_eq {l m : List (List UInt8)} (hp : l.Perm m) (h1 : l.Pairwise fun a b => leB a b = true) (h2 : m.Pairwise fun a b => leB a b = true) : l = m := by
  refine List.Perm.eq_of_pairwise (le := fun a b => leB a b = true) (fun a b _ _ h1 h2 => ?_) h1 h2 hp
  simp only [leB, decide_eq_true_eq] at h1 h2
  exact List.le_antisymm h1 h2
/-- the reference's way: one laid in after the other -/
def insAt (k : Nat) (s : List UInt8) (out : List (List UInt8)) : List (List UInt8) := out.take k ++ s :: out.drop k
def posOf (s : List UInt8) : List (List UInt8) → Nat
  | [] => 0
  | y :: l => if leB y s then posOf s l + 1 else 0
theorem posOf_le (s : List UInt8) : ∀ l, posOf s l ≤ l.length
  | [] => by simp [posOf]
  | y :: l => by
    have := posOf_le s l
    unfold posOf
    split <;> simp <;> omega
theorem ins_cons_yes {s y : List UInt8} {l : List (List UInt8)} (h : leB y s = true) : insAt (posOf s (y :: l)) s (y :: l) = y :: insAt (posOf s l) s l := by
  rw [posOf, if_pos h]; rfl
theorem ins_cons_no {s y : List UInt8} {l : List (List UInt8)} (h : ¬ leB y s = true) : insAt (posOf s (y :: l)) s (y :: l) = s :: y :: l := by
  rw [posOf, if_neg h]; rfl
theorem ins_perm (s : List UInt8) : ∀ l, (insAt (posOf s l) s l).Perm (s :: l)
  | [] => by simp [insAt, posOf]
  | y :: l => by
    by_cases h : leB y s = true
    · rw [ins_cons_yes h]
      exact ((ins_perm s l).cons y).trans (List.Perm.swap s y l)
    · rw [ins_cons_no h]
theorem ins_pair (s : List UInt8) : ∀ l : List (List UInt8), l.Pairwise (fun a b => leB a b = true) → (insAt (posOf s l) s l).Pairwise fun a b => leB a b = true
  | [], _ => by simp [insAt, posOf]
  | y :: l, h => by
    obtain ⟨h1, h2⟩ := List.pairwise_cons.1 h
    by_cases hy : leB y s = true
    · rw [ins_cons_yes hy]
      refine List.pairwise_cons.2 ⟨fun z hz => ?_, ins_pair s l h2⟩
      rcases List.mem_cons.1 ((ins_perm s l).mem_iff.1 hz) with rfl | hz
      · exact hy
      · exact h1 z hz
    · rw [ins_cons_no hy]
      have hs : leB s y = true := by
        have := leB_total s y
        simp only [Bool.or_eq_true] at this
        rcases this with h' | h'
        · exact h'
        · exact absurd h' hy
      refine List.pairwise_cons.2 ⟨fun z hz => ?_, h⟩
      rcases List.mem_cons.1 hz with rfl | hz
      · exact hs
      · exact leB_trans _ _ _ hs (h1 z hz)
theorem ins_sort {s : List UInt8} {l m : List (List UInt8)} (h : l = sortL m) : insAt (posOf s l) s l = sortL (m ++ [s]) := by
  subst h
  refine sorted_eq ((ins_perm s _).trans ?_) (ins_pair s _ (sortL_pair m)) (sortL_pair _)
  refine List.Perm.trans ?_ (sortL_perm _).symm
  exact ((sortL_perm m).cons s).trans (List.perm_append_comm (l₁ := [s]) (l₂ := m))
theorem posOf_step {s : List UInt8} : ∀ {l : List (List UInt8)} {k : Nat} {y : List UInt8}, l[k]? = some y → k ≤ posOf s l → leB y s = true → k + 1 ≤ posOf s l
  | [], k, y, h, _, _ => by simp at h
  | z :: l, 0, y, h, _, hy => by
    simp at h; subst h
    rw [posOf, if_pos hy]; omega
  | z :: l, k + 1, y, h, hk, hy => by
    rw [List.getElem?_cons_succ] at h
    rw [posOf] at hk ⊢
    split at hk
    · next hz => rw [if_pos hz]; have := posOf_step (s := s) h (by omega) hy; omega
    · omega
theorem posOf_stop {s : List UInt8} : ∀ {l : List (List UInt8)} {k : Nat} {y : List UInt8}, l[k]? = some y → k ≤ posOf s l → leB y s = false → posOf s l = k
  | [], k, y, h, _, _ => by simp at h
  | z :: l, 0, y, h, _, hy => by
    simp at h; subst h
    rw [posOf, if_neg (by simp [hy])]
  | z :: l, k + 1, y, h, hk, hy => by
    rw [List.getElem?_cons_succ] at h
    rw [posOf] at hk ⊢
    split at hk
    · next hz => rw [if_pos hz]; have := posOf_stop (s := s) h (by omega) hy; omega
    · omega
/-- the map's keys are the names -/
theorem keys_names {H : Type} {es : List (Lit × DataW H)} {ns ss : List (List UInt8)} (hp : es.Pairwise (fun p q => p.1 ≠ q.1)) (hk : ∀ p ∈ es, ∃ x, p.1 = .string x) (hn : ns.Nodup) (hm : ∀ x, x ∈ ns ↔ Maps.has (.map es) (.string x) = true) (hs : ss.Perm (strKeys (.map es))) : ss.mergeSort leB = sortL ns :=
  mergeSort_of_perm (hs.trans (perm_strKeys hp hk hn hm).symm)
def varyE (s : List UInt8) : Except Int (List (List UInt8) × Bool) := match splitE s with
  | .error n => .error n
  | .ok ps => if ps.all isTok = true then .ok (sortL (namesL ps), ps.any fun p => p == [42]) else .error 3
theorem varyE_err {s : List UInt8} {n : Int} (h : splitE s = .error n) : varyE s = .error n := by unfold varyE; rw [h]
theorem varyE_bad {s : List UInt8} {ps : List (List UInt8)} (h : splitE s = .ok ps) (hb : ps.all isTok = false) : varyE s = .error 3 := by unfold varyE; rw [h]; simp [hb]
theorem varyE_ok {s : List UInt8} {ps : List (List UInt8)} (h : splitE s = .ok ps) (hb : ps.all isTok = true) : varyE s = .ok (sortL (namesL ps), ps.any fun p => p == [42]) := by unfold varyE; rw [h]; simp [hb]
/-- result as three values -/
def flatV : Except Int (List (List UInt8) × Bool) → List (List UInt8) × Bool × Int
  | .error n => ([], false, n)
  | .ok (l, b) => (l, b, 0)
def matchGo (a b : List Fld) (ns : List (List UInt8)) (star : Bool) : Bool := star || ns.any fun n => !((!(valsL (lowL n) a).isEmpty) == (!(valsL (lowL n) b).isEmpty)) || !(Lib.join (valsL (lowL n) a) sepL == Lib.join (valsL (lowL n) b) sepL)
def matchE (l a b : List Fld) : Bool × Int := match varyE (Lib.join (valsL (lowL varyN) l) sepL) with
  | .error n => (false, n)
  | .ok (ns, star) => (!matchGo a b ns star, 0)
theorem allG_bad {α : Type} {p : α → Bool} {l : List α} {k : Nat} {x : α} (h : l[k]? = some x) (hx : p x = false) : l.all p = false := by
  rw [Bool.eq_false_iff]
  intro hl
  rw [List.all_eq_true.1 hl x (List.mem_of_getElem? h)] at hx
  cases hx
theorem allG_step {α : Type} {p : α → Bool} {l : List α} {k : Nat} {x : α} (h : l[k]? = some x) (hl : (l.take k).all p = true) (hx : p x = true) : (l.take (k + 1)).all p = true := by
  rw [List.take_add_one, h, List.all_append, hl]
  simp [hx]
theorem any_step {α : Type} {p : α → Bool} {l : List α} {k : Nat} {x : α} (h : l[k]? = some x) : (l.take (k + 1)).any p = ((l.take k).any p || p x) := by
  rw [List.take_add_one, h, List.any_append]; simp
end Go.Larder
