/- Lists of fields without those that a test strikes. No program in sight. -/
import Derived.Test.YtbchkaoocobpfaaSpecField
import Derived.Test.YtbchkaoocobpfaaSpecGet
import Derived.Test.YtbchkaoocobpfaaSpecCut
namespace Go.Larder
set_option linter.unusedVariables false
set_option linter.unusedSimpArgs false
def hitsN (ns : List (List UInt8)) (f : Fld) : Bool := ns.any fun y => lowL f.1 == y
def ixP (p : Fld → Bool) : Nat → List Fld → Int
  | _, [] => -1
  | k, f :: l => if p f then (k : Int) else ixP p (k + 1) l
def dropP (p : Fld → Bool) (l : List Fld) : List Fld := l.filter fun f => !p f
theorem ixP_ge (p : Fld → Bool) : ∀ (l : List Fld) (k : Nat), ixP p k l = -1 ∨ ∃ m : Nat, ixP p k l = m ∧ k ≤ m ∧ m < k + l.length ∧ (l.take (m - k)).all (fun f => !p f) = true ∧ (∃ f, l[m - k]? = some f ∧ p f = true)
  | [], k => .inl rfl
  | f :: l, k => by
    unfold ixP
    by_cases h : p f = true
    · rw [if_pos h]
      exact .inr ⟨k, rfl, by omega, by simp, by simp, f, by simp, h⟩
    · rw [if_neg h]
      rcases ixP_ge p l (k + 1) with h1 | ⟨m, h1, h2, h3, h4, g, h5, h6⟩
      · exact .inl h1
      · refine .inr ⟨m, h1, by omega, by simp; omega, ?_, g, ?_, h6⟩
        · rw [show m - k = (m - (k + 1)) + 1 from by omega, List.take_succ_cons, List.all_cons, h4]
          simpa using h
        · rw [show m - k = (m - (k + 1)) + 1 from by omega, List.getElem?_cons_succ]
          exact h5
theorem ixP_none {p : Fld → Bool} : ∀ {l : List Fld} {k : Nat}, ixP p k l = -1 → l.all (fun f => !p f) = true
  | [], _, _ => rfl
  | f :: l, k, h => by
    unfold ixP at h
    by_cases h1 : p f = true
    · rw [if_pos h1] at h; omega
    · rw [if_neg h1] at h
      rw [List.all_cons, ixP_none h]
      simpa using h1
theorem dropP_all {p : Fld → Bool} {l : List Fld} (h : l.all (fun f => !p f) = true) : dropP p l = l := by
  unfold dropP
  exact List.filter_eq_self.2 (by simpa using h)
/-- The place of the first of a text in a list of texts. -/
def ixS (x : List UInt8) : Nat → List (List UInt8) → Int
  | _, [] => -1
  | k, y :: l => if x == y then (k : Int) else ixS x (k + 1) l
theorem ixS_any (x : List UInt8) : ∀ (l : List (List UInt8)) (k : Nat), decide (0 ≤ ixS x k l) = l.any (fun y => x == y)
  | [], k => rfl
  | y :: l, k => by
    unfold ixS
    cases h : (x == y)
    · rw [if_neg (by simp), ixS_any x l (k + 1), List.any_cons, h]; simp
    · rw [if_pos rfl, List.any_cons, h]; simp
def connL : List UInt8 := [67, 111, 110, 110, 101, 99, 116, 105, 111, 110]
def hop7 : List (List UInt8) := [[99, 111, 110, 110, 101, 99, 116, 105, 111, 110], [107, 101, 101, 112, 45, 97, 108, 105, 118, 101], [112, 114, 111, 120, 121, 45, 99, 111, 110, 110, 101, 99, 116, 105, 111, 110], [116, 101], [116, 114, 97, 105, 108, 101, 114], [116, 114, 97, 110, 115, 102, 101, 114, 45, 101, 110, 99, 111, 100, 105, 110, 103], [117, 112, 103, 114, 97, 100, 101]]
def partsOf (s : List UInt8) : List (List UInt8) := match splitE s with
  | .error _ => []
  | .ok p => p
def hopsL (l : List Fld) : List (List UInt8) := hop7 ++ (partsOf (Lib.join (valsL (lowL connL) l) sepL)).map lowL
theorem partsOf_err {s : List UInt8} {n : Int} (h : splitE s = .error n) : partsOf s = [] := by unfold partsOf; rw [h]
theorem partsOf_ok {s : List UInt8} {p : List (List UInt8)} (h : splitE s = .ok p) : partsOf s = p := by unfold partsOf; rw [h]
def stripL (l : List Fld) : List Fld := dropP (hitsN (hopsL l)) l
theorem sum_big {l : List Fld} (h : (l.map (fun f => f.1.length + f.2.length + 3)).sum ≤ 1048576) : l.length ≤ 1048576 ∧ ∀ f ∈ l, f.1.length ≤ 1048576 ∧ f.2.length ≤ 1048576 := by
  have h1 : ∀ l : List Fld, l.length ≤ (l.map (fun f => f.1.length + f.2.length + 3)).sum := by
    intro l
    induction l with
    | nil => simp
    | cons f l ih => simp; omega
  have h2 : ∀ l : List Fld, ∀ f ∈ l, f.1.length + f.2.length ≤ (l.map (fun f => f.1.length + f.2.length + 3)).sum := by
    intro l
    induction l with
    | nil => simp
    | cons g l ih =>
      intro f hf
      rcases List.mem_cons.1 hf with rfl | hf
      · simp; omega
      · have := ih f hf; simp; omega
  exact ⟨by have := h1 l; omega, fun f hf => by have := h2 l f hf; omega⟩
theorem join_ok {nm : List UInt8} {l : List Fld} (h : (l.map (fun f => f.1.length + f.2.length + 3)).sum ≤ 1048576) : (Lib.join (valsL nm l) sepL).length ≤ 1048576 := by
  have h1 := join_len_le (valsL nm l)
  have h2 := vals_len_le nm l
  omega
theorem splitE_20 {s : List UInt8} {l : List (List UInt8)} (h : splitE s = .ok l) : l.length ≤ 20 := by
  unfold splitE at h
  split at h
  · cases h
  · split at h
    · cases h
    · split at h
      · cases h
      · injection h with h; subst h; omega
theorem partsOf_len (s : List UInt8) : (partsOf s).length ≤ 20 := by
  unfold partsOf
  split
  · simp
  · rename_i p hp; exact splitE_20 hp
theorem hopsL_len (l : List Fld) : (hopsL l).length ≤ 27 := by
  unfold hopsL
  have := partsOf_len (Lib.join (valsL (lowL connL) l) sepL)
  simp [hop7]; omega
def mets4 : List (List UInt8) := [[80, 85, 84], [80, 79, 83, 84], [68, 69, 76, 69, 84, 69], [80, 65, 84, 67, 72]]
def inval (m : List UInt8) (c : Int) : Bool := (mets4.any fun y => m == y) && decide (200 ≤ c) && decide (c < 400)
end Go.Larder
