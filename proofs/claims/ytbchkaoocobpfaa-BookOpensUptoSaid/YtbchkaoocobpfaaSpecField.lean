/- Lists of fields: set, dropped. No program in sight. -/
import Derived.Test.YtbchkaoocobpfaaSpecLow
namespace Go.Larder
set_option linter.unusedVariables false
set_option linter.unusedSimpArgs false
abbrev Fld := List UInt8 × List UInt8

def hits (nm : List UInt8) (f : Fld) : Bool := lowL f.1 == nm
/-- The place of the first of that name (-1: none), counted from k on. -/
def ixFrom (nm : List UInt8) : Nat → List Fld → Int
  | _, [] => -1
  | k, f :: l => if hits nm f then (k : Int) else ixFrom nm (k + 1) l
theorem ixFrom_ge (nm : List UInt8) : ∀ (l : List Fld) (k : Nat), ixFrom nm k l = -1 ∨ ∃ m : Nat, ixFrom nm k l = m ∧ k ≤ m ∧ m < k + l.length ∧ (l.take (m - k)).all (fun f => !hits nm f) = true ∧ (∃ f, l[m - k]? = some f ∧ hits nm f = true)
  | [], k => .inl rfl
  | f :: l, k => by
    unfold ixFrom
    by_cases h : hits nm f = true
    · rw [if_pos h]
      exact .inr ⟨k, rfl, by omega, by simp, by simp, f, by simp, h⟩
    · rw [if_neg h]
      rcases ixFrom_ge nm l (k + 1) with h1 | ⟨m, h1, h2, h3, h4, g, h5, h6⟩
      · exact .inl h1
      · refine .inr ⟨m, h1, by omega, by simp; omega, ?_, g, ?_, h6⟩
        · rw [show m - k = (m - (k + 1)) + 1 from by omega, List.take_succ_cons, List.all_cons, h4]
          simpa using h
        · rw [show m - k = (m - (k + 1)) + 1 from by omega, List.getElem?_cons_succ]
          exact h5
theorem ixFrom_none {nm : List UInt8} : ∀ {l : List Fld} {k : Nat}, ixFrom nm k l = -1 → l.all (fun f => !hits nm f) = true
  | [], _, _ => rfl
  | f :: l, k, h => by
    unfold ixFrom at h
    by_cases h1 : hits nm f = true
    · rw [if_pos h1] at h; omega
    · rw [if_neg h1] at h
      rw [List.all_cons, ixFrom_none h]
      simpa using h1

def dropL (nm : List UInt8) (l : List Fld) : List Fld := l.filter fun f => !hits nm f
theorem dropL_all {nm : List UInt8} {l : List Fld} (h : l.all (fun f => !hits nm f) = true) : dropL nm l = l := by
  unfold dropL
  exact List.filter_eq_self.2 (by simpa using h)

/-- The reference's way. -/
def setGo (nm name value : List UInt8) : List Fld → List Fld → Bool → List Fld
  | [], out, is => if is then out else out ++ [(name, value)]
  | f :: l, out, is => if hits nm f then (if is then setGo nm name value l out is else setGo nm name value l (out ++ [(name, value)]) true) else setGo nm name value l (out ++ [f]) is
def setR (name value : List UInt8) (l : List Fld) : List Fld := setGo (lowL name) name value l [] false
theorem setGo_true (nm name value : List UInt8) : ∀ (l out : List Fld), setGo nm name value l out true = out ++ dropL nm l
  | [], out => by simp [setGo, dropL]
  | f :: l, out => by
    unfold setGo
    by_cases h : hits nm f = true
    · rw [if_pos h, if_pos rfl, setGo_true nm name value l out]; simp [dropL, h]
    · rw [if_neg h, setGo_true nm name value l _]; simp [dropL, h]
theorem setGo_false (nm name value : List UInt8) : ∀ (l out : List Fld), l.all (fun f => !hits nm f) = true → setGo nm name value l out false = out ++ l ++ [(name, value)]
  | [], out, _ => by simp [setGo]
  | f :: l, out, h => by
    rw [List.all_cons, Bool.and_eq_true] at h
    unfold setGo
    rw [if_neg (by simpa using h.1), setGo_false nm name value l _ h.2]
    simp
theorem setGo_skip (nm name value : List UInt8) : ∀ (p l out : List Fld), p.all (fun f => !hits nm f) = true → setGo nm name value (p ++ l) out false = setGo nm name value l (out ++ p) false
  | [], l, out, _ => by simp
  | f :: p, l, out, h => by
    rw [List.all_cons, Bool.and_eq_true] at h
    rw [List.cons_append]
    conv => lhs; unfold setGo
    rw [if_neg (by simpa using h.1), setGo_skip nm name value p l _ h.2]
    simp
/-- The program's way. -/
theorem setR_none {name value : List UInt8} {l : List Fld} (h : ixFrom (lowL name) 0 l = -1) : setR name value l = l ++ [(name, value)] := by
  unfold setR
  rw [setGo_false _ _ _ l [] (ixFrom_none h)]
  simp
theorem setR_some {name value : List UInt8} {l : List Fld} {m : Nat} (h : ixFrom (lowL name) 0 l = m) : setR name value l = l.take m ++ [(name, value)] ++ dropL (lowL name) (l.drop (m + 1)) := by
  rcases ixFrom_ge (lowL name) l 0 with h1 | ⟨m', h1, h2, h3, h4, f, h5, h6⟩
  · omega
  · obtain rfl : m' = m := by omega
    have hm : m' < l.length := by omega
    have hsplit : l = l.take m' ++ (f :: l.drop (m' + 1)) := by
      have h7 : l[m']? = some f := by simpa using h5
      have h8 := List.drop_eq_getElem_cons hm
      rw [(List.getElem?_eq_some_iff.1 h7).2] at h8
      rw [← h8, List.take_append_drop]
    unfold setR
    conv => lhs; rw [hsplit]
    rw [setGo_skip _ _ _ _ _ _ (by simpa using h4)]
    conv => lhs; unfold setGo
    rw [if_pos h6, if_neg (by simp), setGo_true]
    simp
end Go.Larder
