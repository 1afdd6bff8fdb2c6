/- Targets' one form: the steps that are dots. No program in sight. -/
import Derived.Test.YtldlbfdfaigkcaaDoorSpecTgt
import Derived.Test.YtldlbfdfaigkcaaDoorSpecSpl
import Derived.Test.YtldlbfdfaigkcaaDoorSpecAny
import Derived.Test.YtldlbfdfaigkcaaDoorSpecCutOne
namespace Go.Larder
open Go.RowKit
set_option linter.unusedVariables false
set_option linter.unusedSimpArgs false
abbrev EB := UInt8 × Bool
def unP : List UInt8 → List EB → Option (List EB)
  | [], acc => some acc
  | c :: r, acc => if c = 37 then
      match r with
      | a :: b :: r' => if 0 ≤ hexv a ∧ 0 ≤ hexv b then unP r' (acc ++ [(byteOf a b, true)]) else none
      | _ => none
    else unP r (acc ++ [(c, false)])
theorem unP_nil (acc : List EB) : unP [] acc = some acc := by unfold unP; rfl
theorem unP_plain {c : UInt8} {r : List UInt8} {acc : List EB} (h : c ≠ 37) : unP (c :: r) acc = unP r (acc ++ [(c, false)]) := by
  conv => lhs; unfold unP
  rw [if_neg h]
theorem unP_esc {a b : UInt8} {r : List UInt8} {acc : List EB} (ha : 0 ≤ hexv a) (hb : 0 ≤ hexv b) : unP (37 :: a :: b :: r) acc = unP r (acc ++ [(byteOf a b, true)]) := by
  conv => lhs; unfold unP
  rw [if_pos rfl]; simp only; rw [if_pos ⟨ha, hb⟩]
theorem unP_bad {a b : UInt8} {r : List UInt8} {acc : List EB} (h : ¬ (0 ≤ hexv a ∧ 0 ≤ hexv b)) : unP (37 :: a :: b :: r) acc = none := by
  conv => lhs; unfold unP
  rw [if_pos rfl]; simp only; rw [if_neg h]
theorem unP_short {r : List UInt8} {acc : List EB} (h : r.length < 2) : unP (37 :: r) acc = none := by
  conv => lhs; unfold unP
  rw [if_pos rfl]
  rcases r with _ | ⟨a, _ | ⟨b, r⟩⟩
  · rfl
  · rfl
  · simp at h; omega
theorem unP_len : ∀ (n : Nat) (l : List UInt8) (acc out : List EB), l.length ≤ n → unP l acc = some out → out.length ≤ acc.length + l.length
  | _, [], acc, out, _, h => by rw [unP_nil] at h; injection h with h; subst h; simp
  | 0, c :: r, acc, out, hn, h => by simp at hn
  | n + 1, c :: r, acc, out, hn, h => by
    simp only [List.length_cons] at hn
    by_cases hc : c = 37
    · subst hc
      rcases r with _ | ⟨a, _ | ⟨b, r⟩⟩
      · rw [unP_short (by simp)] at h; cases h
      · rw [unP_short (by simp)] at h; cases h
      · by_cases hh : 0 ≤ hexv a ∧ 0 ≤ hexv b
        · rw [unP_esc hh.1 hh.2] at h
          simp only [List.length_cons] at hn
          have := unP_len n r _ out (by omega) h
          simp at this ⊢; omega
        · rw [unP_bad hh] at h; cases h
    · rw [unP_plain hc] at h
      have := unP_len n r _ out (by omega) h
      simp at this ⊢; omega
theorem unP_head : ∀ (n : Nat) (l : List UInt8) (acc out : List EB), l.length ≤ n → unP l acc = some out → ∃ t, out = acc ++ t
  | _, [], acc, out, _, h => by rw [unP_nil] at h; injection h with h; subst h; exact ⟨[], by simp⟩
  | 0, c :: r, acc, out, hn, h => by simp at hn
  | n + 1, c :: r, acc, out, hn, h => by
    simp only [List.length_cons] at hn
    by_cases hc : c = 37
    · subst hc
      rcases r with _ | ⟨a, _ | ⟨b, r⟩⟩
      · rw [unP_short (by simp)] at h; cases h
      · rw [unP_short (by simp)] at h; cases h
      · by_cases hh : 0 ≤ hexv a ∧ 0 ≤ hexv b
        · rw [unP_esc hh.1 hh.2] at h
          simp only [List.length_cons] at hn
          obtain ⟨t, ht⟩ := unP_head n r _ out (by omega) h
          exact ⟨_, by rw [ht, List.append_assoc]⟩
        · rw [unP_bad hh] at h; cases h
    · rw [unP_plain hc] at h
      obtain ⟨t, ht⟩ := unP_head n r _ out (by omega) h
      exact ⟨_, by rw [ht, List.append_assoc]⟩
def emP (p : EB) : List UInt8 := if p.2 && !isFreeB p.1 then escL p.1 else [p.1]
def emAll (ps : List EB) : List UInt8 := ps.flatMap emP
theorem emP_len (p : EB) : (emP p).length ≤ 3 := by unfold emP escL; split <;> simp
theorem emAll_len : ∀ ps : List EB, (emAll ps).length ≤ 3 * ps.length
  | [] => by simp [emAll]
  | p :: ps => by
    have := emAll_len ps
    have := emP_len p
    unfold emAll at *
    simp at *; omega
theorem emAll_snoc (ps : List EB) (p : EB) : emAll (ps ++ [p]) = emAll ps ++ emP p := by simp [emAll]
theorem emP_plain (c : UInt8) : emP (c, false) = [c] := by simp [emP]
theorem emP_free {c : UInt8} (h : isFreeB c = true) : emP (c, true) = [c] := by simp [emP, h]
theorem emP_esc {c : UInt8} (h : isFreeB c = false) : emP (c, true) = escL c := by simp [emP, h]
/-- The steps without dots. -/
def nrm : List (List UInt8) → List (List UInt8) → List (List UInt8)
  | out, [] => out
  | out, s :: r =>
    if s = [46, 46] then (if r = [] then out.dropLast ++ [[]] else nrm out.dropLast r)
    else if s = [46] then (if r = [] then out ++ [[]] else nrm out r)
    else nrm (out ++ [s]) r
theorem nrm_nil (out : List (List UInt8)) : nrm out [] = out := by unfold nrm; rfl
theorem nrm_other {out r : List (List UInt8)} {s : List UInt8} (h2 : s ≠ [46, 46]) (h1 : s ≠ [46]) : nrm out (s :: r) = nrm (out ++ [s]) r := by
  conv => lhs; unfold nrm
  rw [if_neg h2, if_neg h1]
theorem nrm_one {out r : List (List UInt8)} (hr : r ≠ []) : nrm out ([46] :: r) = nrm out r := by
  conv => lhs; unfold nrm
  rw [if_neg (by simp), if_pos rfl, if_neg hr]
theorem nrm_one_end {out : List (List UInt8)} : nrm out [[46]] = out ++ [[]] := by
  conv => lhs; unfold nrm
  rw [if_neg (by simp), if_pos rfl, if_pos rfl]
theorem nrm_two {out r : List (List UInt8)} (hr : r ≠ []) : nrm out ([46, 46] :: r) = nrm out.dropLast r := by
  conv => lhs; unfold nrm
  rw [if_pos rfl, if_neg hr]
theorem nrm_two_end {out : List (List UInt8)} : nrm out [[46, 46]] = out.dropLast ++ [[]] := by
  conv => lhs; unfold nrm
  rw [if_pos rfl, if_pos rfl]
theorem nrm_empty {out : List (List UInt8)} : nrm out [[]] = out ++ [[]] := by
  rw [nrm_other (by simp) (by simp), nrm_nil]
/-- what the reference lays behind a step that is dots -/
def restR (r : List (List UInt8)) : List (List UInt8) := if r = [] then [[]] else r
theorem nrm_oneR {out r : List (List UInt8)} : nrm out ([46] :: r) = nrm out (restR r) := by
  unfold restR
  split
  · next h => subst h; rw [nrm_one_end, nrm_empty]
  · next h => exact nrm_one h
theorem nrm_twoR {out r : List (List UInt8)} : nrm out ([46, 46] :: r) = nrm out.dropLast (restR r) := by
  unfold restR
  split
  · next h => subst h; rw [nrm_two_end, nrm_empty]
  · next h => exact nrm_two h
theorem nrm_mem (m : Nat) : ∀ (r out : List (List UInt8)), (∀ x ∈ out, x.length ≤ m) → (∀ x ∈ r, x.length ≤ m) → ∀ x ∈ nrm out r, x.length ≤ m
  | [], out, h, _ => by rw [nrm_nil]; exact h
  | s :: r, out, h, hr => by
    have hd : ∀ x ∈ out.dropLast, x.length ≤ m := fun x hx => h x (List.dropLast_subset _ hx)
    have hr2 : ∀ x ∈ r, x.length ≤ m := fun x hx => hr x (by simp [hx])
    have hs := hr s (by simp)
    unfold nrm
    split
    · split
      · intro x hx
        rcases List.mem_append.1 hx with hx | hx
        · exact hd x hx
        · rw [List.mem_singleton] at hx; subst hx; simp
      · exact nrm_mem m r _ hd hr2
    · split
      · split
        · intro x hx
          rcases List.mem_append.1 hx with hx | hx
          · exact h x hx
          · rw [List.mem_singleton] at hx; subst hx; simp
        · exact nrm_mem m r _ h hr2
      · refine nrm_mem m r _ (fun x hx => ?_) hr2
        rcases List.mem_append.1 hx with hx | hx
        · exact h x hx
        · rw [List.mem_singleton] at hx; subst hx; exact hs
theorem nrm_len : ∀ (r out : List (List UInt8)), (nrm out r).length ≤ out.length + r.length
  | [], out => by rw [nrm_nil]; simp
  | s :: r, out => by
    have h1 := nrm_len r out.dropLast
    have h2 := nrm_len r out
    have h3 := nrm_len r (out ++ [s])
    simp only [List.length_dropLast, List.length_append, List.length_cons, List.length_nil] at *
    unfold nrm
    split
    · split
      · simp; omega
      · omega
    · split
      · split
        · simp
        · omega
      · omega
def isDot (s : List UInt8) : Bool := s == [46] || s == [46, 46]
def wt (s : List UInt8) : Nat := if isDot s then 2 else 1
def wts (l : List (List UInt8)) : Nat := (l.map wt).sum
theorem wts_rest (r : List (List UInt8)) (s : List UInt8) (h : isDot s = true) : wts (restR r) < wts (s :: r) := by
  unfold restR
  have h2 : wt s = 2 := by unfold wt; rw [if_pos h]
  split
  · next hr => subst hr; show wts [[]] < wts [s]; unfold wts; simp only [List.map_cons, List.map_nil, h2]; decide
  · simp [wts, h2]
theorem wts_cons (r : List (List UInt8)) (s : List UInt8) : wts r < wts (s :: r) := by
  have : 0 < wt s := by unfold wt; split <;> omega
  simp [wts]; omega
def okN (c : UInt8) : Bool := decide (33 ≤ c.toNat) && decide (c.toNat ≤ 126) && !(c == 35)
theorem okN_nat : ∀ n : Fin 256, okN (UInt8.ofNat n.val) = (isPl (UInt8.ofNat n.val) && !([32, 35, 9] : List UInt8).contains (UInt8.ofNat n.val)) := by decide +kernel
theorem okN_eq (c : UInt8) : okN c = (isPl c && !([32, 35, 9] : List UInt8).contains c) := by
  have := okN_nat ⟨c.toNat, c.toNat_lt⟩
  simpa using this
theorem okN_all (l : List UInt8) : l.all okN = (l.all isPl && !Lib.containsAny l [32, 35, 9]) := all_plain_but okN_eq l
/-- What is made of the bytes. -/
def nrmB (b : List UInt8) : List UInt8 := [47] ++ Lib.join (nrm [] (spl 47 (cut1 63 b).1.tail)) [47] ++ (if (cut1 63 b).2.2 then 63 :: (cut1 63 b).2.1 else [])
def nrmE (l : List UInt8) : Except Int (List UInt8) := if 200 < l.length then .error 2
  else if Lib.hasPrefix l [47] && l.all okN then (match unP l [] with | none => .error 3 | some ps => .ok (nrmB (emAll ps))) else .error 3
end Go.Larder
