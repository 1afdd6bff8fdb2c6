/- Fields, parsed. No program in sight. -/
import Derived.Test.YtmhhjmncbclihaaDoorSpecLine
import Derived.Test.YtmhhjmncbclihaaDoorSpecCutOne
namespace Go.Larder
set_option linter.unusedVariables false
set_option linter.unusedSimpArgs false
theorem trim_lenF (l : List UInt8) : (trim l).length ≤ l.length := by
  unfold trim trimR
  rw [List.length_reverse]
  have h1 := (List.dropWhile_sublist isB (l := (l.dropWhile isB).reverse)).length_le
  have h2 := (List.dropWhile_sublist isB (l := l)).length_le
  rw [List.length_reverse] at h1
  omega
def chkF (n v : List UInt8) : Int :=
  if isTok n then (if 30 < n.length ∨ 1000 < v.length then 2 else if trim v = v ∧ v.all isPl = true then 0 else 3) else 3
def fpGo : Nat → List UInt8 → Nat → List (List UInt8 × List UInt8) → Except Int (List (List UInt8 × List UInt8) × Nat)
  | 0, _, _, _ => .error 0
  | n + 1, rest, k, out => match lineE rest 1100 with
    | .error e => .error e
    | .ok l => if l.isEmpty then .ok (out, k + 2) else if out.length = 30 then .error 2 else
      if ((cut1 58 l).2.2 && isTok (cut1 58 l).1) = true then
        (if chkF (cut1 58 l).1 (trim (cut1 58 l).2.1) = 0 then fpGo n (rest.drop (l.length + 2)) (k + l.length + 2) (out ++ [((cut1 58 l).1, trim (cut1 58 l).2.1)]) else .error (chkF (cut1 58 l).1 (trim (cut1 58 l).2.1)))
      else .error 3
def fpE (s : List UInt8) : Except Int (List (List UInt8 × List UInt8) × Nat) := fpGo (s.length + 1) s 0 []
section
variable {m k : Nat} {rest l : List UInt8} {out : List (List UInt8 × List UInt8)}
theorem fp_err {e : Int} (h : lineE rest 1100 = .error e) : fpGo (m + 1) rest k out = .error e := by
  unfold fpGo; rw [h]
theorem fp_end (h : lineE rest 1100 = .ok []) : fpGo (m + 1) rest k out = .ok (out, k + 2) := by
  unfold fpGo; rw [h]; rfl
theorem fp_full (h : lineE rest 1100 = .ok l) (hl : l.isEmpty = false) (ho : out.length = 30) : fpGo (m + 1) rest k out = .error 2 := by
  unfold fpGo; rw [h]; simp only; rw [hl, if_neg (by simp), if_pos ho]
theorem fp_syn (h : lineE rest 1100 = .ok l) (hl : l.isEmpty = false) (ho : out.length ≠ 30) (hc : ((cut1 58 l).2.2 && isTok (cut1 58 l).1) = false) : fpGo (m + 1) rest k out = .error 3 := by
  unfold fpGo; rw [h]; simp only; rw [hl, if_neg (by simp), if_neg ho, hc]; rfl
theorem fp_chk (h : lineE rest 1100 = .ok l) (hl : l.isEmpty = false) (ho : out.length ≠ 30) (hc : ((cut1 58 l).2.2 && isTok (cut1 58 l).1) = true) (hk : ¬ chkF (cut1 58 l).1 (trim (cut1 58 l).2.1) = 0) :
    fpGo (m + 1) rest k out = .error (chkF (cut1 58 l).1 (trim (cut1 58 l).2.1)) := by
  rw [fpGo]
  simp only [h, hl, Bool.false_eq_true, if_false, if_neg ho, hc, if_true, if_neg hk]
theorem fp_step (h : lineE rest 1100 = .ok l) (hl : l.isEmpty = false) (ho : out.length ≠ 30) (hc : ((cut1 58 l).2.2 && isTok (cut1 58 l).1) = true) (hk : chkF (cut1 58 l).1 (trim (cut1 58 l).2.1) = 0) :
    fpGo (m + 1) rest k out = fpGo m (rest.drop (l.length + 2)) (k + l.length + 2) (out ++ [((cut1 58 l).1, trim (cut1 58 l).2.1)]) := by
  conv => lhs; rw [fpGo]
  simp only [h, hl, Bool.false_eq_true, if_false, if_neg ho, hc, if_true, if_pos hk]
end
end Go.Larder
