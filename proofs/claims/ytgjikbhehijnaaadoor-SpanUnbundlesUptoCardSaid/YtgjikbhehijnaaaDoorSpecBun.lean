/- Parts of a body in one text. No program in sight. -/
import Derived.Test.YtgjikbhehijnaaaDoorSpecCt
import Derived.Test.YtgjikbhehijnaaaDoorSpecIs
namespace Go.Larder
set_option linter.unusedSimpArgs false
set_option linter.unusedVariables false
def cutL (s : List UInt8) (a b : Int) : List UInt8 := (s.drop a.toNat).take (b.toNat - a.toNat)
def bunHead (bd : List UInt8) : List UInt8 := [45, 45] ++ bd ++ [13, 10, 67, 111, 110, 116, 101, 110, 116, 45, 82, 97, 110, 103, 101, 58, 32]
def bunPart (bd s : List UInt8) (x : Int × Int) : List UInt8 := bunHead bd ++ ctL x.1 x.2 s.length ++ [13, 10, 13, 10] ++ cutL s x.1 x.2 ++ [13, 10]
def bunGo (bd s : List UInt8) : List (Int × Int) → List UInt8 → Except Int (List UInt8)
  | [], acc => .ok (acc ++ [45, 45] ++ bd ++ [45, 45, 13, 10])
  | x :: l, acc => if ctOK x.1 x.2 s.length = true then bunGo bd s l (acc ++ bunPart bd s x) else .error 1
def bunE (bd s : List UInt8) (l : List (Int × Int)) : Except Int (List UInt8) :=
  if (isTok bd && decide (bd.length ≤ 30)) = true then (if 1 ≤ l.length ∧ l.length ≤ 20 then bunGo bd s l [] else .error 1) else .error 3
theorem cut_len {s : List UInt8} {a b : Int} (h0 : 0 ≤ a) (h1 : a < b) (h2 : b ≤ s.length) : (cutL s a b).length = (b - a).toNat := by
  unfold cutL; rw [List.length_take, List.length_drop]; omega
theorem bunPart_len {bd s : List UInt8} {x : Int × Int} (hb : bd.length ≤ 30) (h : ctOK x.1 x.2 s.length = true) : (bunPart bd s x).length ≤ 100200 := by
  have h1 := ct_len h
  rw [ctOK_iff] at h
  have h2 := cut_len (s := s) h.1 h.2.1 h.2.2.1
  simp only [bunPart, bunHead, List.length_append, List.length_cons, List.length_nil]
  omega
theorem bunGo_no {bd s : List UInt8} {x : Int × Int} {l : List (Int × Int)} {acc : List UInt8} (h : ctOK x.1 x.2 s.length = false) : bunGo bd s (x :: l) acc = .error 1 := by rw [bunGo, if_neg (by simp [h])]
theorem bunGo_yes {bd s : List UInt8} {x : Int × Int} {l : List (Int × Int)} {acc : List UInt8} (h : ctOK x.1 x.2 s.length = true) : bunGo bd s (x :: l) acc = bunGo bd s l (acc ++ bunPart bd s x) := by rw [bunGo, if_pos h]
end Go.Larder
