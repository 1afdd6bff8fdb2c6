/- Directives, printed. No program in sight. -/
import Derived.Test.YtldlbfdfaigkcaaDoorSpecIs
import Derived.Test.YtldlbfdfaigkcaaDoorSpecLow
import Derived.Test.YtldlbfdfaigkcaaDoorSpecTok
import Derived.Test.YtldlbfdfaigkcaaDoorSpecQuo
import Derived.Test.YtldlbfdfaigkcaaDoorSpecSpp
namespace Go.Larder
set_option linter.unusedVariables false
set_option linter.unusedSimpArgs false
abbrev Dr := List UInt8 × Bool × List UInt8
def dirOK (d : Dr) : Bool := isTok d.1 && (d.1 == lowL d.1) && (d.2.1 || d.2.2.isEmpty)
def dirE (d : Dr) : Except Int (List UInt8) :=
  if dirOK d = true then (if d.2.1 = true then (if isTok d.2.2 = true then .ok (d.1 ++ [61] ++ d.2.2) else match quoE d.2.2 with
    | .error e => .error e
    | .ok q => .ok (d.1 ++ [61] ++ q)) else .ok d.1) else .error 3
def cpGo : List Dr → List (List UInt8) → Except Int (List (List UInt8))
  | [], ts => .ok ts
  | d :: l, ts => match dirE d with
    | .error e => .error e
    | .ok t => cpGo l (ts ++ [t])
def cpEnd : Except Int (List (List UInt8)) → Except Int (List UInt8)
  | .error e => .error e
  | .ok ts => if 20 < ts.length ∨ 1000 < (Lib.join ts [44, 32]).length then .error 2 else .ok (Lib.join ts [44, 32])
def cpE (l : List Dr) : Except Int (List UInt8) := cpEnd (cpGo l [])
theorem quo_err {s : List UInt8} {e : Int} (h : quoE s = .error e) : (e == 0) = false := by
  unfold quoE at h
  split at h
  · injection h with h; subst h; rfl
  · split at h
    · cases h
    · injection h with h; subst h; rfl
theorem dir_err {d : Dr} {e : Int} (h : dirE d = .error e) : (e == 0) = false := by
  unfold dirE at h
  split at h
  · split at h
    · split at h
      · cases h
      · split at h
        · next h2 => injection h with h; subst h; exact quo_err h2
        · cases h
    · cases h
  · injection h with h; subst h; rfl
theorem quo_len {s q : List UInt8} (h : quoE s = .ok q) : q.length ≤ 2 * s.length + 2 := by
  unfold quoE at h
  split at h
  · cases h
  · split at h
    · injection h with h
      have := quoL_len s
      subst h
      simp; omega
    · cases h
theorem dir_len {d : Dr} {t : List UInt8} (h : dirE d = .ok t) : t.length ≤ 2 * (d.1.length + d.2.2.length) + 3 := by
  unfold dirE at h
  split at h
  · split at h
    · split at h
      · injection h with h; subst h; simp; omega
      · split at h
        · cases h
        · next h2 => injection h with h; subst h; have := quo_len h2; simp; omega
    · injection h with h; subst h; omega
  · cases h
end Go.Larder
