/- A text appended to bytes, at a step of a region that draws. -/
import Derived.Test.YtbchkaoocobpfaaDoorBase
import Derived.Test.YtbchkaoocobpfaaDoorApp
import Derived.Lib.AppendStr
namespace Go.Larder
open Go.RowKit
set_option linter.unusedVariables false
set_option linter.unusedSimpArgs false
theorem run_app_str {P : Program} {w : World} {t tS ty e : TypeId} {base c : Nat} {A : Option Addr} {l : List UInt8}
    (ht : P.underlying t = some (.slice e)) (hS : P.underlying tS = some .string) (hinfo : (P.info? e).map (fun i => (i.zero, i.size, i.bytes)) = some (some (.int .u8 0), 1, 1))
    (hown : OwnL encB w base e A c l) (m : List UInt8) (hb : l.length + m.length ≤ 140737488355328) (hbase : base ≤ w.heap.size) :
    ∃ A' c' w', (Builtin.append_ #[t, tS] ty #[.slice A l.length c, S m]).run P w = .ok (.slice A' (l.length + m.length) c') w' ∧ OwnL encB w' base e A' c' (l ++ m) ∧ Below base w w' := by
  obtain ⟨i, hi, hz, hz1, hz2⟩ := info_parts hinfo
  have e1 : (⟨m.toArray⟩ : ByteArray).size = m.length := ba_size m
  obtain ⟨v', w', hrun, h1, h2, _⟩ := Lib.run_append_own_string (P := P) w base t tS ty e i ht hS hi hz hz1 hz2 _ l.length _ hown ⟨m.toArray⟩ (by rw [e1]; simp only [maxLen]; omega) (by rw [e1]; exact hb) hbase
  rw [e1] at h1
  obtain ⟨A', cap, rfl⟩ : ∃ A' cap, v' = .slice A' (l.length + m.length) cap := by
    rcases h1.2 with ⟨h, h0⟩ | ⟨g, cap, _, rfl, _⟩
    · exact ⟨none, 0, by rw [h, h0]⟩
    · exact ⟨_, cap, rfl⟩
  have hl : (l ++ m).length = l.length + m.length := by simp
  exact ⟨A', cap, w', hrun, (by
    unfold OwnL
    rw [hl, flat_B, List.map_append, ← flat_B]
    exact h1), ⟨h2.os, h2.tape, h2.output, h2.size, fun j hj => h2.block j (by omega) (by
      intro hne
      cases A with
      | none => simp [Value.ownBlock] at hne
      | some g' =>
        have := (OwnL.lt hown g' rfl).1
        simp [Value.ownBlock] at hne
        omega)⟩⟩
/-- .. at a step of a region that draws. -/
theorem step_app_str {P : Program} {w : World} {ops : Array Oper} {o : Oper} {a : Act} {K : Act → World → Prop} {Q : Exit → Act → World → Prop} {Z : Prop} {t tS e : TypeId} {base c : Nat} {A : Option Addr} {l : List UInt8}
    (ht : P.underlying t = some (.slice e)) (hS : P.underlying tS = some .string) (hinfo : (P.info? e).map (fun i => (i.zero, i.size, i.bytes)) = some (some (.int .u8 0), 1, 1)) (hgd : o.guard = none) (s x : Operand)
    (ho : o.op = .call { callee := .builtin .append, args := #[s, x], argTypes := #[t, tS] })
    (hs : a.eval s = .slice A l.length c) (hown : OwnL encB w base e A c l) (m : List UInt8) (hx : a.eval x = S m) (hb : l.length + m.length ≤ 140737488355328) (hbase : base ≤ w.heap.size)
    (k : ∀ A' c' w', OwnL encB w' base e A' c' (l ++ m) → Below base w w' → K (a.put o.dst (.slice A' (l.length + m.length) c')) w') :
    if Region.wanted o (yielded ops a.tmps) = true then Oper.wp P o a w K Q else Z := by
  have hw : Region.wanted o (yielded ops a.tmps) = true := by simp [Region.wanted, hgd]
  rw [if_pos hw]
  obtain ⟨A', cap, w', hrun, h1, h2⟩ := run_app_str (ty := o.type) ht hS hinfo hown m hb hbase
  have hk := k A' cap w' h1 h2
  unfold Oper.wp execOp
  simp only [ho, resolve, invoke, builtin, Sem.run_bind, Sem.run_pure, Result.andThen_ok, List.map_toArray, List.map_cons, List.map_nil, hs, hx, hrun]
  exact hk
end Go.Larder
