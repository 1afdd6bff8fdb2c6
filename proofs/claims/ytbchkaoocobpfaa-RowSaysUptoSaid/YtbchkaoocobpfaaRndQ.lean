/- A region that draws and only reads, within a round of a range over a function. -/
import Derived.Sort.QuietIn
import Derived.RangeFuncCalls
import Derived.Test.YtbchkaoocobpfaaBase
namespace Go.Larder
open Go Go.RowKit
set_option linter.unusedVariables false
variable {F : Fence} {n : Nat} {P : Program} {ops : Array Oper} {Q : Exit → Act → World → Prop}
def noDef (ops : Array Oper) : Bool := ops.all fun o => match o.op with | .defer _ => false | _ => true
theorem noDef_at (h : noDef ops = true) {i : Nat} {o : Oper} (ho : ops[i]? = some o) : ∀ c, o.op ≠ .defer c := by
  intro c hc
  have hm : o ∈ ops := Array.mem_of_getElem? ho
  have := Array.all_eq_true'.1 h o hm
  rw [hc] at this
  cases this
theorem wpOpsIn_round (hro : F.round = none) (l : Nat) (hd : noDef ops = true) : ∀ (is : List Nat) (a : Act) (w : World), wpOpsIn F n P ops Q is a w → wpOpsIn (F.inRound l) n P ops Q is a w := by
  intro is
  induction is with
  | nil => exact fun a w h => h
  | cons i rest ih =>
    intro a w h
    rw [wpOpsIn_cons] at h ⊢
    unfold wpOpIn at h ⊢
    cases ho : ops[i]? with
    | none => simp only [ho] at h ⊢; exact ih _ _ h
    | some o =>
      simp only [ho] at h ⊢
      have hs := noDef_at hd ho
      split
      · rename_i hw
        rw [if_pos hw] at h
        obtain ⟨h1, h2⟩ := h
        refine ⟨h1, ?_⟩
        rw [Oper.semAt_eq _ _ _ hs] at h2 ⊢
        have hm : o.wpIn F n P a w (wpOpsIn F n P ops Q rest) Q := ⟨h1, by rw [Oper.semAt_eq _ _ _ hs]; exact h2⟩
        have hm2 := Oper.wpIn_mono (fun a w => ih a w) hm
        have := hm2.2
        rw [Oper.semAt_eq _ _ _ hs] at this
        exact this
      · rename_i hw
        rw [if_neg hw] at h
        exact ⟨h.1, ih _ _ h.2⟩
/-- one walk of the lexical order serves every order, within a round -/
theorem wpIn_region_quiet_round {C : World → Prop} {id l : Nat} {a : Act} {w : World} (hro : F.round = none) (hd : noDef ops = true) (hm : P.follows .mixedOrders = true) (hB : Region.lexB .any ops = true) (hC : C { w with drawn := w.drawn + 1 })
    (h : wpQuietIn F n P ops C (fun a' => ∀ w', C w' → Q .normal a' w') ops.toList a) : (Code.region id ops true).wpIn (F.inRound l) n P Q a w := by
  simp only [Region.lexB, Bool.and_eq_true] at hB
  have hh := wpAnyQIn_lex (F := F) (n := n) (C := C) (md := .any) hB.1 ops.toList 0 (Array.replicate ops.size false) a (by simp) (by simpa using hB.2) h
  have h2 := wpAnyIn_of_quiet (Q := fun a' => ∀ w', C w' → Q .normal a' w') (Q' := Q) hro (fun _ w' hw' h => h w' hw') _ _ _ _ hC (by simpa using hh)
  refine wpIn_region_draw fun t => ?_
  refine wpOpsIn_round hro l hd _ _ _ ?_
  simp only [Region.schedule, hm, Bool.true_or, if_true]
  exact wpAnyIn_sound _ t _ a _ h2
theorem wpIn_region_quiet_roundL {id r : Nat} {a : Act} {w : World} {l : List Oper} (hro : F.round = none) (hd : noDef l.toArray = true) (hm : P.follows .mixedOrders = true) (hB : Region.lexB .any l.toArray = true)
    (h : wpQuietIn F n P l.toArray (fun w' => ∃ n, w' = w.drewN n) (fun a' => ∀ w', (∃ n, w' = w.drewN n) → Q .normal a' w') l a) : (Code.region id l.toArray true).wpIn (F.inRound r) n P Q a w :=
  wpIn_region_quiet_round (C := fun w' => ∃ n, w' = w.drewN n) hro hd hm hB ⟨1, rfl⟩ (by simpa using h)
end Go.Larder
