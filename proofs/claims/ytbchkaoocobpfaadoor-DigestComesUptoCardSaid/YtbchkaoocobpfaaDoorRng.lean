/- A range over a function, its rounds met within the iterator's walk: nothing is asked of the caller's state. -/
import Derived.RangeFuncNested
import Derived.RangeFuncBound
import Derived.RangeFuncCalls
import Derived.RangeFuncLeaves
namespace Go.Larder
open Go Go.RowKit
set_option linter.unusedVariables false
variable {F : Fence} {n : Nat} {P : Program}
/-- A loop's record, by its state and its pending jump. -/
abbrev RecOf := LoopState → Option Code → Loop
/-- What a round's body leaves: the record as it was laid; and R of the world in which the round is over. -/
def rndPost (l : Nat) (rc : RecOf) (R : Ending → World → Prop) : Exit → Act → World → Prop
  | .normal, _, W => W.heap[l]? = some (.loop (rc .busy none)) ∧ R (.returned (.bool true)) (W.putObj l (.loop (rc .ready none)))
  | .ret, _, W => W.heap[l]? = some (.loop (rc .busy none)) ∧ R (.returned (.bool false)) (W.putObj l (.loop (rc .done (some .ret))))
  | .exit id, _, W => W.heap[l]? = some (.loop (rc .busy none)) ∧ R (.returned (.bool false)) (W.putObj l (.loop (rc .done (some (.exit id)))))
  | .goto t, _, W => W.heap[l]? = some (.loop (rc .busy none)) ∧ R (.returned (.bool false)) (W.putObj l (.loop (rc .done (some (.goto t)))))
  | .panic _, _, _ => False
  | .outgrown, _, _ => False
theorem range_raw {α : Type} {g : Operand} {ps : Array Tmp} {assign body : Code} {Q : Exit → Act → World → Prop} {a : Act} {w : World}
    (hro : F.round = none) (h1 : 1 ≤ n) {gf : Nat} {lb : Array Value} (hg : a.eval g = .func (.func gf) #[] lb) (hFg : F.fn gf) (eg : ∀ args w, (callFunc gf args).run P w = .ok (.enter gf args) w)
    {encs : α → Array Value} (hps : ∀ x, (encs x).size = ps.size)
    (hit : ∀ (rc : RecOf) (W1 : World), (w.alloc (.deferred (some []))).alloc (.loop (rc .ready none)) = W1 →
      W1.heap[w.heap.size + 1]? = some (.loop (rc .ready none)) → W1.heap[w.heap.size]? = some (.deferred (some [])) → Below w.heap.size w W1 →
      (∀ (x : α) (W : World) (R : Ending → World → Prop), W.heap[w.heap.size + 1]? = some (.loop (rc .ready none)) →
        assign.wpIn (F.inRound (w.heap.size + 1)) (n - 1 - 1) P (Exit.then (fun a' W' => W'.heap[w.heap.size + 1]? = some (.loop (rc .ready none)) ∧
          body.wpIn (F.inRound (w.heap.size + 1)) (n - 1 - 1) P (rndPost (w.heap.size + 1) rc R) a' (W'.putObj (w.heap.size + 1) (.loop (rc .busy none)))) (fun _ _ _ => False))
          { tmps := (ps.zip (encs x)).foldl (fun t (p, v) => t.setIfInBounds p v) a.tmps, defers := [] } W →
        YieldAt F (n - 1 - 1) P (w.heap.size + 1) (encs x) W R) →
      CallsIn F (n - 1) P gf (#[.func (.yield (w.heap.size + 1)) #[] #[]] ++ lb) W1 fun e W' => (∃ v, e = .returned v) ∧
        ((W'.heap[w.heap.size + 1]? = some (.loop (rc .ready none)) ∧ Q .normal { a with defers := { target := .collected w.heap.size, args := #[] } :: a.defers } (W'.putObj (w.heap.size + 1) (.loop (rc .exhausted none)))) ∨
         (∃ c, W'.heap[w.heap.size + 1]? = some (.loop (rc .done (some c))) ∧ c.wpIn F n P Q { a with defers := { target := .collected w.heap.size, args := #[] } :: a.defers } (W'.putObj (w.heap.size + 1) (.loop (rc .exhausted (some c))))))) :
    (Code.rangeFunc g ps assign body).wpIn F n P Q a w := by
  refine wpIn_rangeFunc ?_
  intro fn hfn
  rw [hro]
  obtain ⟨rc, hrc⟩ : ∃ rc : RecOf, rc = fun st pe => { state := st, pending := pe, fn, tmps := a.tmps, params := ps, assign, body, defers := w.heap.size } := ⟨_, rfl⟩
  have hL : ((w.alloc (.deferred (some []))).alloc (.loop (rc .ready none))).heap[w.heap.size + 1]? = some (.loop (rc .ready none)) := by
    have := World.alloc_heap_new (w.alloc (.deferred (some []))) (.loop (rc .ready none)); rwa [World.size_alloc] at this
  have hD : ((w.alloc (.deferred (some []))).alloc (.loop (rc .ready none))).heap[w.heap.size]? = some (.deferred (some [])) :=
    (Below.heap_alloc _ _ _ (by simp)).trans (World.alloc_heap_new w _)
  have hB : Below w.heap.size w ((w.alloc (.deferred (some []))).alloc (.loop (rc .ready none))) := ((Below.refl _ w).alloc (Nat.le_refl _) _).alloc (by simp) _
  refine ⟨w.heap.size + 1, [{ target := .collected w.heap.size, args := #[] }], (w.alloc (.deferred (some []))).alloc (.loop (rc .ready none)), { target := .fn (.func gf) lb, args := #[.func (.yield (w.heap.size + 1)) #[] #[]] }, (w.alloc (.deferred (some []))).alloc (.loop (rc .ready none)), gf,
    #[.func (.yield (w.heap.size + 1)) #[] #[]] ++ lb, (w.alloc (.deferred (some []))).alloc (.loop (rc .ready none)), ?_, ?_, ?_, ?_, fun _ => h1, ?_⟩
  · rw [hrc]; exact run_enterLoop_outer _ _ _ _ _
  · simp only [resolve, hg]
    simp [go_sem]
  · intro f' hf'; simp [Target.leads] at hf'; subst hf'; exact hFg
  · simp [invoke, go_sem, eg]
  · refine (hit rc _ rfl hL hD hB ?_).mono ?_
    · intro x W R hl hw
      have hy := run_yield (P := P) (args := encs x) hl (by rw [hrc]; exact hps x)
      rw [hrc] at hy
      refine ⟨fn, _, assign, body, hy, roundIn_of_wpIn hfn ?_⟩
      refine wpIn_mono hw ?_
      rintro e a' W' hp
      cases e with
      | normal =>
        obtain ⟨hl', hb⟩ := hp
        refine ⟨_, run_beginRound hl' (by rw [hrc]), ?_⟩
        have e1 : (Obj.loop { rc .ready none with state := .busy }) = .loop (rc .busy none) := by rw [hrc]
        rw [e1]
        refine wpIn_mono hb ?_
        have fin : ∀ (jump : Option Code) (W3 : World), W3.heap[w.heap.size + 1]? = some (.loop (rc .busy none)) →
            (Instr.endRound (w.heap.size + 1) jump).run P W3 = .ok (.bool jump.isNone) (W3.putObj (w.heap.size + 1) (.loop (rc (if jump.isNone then .ready else .done) jump))) := fun jump W3 h3 => by
          have := run_endRound (P := P) jump h3
          rw [hrc] at this ⊢
          exact this
        rintro e a3 W3 hq
        cases e with
        | normal => exact ⟨_, _, fin none W3 hq.1, hq.2⟩
        | ret => exact ⟨_, _, fin (some .ret) W3 hq.1, hq.2⟩
        | exit id => exact ⟨_, _, fin (some (.exit id)) W3 hq.1, hq.2⟩
        | goto t => exact ⟨_, _, fin (some (.goto t)) W3 hq.1, hq.2⟩
        | panic ch => exact hq.elim
        | outgrown => exact hq.elim
      | ret => exact hp
      | exit id => exact hp
      | goto t => exact hp
      | panic ch => exact hp
      | outgrown => exact hp
    · rintro e W2 ⟨⟨v, rfl⟩, (⟨hl, hq⟩ | ⟨c, hl, hq⟩)⟩
      · have := run_endLoop (P := P) hl (by rw [hrc]; simp)
        refine ⟨none, _, by rw [hrc] at this; exact this, ?_⟩
        have e1 : (Obj.loop { state := .exhausted, pending := none, fn := fn, tmps := a.tmps, params := ps, assign := assign, body := body, defers := w.heap.size }) = .loop (rc .exhausted none) := by rw [hrc]
        rw [hrc] at hq
        exact hq
      · have := run_endLoop (P := P) hl (by rw [hrc]; simp)
        refine ⟨some c, _, by rw [hrc] at this; exact this, ?_⟩
        rw [hrc] at hq
        exact hq
end Go.Larder
