/- TargetEscapes: for every text of bulk at most 1048576 target.Escape and target.Unescape answer as the reference does. -/
import Derived.Test.YtiaboojdplcaoaaRows
import Derived.Test.YtiaboojdplcaoaaFrame
import Derived.Test.YtiaboojdplcaoaaWTgt2
import Derived.Test.YtiaboojdplcaoaaWTgt3
namespace Go.Proofs.Ytiaboojdplcaoaa.targetEscapes
open Go.RowKit Go.Larder Go.ChangeShapes Go.WideShapes Go.ChangeAt
open Go.ChangeMaps (open_string shut_string)
set_option linter.unusedVariables false
set_option linter.unusedSimpArgs false

def flatR : Except Int (List UInt8) → List UInt8 × Int
  | .error n => ([], n)
  | .ok out => (out, 0)
theorem flatSt {w : World} {r : Except Int (List UInt8)} {e : Ending} {w' : World} (h : StPost w r e w') : ∃ a n, e = .returned (.tuple #[S a, .int .i64 n]) ∧ (a, n) = flatR r ∧ Below w.heap.size w w' := by
  cases r with
  | error n => exact ⟨[], n, h.1, rfl, h.2⟩
  | ok out => exact ⟨out, 0, h.1, rfl, h.2⟩
theorem walkL (s : List UInt8) (hs : s.length ≤ 1048576) (w : World) :
    Calls Try.prog 6 #[S s] w fun e w' => e = .returned (.bool true) ∧ Below w.heap.size w w' := by
  have he1 := w_Escape s hs
  have he2 := w_EscapeR s hs
  have hu1 := w_Unescape s (by omega)
  have hu2 := w_UnescapeR s (by omega)
  generalize escE s = E1 at he1 he2
  generalize unE s = E2 at hu1 hu2
  go_enter Try.func6, Try.ntmps6
  go_wp2_with fail
  refine (he1 _).mono ?_
  intro e w1 hp1
  obtain ⟨a1, n1, rfl, hq1, hb1⟩ := flatSt hp1
  go_wp2_with fail
  refine (he2 _).mono ?_
  intro e w2 hp2
  obtain ⟨a2, n2, rfl, hq2, hb2⟩ := flatSt hp2
  rw [← hq1] at hq2
  injection hq2 with hqa hqn
  subst hqa hqn
  have hb12 := hb1.trans (hb2.mono hb1.size)
  go_wp2_with fail
  refine (hu1 _).mono ?_
  intro e w3 hp3
  obtain ⟨a3, n3, rfl, hq3, hb3⟩ := flatSt hp3
  have hb13 := hb12.trans (hb3.mono hb12.size)
  go_wp2_with fail
  refine (hu2 _).mono ?_
  intro e w4 hp4
  obtain ⟨a4, n4, rfl, hq4, hb4⟩ := flatSt hp4
  rw [← hq3] at hq4
  injection hq4 with hqa hqn
  subst hqa hqn
  clear hp1 hp2 hp3 hp4
  go_wp2_with fail
  go_ret
  exact ⟨by simp, hb13.trans (hb4.mono hb13.size)⟩

theorem own : ownKnob Try.prog.godebug = none := by kernel_rfl
theorem laidOut : laidOutB Try.prog = true := by kernel_rfl
set_option maxRecDepth 100000 in
theorem lifted (os : Os) (started : os.Started) (H : Type) (enc : TypeId × Value → H) (F : Stop.Interp) :
    ReturnsInHanded {} Try.checked os 6 .any ((Rows.OpenSpec.upto Rows.targetEscapesSpec).pre6 enc Try.prog Try.f6 Rows.targetEscapesUptoRow.domain false) (((Rows.OpenSpec.upto Rows.targetEscapesSpec).at F).post enc Try.prog Try.f6 false true false false) := by
  refine cond_shaped (C := Try.checked) (s := Rows.OpenSpec.upto Rows.targetEscapesSpec) (k := Rows.uptoSmall) rfl own started (by kernel_rfl) Try.func6
    (OpenSpec.witness (enc := enc) (C := Try.checked) (s := Rows.OpenSpec.upto Rows.targetEscapesSpec) (k := Rows.uptoSmall) rfl false ⟨#[], #[.string ByteArray.empty], []⟩ 8 (by kernel_rfl) (by kernel_rfl) (by kernel_rfl)
      (x := ([.lit (.string [])], [], [])) (by kernel_rfl) rfl (by kernel_rfl)) ?_
  intro W base args ds gs before hval0 hW hcnd hk0 hsh _
  have hval : ∀ (j : Nat) t v, Try.f6.params[j]? = some t → args[j]? = some v → Value.okWide Try.prog W .any base t v := hval0
  have hW' := hW
  obtain ⟨p, q, hA0, hV, rfl, hfz, hnd⟩ := hW
  have hA : DataW.TrodAll enc Try.prog W 0 (fun _ => true) true Try.f6.params.toList args.toList ds p := hA0
  rw [Try.params6] at hA hval
  obtain ⟨v0, vs0, d0, ds0, p0, q0, hargs, rfl, rfl, h0, r0⟩ := trodAll_cons hA
  obtain ⟨rfl, rfl, rfl⟩ := trodAll_nil r0
  obtain rfl : args = #[v0] := by cases args; simp_all
  obtain ⟨rfl, rfl⟩ := trodVars_none hV
  simp only [List.append_nil] at hk0
  have hbulk := of_decide_eq_true hk0
  simp only [Rows.uptoBulkAll] at hbulk
  have k0 := h0
  have lt0 : ∀ x ∈ p0, x.block < W.heap.size := by obtain ⟨m, hm⟩ := k0; exact DataW.trod_lt m _ _ _ hm
  obtain ⟨s0, rfl, rfl, rfl, w0⟩ := open_string Try.underlying9 (hval 0 9 v0 rfl rfl) h0
  obtain ⟨⟨l0⟩⟩ := s0
  have b0 : l0.length ≤ 1048576 := by simp only [Rows.uptoBulk] at hbulk; omega
  clear hA0 hval0
  refine (walkL l0 b0 W).mono fun e W' ⟨he, bel⟩ => ?_
  subst he
  exact ⟨_, rfl, _, _, _, [], _, [], hW', trodAll_mk1 (shut_bool Try.underlying4 _), (trodAll_cons_mk (Below.trod laidOut (by kernel_rfl) (of_decide_eq_true (by kernel_rfl)) k0 bel lt0) trodAll_mk0), rfl, bel.frame _, fun h => by cases h⟩

/-- The statement. -/
theorem proved : Rows.TargetEscapesUptoSaid :=
  OpenClaim.holds_of_cond 6 Try.f6 rfl rfl rfl rfl rfl rfl rfl ⟨rfl, rfl, rfl, rfl, rfl⟩ rfl rfl rfl rfl rfl (by kernel_rfl) Try.func6 (by kernel_rfl)
    (of_decide_eq_true (by kernel_rfl)) (by unfold Func.isWrapper; first | (rw [if_pos (by decide +kernel)]; kernel_rfl) | (rw [if_neg (by decide +kernel)]; exact ⟨rfl, rfl⟩))
    (fun os started H enc _ F => lifted os started H enc F)
#print axioms proved
end Go.Proofs.Ytiaboojdplcaoaa.targetEscapes
