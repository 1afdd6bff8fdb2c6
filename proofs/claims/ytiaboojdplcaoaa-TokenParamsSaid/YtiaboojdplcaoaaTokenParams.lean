/- TokenParams: for every text token.Params answers as the reference does. -/
import Derived.Test.YtiaboojdplcaoaaRows
import Derived.Test.YtiaboojdplcaoaaFrame
import Derived.Test.YtiaboojdplcaoaaWParR
import Derived.Test.YtiaboojdplcaoaaWEqA
namespace Go.Proofs.Ytiaboojdplcaoaa.tokenParams
open Go.RowKit Go.Larder Go.ChangeShapes Go.WideShapes Go.ChangeAt
open Go.ChangeMaps (open_string shut_string)
set_option linter.unusedVariables false
set_option linter.unusedSimpArgs false

theorem walkL (s : List UInt8) (hs : s.length ≤ 140737488351232) (w : World) :
    Calls Try.prog 8 #[S s] w fun e w' => e = .returned (.bool true) ∧ Below w.heap.size w w' := by
  go_enter Try.func8, Try.ntmps8
  cases hres : parsE s with
  | error n =>
    go_wp2_with fail
    refine (w_Params s hs _).mono ?_
    intro e w1 hp1
    obtain ⟨rfl, hb1⟩ := hp1.err hres
    go_wp2_with fail
    refine (w_ParamsR s hs _).mono ?_
    intro e w2 hp2
    obtain ⟨rfl, hb2⟩ := hp2.err hres
    go_wp2_with fail
    refine (w_Eq_texts_Param [] (by simp) none none 0 0 0 0 _ (by omega) (by omega) ReadL.nil ReadL.nil).mono ?_
    rintro e w3 ⟨rfl, hb3⟩
    go_wp2_with fail
    go_ret
    have hb12 := hb1.trans (hb2.mono hb1.size)
    exact ⟨by simp, hb12.trans (hb3.mono hb12.size)⟩
  | ok p =>
    have hlen : p.2.length ≤ 20 := parsE_len hres
    obtain ⟨x, out⟩ := p
    have hlen : out.length ≤ 20 := hlen
    go_wp2_with fail
    refine (w_Params s hs _).mono ?_
    intro e w1 hp1
    obtain ⟨A1, c1, rfl, ho1, hb1⟩ := hp1.ok_ hres
    have hr1 := Lib.hid ho1.read
    clear ho1
    go_wp2_with fail
    refine (w_ParamsR s hs _).mono ?_
    intro e w2 hp2
    obtain ⟨A2, c2, rfl, ho2, hb2⟩ := hp2.ok_ hres
    have hr2 := Lib.hid ho2.read
    clear ho2
    go_wp2_with fail
    refine (w_Eq_texts_Param out (by omega) A1 A2 c1 c2 _ _ _ hb2.size (Nat.le_refl _) (hr1.out.below hb2 (Nat.le_refl _)) hr2.out).mono ?_
    rintro e w3 ⟨rfl, hb3⟩
    go_wp2_with fail
    go_ret
    have hb12 := hb1.trans (hb2.mono hb1.size)
    exact ⟨by simp, hb12.trans (hb3.mono hb12.size)⟩

theorem own : ownKnob Try.prog.godebug = none := by kernel_rfl
theorem laidOut : laidOutB Try.prog = true := by kernel_rfl
set_option maxRecDepth 100000 in
theorem lifted (os : Os) (started : os.Started) (H : Type) (enc : TypeId × Value → H) :
    ReturnsInHanded {} Try.checked os 8 .any (Rows.tokenParamsSpec.pre6 enc Try.prog Try.f8 Rows.tokenParamsRow.domain false) (Rows.tokenParamsSpec.post enc Try.prog Try.f8 false true false false) := by
  refine returnsInHanded_of_change_shaped (C := Try.checked) own started (by kernel_rfl) Try.func8
    (ChangeSpec.witness6 (enc := enc) (C := Try.checked) false ⟨#[], #[.string ByteArray.empty], []⟩ 8 (by kernel_rfl) (by kernel_rfl) (by kernel_rfl) (by kernel_rfl)) ?_
  intro W base args ds gs before hval0 hW hcnd hsz0 hsh _
  have hval : ∀ (j : Nat) t v, Try.f8.params[j]? = some t → args[j]? = some v → Value.okWide Try.prog W .any base t v := hval0
  have hW' := hW
  obtain ⟨p, q, hA0, hV, rfl, hfz, hnd⟩ := hW
  have hA : DataW.TrodAll enc Try.prog W 0 (fun _ => true) true Try.f8.params.toList args.toList ds p := hA0
  have hsz1 : (DataW.weightsEach Try.prog (Try.f8.params.toList ++ Rows.tokenParamsSpec.plain.varTypes Try.prog) (ds ++ gs)).all (· ≤ reachBytes) = true := hsz0
  rw [Try.params8] at hA hval hsz1
  obtain ⟨v0, vs0, d0, ds0, p0, q0, hargs, rfl, rfl, h0, r0⟩ := trodAll_cons hA
  obtain ⟨rfl, rfl, rfl⟩ := trodAll_nil r0
  obtain rfl : args = #[v0] := by cases args; simp_all
  obtain ⟨rfl, rfl⟩ := trodVars_none hV
  simp only [List.append_nil] at hsz1
  have k0 := h0
  have lt0 : ∀ x ∈ p0, x.block < W.heap.size := by obtain ⟨m, hm⟩ := k0; exact DataW.trod_lt m _ _ _ hm
  obtain ⟨s0, rfl, rfl, rfl, w0⟩ := open_string Try.underlying9 (hval 0 9 v0 rfl rfl) h0
  obtain ⟨⟨l0⟩⟩ := s0
  have b0 : l0.length ≤ 140737488351232 := sized_string hsz1 (j := 0) (t := 9) rfl rfl
  clear hA0 hval0
  refine (walkL l0 b0 W).mono fun e W' ⟨he, bel⟩ => ?_
  subst he
  exact ⟨_, rfl, _, _, _, [], _, [], hW', trodAll_mk1 (shut_bool Try.underlying4 _), (trodAll_cons_mk (Below.trod laidOut (by kernel_rfl) (of_decide_eq_true (by kernel_rfl)) k0 bel lt0) trodAll_mk0), rfl, bel.frame _, fun h => by cases h⟩

/-- The statement. -/
theorem proved : Rows.TokenParamsSaid :=
  OpenClaim.holds_of_wide 8 Try.f8 rfl rfl rfl rfl rfl rfl rfl ⟨rfl, rfl, rfl, rfl, rfl⟩ rfl rfl rfl rfl rfl (by kernel_rfl) Try.func8 (by kernel_rfl)
    (of_decide_eq_true (by kernel_rfl)) (by unfold Func.isWrapper; first | (rw [if_pos (by decide +kernel)]; kernel_rfl) | (rw [if_neg (by decide +kernel)]; exact ⟨rfl, rfl⟩))
    (fun os started H enc _ => lifted os started H enc)
#print axioms proved
end Go.Proofs.Ytiaboojdplcaoaa.tokenParams
