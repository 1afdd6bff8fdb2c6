/- SpanMerges: for every list of ranges span.Merge answers as the reference does. -/
import Derived.Test.YtldlbfdfaigkcaaRows
import Derived.Test.YtldlbfdfaigkcaaFrame
import Derived.Lib.SmallJoins
import Derived.Test.YtldlbfdfaigkcaaWMrgW
import Derived.Test.YtldlbfdfaigkcaaWEqP
import Derived.Test.YtldlbfdfaigkcaaOpen
namespace Go.Proofs.Ytldlbfdfaigkcaa.spanMerges
open Go.RowKit Go.Larder Go.ChangeShapes Go.WideShapes Go.ChangeAt
open Go.ChangeMaps (open_string shut_string)
open Go.Joins (open_agg2 open_agg3)
set_option linter.unusedVariables false
set_option linter.unusedSimpArgs false

theorem mrg_len : ∀ (l out : List Iv), (l.foldl rStep out).length ≤ out.length + l.length
  | [], out => by simp
  | s :: l, out => by
    have h1 := mrg_len l (rStep out s)
    have h2 : (rStep out s).length ≤ out.length + 1 := by
      unfold rStep
      split
      · omega
      · have := rIn_len out [] s []
        simp only [List.length_append, List.length_cons, List.length_nil] at *
        omega
    simp only [List.foldl_cons, List.length_cons]
    omega
theorem walkL (l : List (Int × Int)) (A : Option Addr) (c : Nat) (hlc : l.length ≤ c) (hb : l.length * 16 ≤ 140737488351232) (_ : ∀ x ∈ l, True) (_ : ∀ x ∈ l, (-9223372036854775808 ≤ x.1 ∧ x.1 ≤ 9223372036854775807) ∧ (-9223372036854775808 ≤ x.2 ∧ x.2 ≤ 9223372036854775807))
    (w : World) (hr : ReadL encII w w.heap.size A l) :
    Calls Try.prog 4 #[.slice A l.length c] w fun e w' => e = .returned (.bool true) ∧ Below w.heap.size w w' := by
  have hlen := mrg_len l []
  have h1 := w_MergeP l hb A c
  have h2 := w_SpanMergeR l hb A c
  obtain ⟨R, hR⟩ : ∃ R, l.foldl rStep [] = R := ⟨_, rfl⟩
  rw [hR] at hlen h1 h2
  clear hR
  have hRl : R.length ≤ 140737488351232 := by simp only [List.length_nil] at hlen; omega
  go_enter Try.func4, Try.ntmps4
  go_wp2_with fail
  refine (h1 _ hr).mono ?_
  rintro e w1 ⟨A1, c1, rfl, ho1, hb1⟩
  have hr1 := Lib.hid ho1.read
  clear ho1
  go_wp2_with fail
  refine (h2 _ (hr.below hb1 (Nat.le_refl _) |>.more hb1.size)).mono ?_
  rintro e w2 ⟨A2, c2, rfl, ho2, hb2⟩
  have hr2 := Lib.hid ho2.read
  clear ho2
  go_wp2_with fail
  refine (w_Eq_nums_Slice R hRl A1 A2 c1 c2 _ _ _ hb2.size (Nat.le_refl _) (hr1.out.below hb2 (Nat.le_refl _)) hr2.out).mono ?_
  rintro e w3 ⟨rfl, hb3⟩
  go_wp2_with fail
  go_ret
  have hb12 := hb1.trans (hb2.mono hb1.size)
  exact ⟨rfl, hb12.trans (hb3.mono hb12.size)⟩

theorem own : ownKnob Try.prog.godebug = none := by kernel_rfl
theorem laidOut : laidOutB Try.prog = true := by kernel_rfl
set_option maxRecDepth 100000 in
theorem lifted (os : Os) (started : os.Started) (H : Type) (enc : TypeId × Value → H) :
    ReturnsInHanded {} Try.checked os 4 .any (Rows.spanMergesSpec.pre6 enc Try.prog Try.f4 Rows.spanMergesRow.domain false) (Rows.spanMergesSpec.post enc Try.prog Try.f4 false true false false) := by
  refine returnsInHanded_of_change_shaped (C := Try.checked) own started (by kernel_rfl) Try.func4
    (ChangeSpec.witness6 (enc := enc) (C := Try.checked) false ⟨#[], #[.slice none 0 0], []⟩ 8 (by kernel_rfl) (by kernel_rfl) (by kernel_rfl) (by kernel_rfl)) ?_
  intro W base args ds gs before hval0 hW hcnd hsz0 hsh _
  have hval : ∀ (j : Nat) t v, Try.f4.params[j]? = some t → args[j]? = some v → Value.okWide Try.prog W .any base t v := hval0
  have hW' := hW
  obtain ⟨p, q, hA0, hV, rfl, hfz, hnd⟩ := hW
  have hA : DataW.TrodAll enc Try.prog W 0 (fun _ => true) true Try.f4.params.toList args.toList ds p := hA0
  have hsz1 : (DataW.weightsEach Try.prog (Try.f4.params.toList ++ Rows.spanMergesSpec.plain.varTypes Try.prog) (ds ++ gs)).all (· ≤ reachBytes) = true := hsz0
  rw [Try.params4] at hA hval hsz1
  obtain ⟨v0, vs0, d0, ds0, p0, q0, hargs, rfl, rfl, h0, r0⟩ := trodAll_cons hA
  obtain ⟨rfl, rfl, rfl⟩ := trodAll_nil r0
  obtain rfl : args = #[v0] := by cases args; simp_all
  obtain ⟨rfl, rfl⟩ := trodVars_none hV
  simp only [List.append_nil] at hsz1
  have k0 := h0
  have lt0 : ∀ x ∈ p0, x.block < W.heap.size := by obtain ⟨m, hm⟩ := k0; exact DataW.trod_lt m _ _ _ hm
  obtain ⟨A0, l0, c0, rfl, lc0, cm0, rd0, ok0, dd0⟩ := open_list (enc := enc) (OpenE.nums (f0 := _) (f1 := _) Try.underlying52 (by kernel_rfl) Try.underlying3 Try.underlying3 rfl rfl (by kernel_rfl) (by kernel_rfl)) Try.underlying49 (hval 0 49 v0 rfl rfl) h0
  have sz0 := sized_list (enc := enc) (OpenE.nums (f0 := _) (f1 := _) Try.underlying52 (by kernel_rfl) Try.underlying3 Try.underlying3 rfl rfl (by kernel_rfl) (by kernel_rfl)) Try.underlying49 hsz1 (j := 0) (t := 49) rfl rfl dd0
  rw [show Try.prog.bytesOf 52 = 16 from by kernel_rfl] at sz0
  have b0 : l0.length * 16 ≤ 140737488351232 := sz0.1
  clear hA0 hval0
  refine (walkL l0 A0 c0 lc0 b0 sz0.2 ok0 W rd0).mono fun e W' ⟨he, bel⟩ => ?_
  subst he
  exact ⟨_, rfl, _, _, _, [], _, [], hW', trodAll_mk1 (shut_bool Try.underlying4 _), (trodAll_cons_mk (Below.trod laidOut (by kernel_rfl) (of_decide_eq_true (by kernel_rfl)) k0 bel lt0) trodAll_mk0), rfl, bel.frame _, fun h => by cases h⟩

/-- The statement. -/
theorem proved : Rows.SpanMergesSaid :=
  OpenClaim.holds_of_wide 4 Try.f4 rfl rfl rfl rfl rfl rfl rfl ⟨rfl, rfl, rfl, rfl, rfl⟩ rfl rfl rfl rfl rfl (by kernel_rfl) Try.func4 (by kernel_rfl)
    (of_decide_eq_true (by kernel_rfl)) (by unfold Func.isWrapper; first | (rw [if_pos (by decide +kernel)]; kernel_rfl) | (rw [if_neg (by decide +kernel)]; exact ⟨rfl, rfl⟩))
    (fun os started H enc _ => lifted os started H enc)
#print axioms proved
end Go.Proofs.Ytldlbfdfaigkcaa.spanMerges
