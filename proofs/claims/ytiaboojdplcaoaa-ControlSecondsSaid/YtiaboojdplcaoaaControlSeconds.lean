/- ControlSeconds: for every list of directives and name control.Seconds and control.Has answer as the reference does. -/
import Derived.Test.YtiaboojdplcaoaaRows
import Derived.Test.YtiaboojdplcaoaaFrame
import Derived.Test.YtiaboojdplcaoaaWCtl
namespace Go.Proofs.Ytiaboojdplcaoaa.controlSeconds
open Go.RowKit Go.Larder Go.ChangeShapes Go.WideShapes Go.ChangeAt
open Go.ChangeMaps (open_string shut_string)
set_option linter.unusedVariables false
set_option linter.unusedSimpArgs false

theorem walkL (l : List Dir) (A : Option Addr) (c : Nat) (hlc : l.length ≤ c) (hb : l.length * 40 ≤ 140737488351232) (hbig : ∀ x ∈ l, x.1.length ≤ 140737488351232 ∧ x.2.2.length ≤ 140737488351232) (_ : ∀ x ∈ l, True)
    (nm : List UInt8) (hnm : nm.length ≤ 140737488351232) (w : World) (hr : ReadL encD w w.heap.size A l) :
    Calls Try.prog 4 #[.slice A l.length c, S nm] w fun e w' => e = .returned (.bool true) ∧ Below w.heap.size w w' := by
  have hl : l.length ≤ 140737488351232 := by omega
  have hx : ∀ d ∈ l, d.2.2.length ≤ 140737488351232 := fun d hd => (hbig d hd).2
  go_enter Try.func4, Try.ntmps4
  go_wp2_with fail
  refine (w_Seconds nm l hl hx A c _ hr).mono ?_
  rintro e w1 ⟨rfl, hb1⟩
  have hr1 := (hr.below hb1 (Nat.le_refl _)).more hb1.size
  go_wp2_with fail
  refine (w_ControlSecondsR nm l hl hx A c _ hr1).mono ?_
  rintro e w2 ⟨rfl, hb2⟩
  have hb12 := hb1.trans (hb2.mono hb1.size)
  have hr2 := (hr.below hb12 (Nat.le_refl _)).more hb12.size
  go_wp2_with fail
  refine (w_Has nm l hl A c _ hr2).mono ?_
  rintro e w3 ⟨rfl, hb3⟩
  go_wp2_with fail
  go_ret
  exact ⟨by simp, hb12.trans (hb3.mono hb12.size)⟩

theorem own : ownKnob Try.prog.godebug = none := by kernel_rfl
theorem laidOut : laidOutB Try.prog = true := by kernel_rfl
set_option maxRecDepth 100000 in
theorem lifted (os : Os) (started : os.Started) (H : Type) (enc : TypeId × Value → H) :
    ReturnsInHanded {} Try.checked os 4 .any (Rows.controlSecondsSpec.pre6 enc Try.prog Try.f4 Rows.controlSecondsRow.domain false) (Rows.controlSecondsSpec.post enc Try.prog Try.f4 false true false false) := by
  refine returnsInHanded_of_change_shaped (C := Try.checked) own started (by kernel_rfl) Try.func4
    (ChangeSpec.witness6 (enc := enc) (C := Try.checked) false ⟨#[], #[.slice none 0 0, .string ByteArray.empty], []⟩ 8 (by kernel_rfl) (by kernel_rfl) (by kernel_rfl) (by kernel_rfl)) ?_
  intro W base args ds gs before hval0 hW hcnd hsz0 hsh _
  have hval : ∀ (j : Nat) t v, Try.f4.params[j]? = some t → args[j]? = some v → Value.okWide Try.prog W .any base t v := hval0
  have hW' := hW
  obtain ⟨p, q, hA0, hV, rfl, hfz, hnd⟩ := hW
  have hA : DataW.TrodAll enc Try.prog W 0 (fun _ => true) true Try.f4.params.toList args.toList ds p := hA0
  have hsz1 : (DataW.weightsEach Try.prog (Try.f4.params.toList ++ Rows.controlSecondsSpec.plain.varTypes Try.prog) (ds ++ gs)).all (· ≤ reachBytes) = true := hsz0
  rw [Try.params4] at hA hval hsz1
  obtain ⟨v0, vs0, d0, ds0, p0, q0, hargs, rfl, rfl, h0, r0⟩ := trodAll_cons hA
  obtain ⟨v1, vs1, d1, ds1, p1, q1, rfl, rfl, rfl, h1, r1⟩ := trodAll_cons r0
  obtain ⟨rfl, rfl, rfl⟩ := trodAll_nil r1
  obtain rfl : args = #[v0, v1] := by cases args; simp_all
  obtain ⟨rfl, rfl⟩ := trodVars_none hV
  simp only [List.append_nil] at hsz1
  have k0 := h0
  have lt0 : ∀ x ∈ p0, x.block < W.heap.size := by obtain ⟨m, hm⟩ := k0; exact DataW.trod_lt m _ _ _ hm
  obtain ⟨A0, l0, c0, rfl, lc0, cm0, rd0, ok0, dd0⟩ := open_list (enc := enc) (OpenE.dirs (f0 := _) (f1 := _) (f2 := _) Try.underlying39 (by kernel_rfl) Try.underlying9 Try.underlying4 Try.underlying9 rfl rfl rfl (by kernel_rfl) (by kernel_rfl) (by kernel_rfl)) Try.underlying24 (hval 0 24 v0 rfl rfl) h0
  have sz0 := sized_list (enc := enc) (OpenE.dirs (f0 := _) (f1 := _) (f2 := _) Try.underlying39 (by kernel_rfl) Try.underlying9 Try.underlying4 Try.underlying9 rfl rfl rfl (by kernel_rfl) (by kernel_rfl) (by kernel_rfl)) Try.underlying24 hsz1 (j := 0) (t := 24) rfl rfl dd0
  rw [show Try.prog.bytesOf 39 = 40 from by kernel_rfl] at sz0
  have b0 : l0.length * 40 ≤ 140737488351232 := sz0.1
  have k1 := h1
  have lt1 : ∀ x ∈ p1, x.block < W.heap.size := by obtain ⟨m, hm⟩ := k1; exact DataW.trod_lt m _ _ _ hm
  obtain ⟨s1, rfl, rfl, rfl, w1⟩ := open_string Try.underlying9 (hval 1 9 v1 rfl rfl) h1
  obtain ⟨⟨l1⟩⟩ := s1
  have b1 : l1.length ≤ 140737488351232 := sized_string hsz1 (j := 1) (t := 9) rfl rfl
  clear hA0 hval0
  refine (walkL l0 A0 c0 lc0 b0 sz0.2 ok0 l1 b1 W rd0).mono fun e W' ⟨he, bel⟩ => ?_
  subst he
  exact ⟨_, rfl, _, _, _, [], _, [], hW', trodAll_mk1 (shut_bool Try.underlying4 _), (trodAll_cons_mk (Below.trod laidOut (by kernel_rfl) (of_decide_eq_true (by kernel_rfl)) k0 bel lt0) (trodAll_cons_mk (Below.trod laidOut (by kernel_rfl) (of_decide_eq_true (by kernel_rfl)) k1 bel lt1) trodAll_mk0)), rfl, bel.frame _, fun h => by cases h⟩

/-- The statement. -/
theorem proved : Rows.ControlSecondsSaid :=
  OpenClaim.holds_of_wide 4 Try.f4 rfl rfl rfl rfl rfl rfl rfl ⟨rfl, rfl, rfl, rfl, rfl⟩ rfl rfl rfl rfl rfl (by kernel_rfl) Try.func4 (by kernel_rfl)
    (of_decide_eq_true (by kernel_rfl)) (by unfold Func.isWrapper; first | (rw [if_pos (by decide +kernel)]; kernel_rfl) | (rw [if_neg (by decide +kernel)]; exact ⟨rfl, rfl⟩))
    (fun os started H enc _ => lifted os started H enc)
#print axioms proved
end Go.Proofs.Ytiaboojdplcaoaa.controlSeconds
