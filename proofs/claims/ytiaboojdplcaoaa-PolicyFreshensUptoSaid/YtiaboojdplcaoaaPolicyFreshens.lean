/- PolicyFreshens: for every two lists of fields, together of bulk at most 1048576, policy.Freshen answers as the reference does. -/
import Derived.Test.YtiaboojdplcaoaaRows
import Derived.Test.YtiaboojdplcaoaaFrame
import Derived.Test.YtiaboojdplcaoaaWFre
import Derived.Test.YtiaboojdplcaoaaWFreR
import Derived.Test.YtiaboojdplcaoaaWEqF
import Derived.Test.YtiaboojdplcaoaaOpen
namespace Go.Proofs.Ytiaboojdplcaoaa.policyFreshens
open Go.RowKit Go.Larder Go.ChangeShapes Go.WideShapes Go.ChangeAt
open Go.ChangeMaps (open_string shut_string)
set_option linter.unusedVariables false
set_option linter.unusedSimpArgs false

theorem walkL (old : List Fld) (A : Option Addr) (c : Nat) (hlc : old.length ≤ c) (hb : (old.map (fun f => f.1.length + f.2.length + 3)).sum ≤ 1048576) (_ : ∀ x ∈ old, True)
    (now : List Fld) (A' : Option Addr) (c' : Nat) (hlc' : now.length ≤ c') (hb' : (now.map (fun f => f.1.length + f.2.length + 3)).sum ≤ 1048576) (_ : ∀ x ∈ now, True) (w : World) (hr : ReadL encF w w.heap.size A old) (hr' : ReadL encF w w.heap.size A' now) :
    Calls Try.prog 11 #[.slice A old.length c, .slice A' now.length c'] w fun e w' => e = .returned (.bool true) ∧ Below w.heap.size w w' := by
  obtain ⟨hlo, _⟩ := sum_big hb
  obtain ⟨hln, _⟩ := sum_big hb'
  have hsl : (freshL old now).length ≤ 140737488351232 := by
    unfold freshL
    have h1 := dropP_len (hitsN (namesOf now)) old
    have h2 := dropP_len (hitsN below4) (stripL now)
    have h3 : (stripL now).length ≤ now.length := dropP_len _ _
    rw [List.length_append]
    omega
  have hs1 := fun w hr hr' => w_Freshen old now hb hb' A A' c c' w hr hr'
  have hs2 := fun w hr hr' => w_FreshenR old now hb hb' A A' c c' w hr hr'
  generalize freshL old now = out at hsl hs1 hs2
  go_enter Try.func11, Try.ntmps11
  go_wp2_with fail
  refine (hs1 _ hr hr').mono ?_
  rintro e w1 ⟨⟨A1, c1, rfl, ho1⟩, hb1⟩
  have hr1 := Lib.hid ho1.read
  clear ho1
  go_wp2_with fail
  refine (hs2 _ ((hr.below hb1 (Nat.le_refl _)).more hb1.size) ((hr'.below hb1 (Nat.le_refl _)).more hb1.size)).mono ?_
  rintro e w2 ⟨⟨A2, c2, rfl, ho2⟩, hb2⟩
  have hr2 := Lib.hid ho2.read
  clear ho2
  have hb12 := hb1.trans (hb2.mono hb1.size)
  go_wp2_with fail
  refine (w_Eq_texts_Field out hsl A1 A2 c1 c2 _ _ _ hb2.size (Nat.le_refl _) (hr1.out.below hb2 (Nat.le_refl _)) hr2.out).mono ?_
  rintro e w3 ⟨rfl, hb3⟩
  go_wp2_with fail
  go_ret
  exact ⟨rfl, hb12.trans (hb3.mono hb12.size)⟩

theorem own : ownKnob Try.prog.godebug = none := by kernel_rfl
theorem laidOut : laidOutB Try.prog = true := by kernel_rfl
set_option maxRecDepth 100000 in
theorem lifted (os : Os) (started : os.Started) (H : Type) (enc : TypeId × Value → H) (F : Stop.Interp) :
    ReturnsInHanded {} Try.checked os 11 .any ((Rows.OpenSpec.upto Rows.policyFreshensSpec).pre6 enc Try.prog Try.f11 Rows.policyFreshensUptoRow.domain false) (((Rows.OpenSpec.upto Rows.policyFreshensSpec).at F).post enc Try.prog Try.f11 false true false false) := by
  refine cond_shaped (C := Try.checked) (s := Rows.OpenSpec.upto Rows.policyFreshensSpec) (k := Rows.uptoSmall) rfl own started (by kernel_rfl) Try.func11
    (OpenSpec.witness (enc := enc) (C := Try.checked) (s := Rows.OpenSpec.upto Rows.policyFreshensSpec) (k := Rows.uptoSmall) rfl false ⟨#[], #[.slice none 0 0, .slice none 0 0], []⟩ 8 (by kernel_rfl) (by kernel_rfl) (by kernel_rfl)
      (x := ([.nil, .nil], [], [])) (by kernel_rfl) rfl (by kernel_rfl)) ?_
  intro W base args ds gs before hval0 hW hcnd hk0 hsh _
  have hval : ∀ (j : Nat) t v, Try.f11.params[j]? = some t → args[j]? = some v → Value.okWide Try.prog W .any base t v := hval0
  have hW' := hW
  obtain ⟨p, q, hA0, hV, rfl, hfz, hnd⟩ := hW
  have hA : DataW.TrodAll enc Try.prog W 0 (fun _ => true) true Try.f11.params.toList args.toList ds p := hA0
  rw [Try.params11] at hA hval
  obtain ⟨v0, vs0, d0, ds0, p0, q0, hargs, rfl, rfl, h0, r0⟩ := trodAll_cons hA
  obtain ⟨v1, vs1, d1, ds1, p1, q1, rfl, rfl, rfl, h1, r1⟩ := trodAll_cons r0
  obtain ⟨rfl, rfl, rfl⟩ := trodAll_nil r1
  obtain rfl : args = #[v0, v1] := by cases args; simp_all
  obtain ⟨rfl, rfl⟩ := trodVars_none hV
  simp only [List.append_nil] at hk0
  have hbulk := of_decide_eq_true hk0
  simp only [Rows.uptoBulkAll] at hbulk
  have k0 := h0
  have lt0 : ∀ x ∈ p0, x.block < W.heap.size := by obtain ⟨m, hm⟩ := k0; exact DataW.trod_lt m _ _ _ hm
  obtain ⟨A0, l0, c0, rfl, lc0, cm0, rd0, ok0, dd0⟩ := open_list (enc := enc) (OpenE.texts (f0 := _) (f1 := _) Try.underlying47 (by kernel_rfl) Try.underlying9 Try.underlying9 rfl rfl (by kernel_rfl) (by kernel_rfl)) Try.underlying28 (hval 0 28 v0 rfl rfl) h0
  have bk0 := bulk_list (enc := enc) (OpenE.texts (f0 := _) (f1 := _) Try.underlying47 (by kernel_rfl) Try.underlying9 Try.underlying9 rfl rfl (by kernel_rfl) (by kernel_rfl)) dd0
  have b0 : (l0.map (fun f => f.1.length + f.2.length + 3)).sum ≤ 1048576 := by (try simp only [Rows.uptoBulk] at hbulk); omega
  have k1 := h1
  have lt1 : ∀ x ∈ p1, x.block < W.heap.size := by obtain ⟨m, hm⟩ := k1; exact DataW.trod_lt m _ _ _ hm
  obtain ⟨A1, l1, c1, rfl, lc1, cm1, rd1, ok1, dd1⟩ := open_list (enc := enc) (OpenE.texts (f0 := _) (f1 := _) Try.underlying47 (by kernel_rfl) Try.underlying9 Try.underlying9 rfl rfl (by kernel_rfl) (by kernel_rfl)) Try.underlying28 (hval 1 28 v1 rfl rfl) h1
  have bk1 := bulk_list (enc := enc) (OpenE.texts (f0 := _) (f1 := _) Try.underlying47 (by kernel_rfl) Try.underlying9 Try.underlying9 rfl rfl (by kernel_rfl) (by kernel_rfl)) dd1
  have b1 : (l1.map (fun f => f.1.length + f.2.length + 3)).sum ≤ 1048576 := by (try simp only [Rows.uptoBulk] at hbulk); omega
  clear hA0 hval0
  refine (walkL l0 A0 c0 lc0 b0 ok0 l1 A1 c1 lc1 b1 ok1 W rd0 rd1).mono fun e W' ⟨he, bel⟩ => ?_
  subst he
  exact ⟨_, rfl, _, _, _, [], _, [], hW', trodAll_mk1 (shut_bool Try.underlying4 _), (trodAll_cons_mk (Below.trod laidOut (by kernel_rfl) (of_decide_eq_true (by kernel_rfl)) k0 bel lt0) (trodAll_cons_mk (Below.trod laidOut (by kernel_rfl) (of_decide_eq_true (by kernel_rfl)) k1 bel lt1) trodAll_mk0)), rfl, bel.frame _, fun h => by cases h⟩

/-- The statement. -/
theorem proved : Rows.PolicyFreshensUptoSaid :=
  OpenClaim.holds_of_cond 11 Try.f11 rfl rfl rfl rfl rfl rfl rfl ⟨rfl, rfl, rfl, rfl, rfl⟩ rfl rfl rfl rfl rfl (by kernel_rfl) Try.func11 (by kernel_rfl)
    (of_decide_eq_true (by kernel_rfl)) (by unfold Func.isWrapper; first | (rw [if_pos (by decide +kernel)]; kernel_rfl) | (rw [if_neg (by decide +kernel)]; exact ⟨rfl, rfl⟩))
    (fun os started H enc _ F => lifted os started H enc F)
#print axioms proved
end Go.Proofs.Ytiaboojdplcaoaa.policyFreshens
