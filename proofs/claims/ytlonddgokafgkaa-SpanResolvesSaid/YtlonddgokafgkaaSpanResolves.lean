/- SpanResolves: for every list and size span.Resolve and the reference answer the same. -/
import Derived.Test.YtlonddgokafgkaaRows
import Derived.Test.YtlonddgokafgkaaFrame
import Derived.Test.YtlonddgokafgkaaWSpanR
import Derived.Test.YtlonddgokafgkaaWEqP
import Derived.Test.YtlonddgokafgkaaOpen
namespace Go.Proofs.Ytlonddgokafgkaa.spanResolves
open Go.RowKit Go.Larder Go.ChangeShapes Go.WideShapes Go.ChangeAt
open Go.ChangeMaps (open_string shut_string)
set_option linter.unusedVariables false
set_option linter.unusedSimpArgs false

theorem walkL (l : List (Int × Int)) (A : Option Addr) (c : Nat) (hlc : l.length ≤ c) (hb : l.length * 16 ≤ 140737488351232) (_ : ∀ x ∈ l, True) (_ : ∀ x ∈ l, (-9223372036854775808 ≤ x.1 ∧ x.1 ≤ 9223372036854775807) ∧ (-9223372036854775808 ≤ x.2 ∧ x.2 ≤ 9223372036854775807))
    (size : Int) (hsz : -9223372036854775808 ≤ size ∧ size ≤ 9223372036854775807) (w : World) (hr : ReadL encII w w.heap.size A l) :
    Calls Try.prog 11 #[.slice A l.length c, .int .i64 size] w fun e w' => e = .returned (.bool true) ∧ Below w.heap.size w w' := by
  go_enter Try.func11, Try.ntmps11
  have hl : l.length ≤ 140737488351232 := by omega
  cases hres : spanRes l size with
  | error n =>
    go_wp2_with fail
    refine (w_Resolve l size hsz hl A c _ hr).mono ?_
    intro e w1 hp1
    obtain ⟨rfl, hb1⟩ := hp1.err hres
    go_wp2_with fail
    refine (w_ResolveR l size hsz hl A c _ (hr.below hb1 (Nat.le_refl _) |>.more hb1.size)).mono ?_
    intro e w2 hp2
    obtain ⟨rfl, hb2⟩ := hp2.err hres
    go_wp2_with fail
    refine (w_Eq_nums_Slice [] (by simp) none none 0 0 0 0 _ (by omega) (by omega) ReadL.nil ReadL.nil).mono ?_
    rintro e w3 ⟨rfl, hb3⟩
    go_wp2_with fail
    go_ret
    have hb12 := hb1.trans (hb2.mono hb1.size)
    exact ⟨rfl, hb12.trans (hb3.mono hb12.size)⟩
  | ok out =>
    have hlen : out.length ≤ 20 := spanRes_len hres
    go_wp2_with fail
    refine (w_Resolve l size hsz hl A c _ hr).mono ?_
    intro e w1 hp1
    obtain ⟨A1, c1, rfl, ho1, hb1⟩ := hp1.ok_ hres
    have hr1 := Lib.hid ho1.read
    clear ho1
    go_wp2_with fail
    refine (w_ResolveR l size hsz hl A c _ (hr.below hb1 (Nat.le_refl _) |>.more hb1.size)).mono ?_
    intro e w2 hp2
    obtain ⟨A2, c2, rfl, ho2, hb2⟩ := hp2.ok_ hres
    have hr2 := Lib.hid ho2.read
    clear ho2
    go_wp2_with fail
    refine (w_Eq_nums_Slice out (by omega) A1 A2 c1 c2 _ _ _ hb2.size (Nat.le_refl _) (hr1.out.below hb2 (Nat.le_refl _)) hr2.out).mono ?_
    rintro e w3 ⟨rfl, hb3⟩
    go_wp2_with fail
    go_ret
    have hb12 := hb1.trans (hb2.mono hb1.size)
    exact ⟨rfl, hb12.trans (hb3.mono hb12.size)⟩

theorem own : ownKnob Try.prog.godebug = none := by kernel_rfl
theorem laidOut : laidOutB Try.prog = true := by kernel_rfl
set_option maxRecDepth 100000 in
theorem lifted (os : Os) (started : os.Started) (H : Type) (enc : TypeId × Value → H) :
    ReturnsInHanded {} Try.checked os 11 .any (Rows.spanResolvesSpec.pre6 enc Try.prog Try.f11 Rows.spanResolvesRow.domain false) (Rows.spanResolvesSpec.post enc Try.prog Try.f11 false true false false) := by
  refine returnsInHanded_of_change_shaped (C := Try.checked) own started (by kernel_rfl) Try.func11
    (ChangeSpec.witness6 (enc := enc) (C := Try.checked) false ⟨#[], #[.slice none 0 0, .int .i64 0], []⟩ 8 (by kernel_rfl) (by kernel_rfl) (by kernel_rfl) (by kernel_rfl)) ?_
  intro W base args ds gs before hval0 hW hcnd hsz0 hsh _
  have hval : ∀ (j : Nat) t v, Try.f11.params[j]? = some t → args[j]? = some v → Value.okWide Try.prog W .any base t v := hval0
  have hW' := hW
  obtain ⟨p, q, hA0, hV, rfl, hfz, hnd⟩ := hW
  have hA : DataW.TrodAll enc Try.prog W 0 (fun _ => true) true Try.f11.params.toList args.toList ds p := hA0
  have hsz1 : (DataW.weightsEach Try.prog (Try.f11.params.toList ++ Rows.spanResolvesSpec.plain.varTypes Try.prog) (ds ++ gs)).all (· ≤ reachBytes) = true := hsz0
  rw [Try.params11] at hA hval hsz1
  obtain ⟨v0, vs0, d0, ds0, p0, q0, hargs, rfl, rfl, h0, r0⟩ := trodAll_cons hA
  obtain ⟨v1, vs1, d1, ds1, p1, q1, rfl, rfl, rfl, h1, r1⟩ := trodAll_cons r0
  obtain ⟨rfl, rfl, rfl⟩ := trodAll_nil r1
  obtain rfl : args = #[v0, v1] := by cases args; simp_all
  obtain ⟨rfl, rfl⟩ := trodVars_none hV
  simp only [List.append_nil] at hsz1
  have k0 := h0
  have lt0 : ∀ x ∈ p0, x.block < W.heap.size := by obtain ⟨m, hm⟩ := k0; exact DataW.trod_lt m _ _ _ hm
  obtain ⟨A0, l0, c0, rfl, lc0, cm0, rd0, ok0, dd0⟩ := open_list (enc := enc) (OpenE.nums (f0 := _) (f1 := _) Try.underlying85 (by kernel_rfl) Try.underlying3 Try.underlying3 rfl rfl (by kernel_rfl) (by kernel_rfl)) Try.underlying50 (hval 0 50 v0 rfl rfl) h0
  have sz0 := sized_list (enc := enc) (OpenE.nums (f0 := _) (f1 := _) Try.underlying85 (by kernel_rfl) Try.underlying3 Try.underlying3 rfl rfl (by kernel_rfl) (by kernel_rfl)) Try.underlying50 hsz1 (j := 0) (t := 50) rfl rfl dd0
  rw [show Try.prog.bytesOf 85 = 16 from by kernel_rfl] at sz0
  have b0 : l0.length * 16 ≤ 140737488351232 := sz0.1
  have k1 := h1
  have lt1 : ∀ x ∈ p1, x.block < W.heap.size := by obtain ⟨m, hm⟩ := k1; exact DataW.trod_lt m _ _ _ hm
  obtain ⟨a1, rfl, rfl, rfl, w1⟩ := open_int Try.underlying3 (hval 1 3 v1 rfl rfl) h1
  clear hA0 hval0
  refine (walkL l0 A0 c0 lc0 b0 sz0.2 ok0 a1 (bounds_i64 w1) W rd0).mono fun e W' ⟨he, bel⟩ => ?_
  subst he
  exact ⟨_, rfl, _, _, _, [], _, [], hW', trodAll_mk1 (shut_bool Try.underlying4 _), (trodAll_cons_mk (Below.trod laidOut (by kernel_rfl) (of_decide_eq_true (by kernel_rfl)) k0 bel lt0) (trodAll_cons_mk (Below.trod laidOut (by kernel_rfl) (of_decide_eq_true (by kernel_rfl)) k1 bel lt1) trodAll_mk0)), rfl, bel.frame _, fun h => by cases h⟩

/-- The statement. -/
theorem proved : Rows.SpanResolvesSaid :=
  OpenClaim.holds_of_wide 11 Try.f11 rfl rfl rfl rfl rfl rfl rfl ⟨rfl, rfl, rfl, rfl, rfl⟩ rfl rfl rfl rfl rfl (by kernel_rfl) Try.func11 (by kernel_rfl)
    (of_decide_eq_true (by kernel_rfl)) (by unfold Func.isWrapper; first | (rw [if_pos (by decide +kernel)]; kernel_rfl) | (rw [if_neg (by decide +kernel)]; exact ⟨rfl, rfl⟩))
    (fun os started H enc _ => lifted os started H enc)
#print axioms proved
end Go.Proofs.Ytlonddgokafgkaa.spanResolves
