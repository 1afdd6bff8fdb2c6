/- TagSays: for all tags and texts etag.Print, Parse, Strong and Weak answer as the reference does. -/
import Derived.Test.YtbblihfkfgmfaaaRows
import Derived.Test.YtbblihfkfgmfaaaFrame
import Derived.Lib.SmallJoins
import Derived.Test.YtbblihfkfgmfaaaWTagP
import Derived.Test.YtbblihfkfgmfaaaWTagC
import Derived.Test.YtbblihfkfgmfaaaOpen
namespace Go.Proofs.Ytbblihfkfgmfaaa.tagSays
open Go.RowKit Go.Larder Go.ChangeShapes Go.WideShapes Go.ChangeAt
open Go.ChangeMaps (open_string shut_string)
open Go.Joins (open_agg2 open_agg3)
set_option linter.unusedVariables false
set_option linter.unusedSimpArgs false

def tFl : Option (Bool × List UInt8) → Bool × List UInt8 × Int
  | none => (false, [], 3)
  | some (wk, t) => (wk, t, 0)
theorem tFlat {w : World} {r : Option (Bool × List UInt8)} {e : Ending} {w' : World} (h : TPost w r e w') : ∃ b t n, e = .returned (.tuple #[.agg #[.bool b, S t], .int .i64 n]) ∧ (b, t, n) = tFl r ∧ Below w.heap.size w w' := by
  cases r with
  | none => exact ⟨_, _, _, h.1, rfl, h.2⟩
  | some x => exact ⟨_, _, _, h.1, rfl, h.2⟩
set_option maxHeartbeats 4000000 in
theorem walkL (wa : Bool) (ta : List UInt8) (wb : Bool) (tb : List UInt8) (s : List UInt8) (hs : s.length ≤ 140737488351232) (w : World) :
    Calls Try.prog 3 #[.agg #[.bool wa, S ta], .agg #[.bool wb, S tb], S s] w fun e w' => e = .returned (.bool true) ∧ Below w.heap.size w w' := by
  have hq1 := fun w => w_TagPrint wa ta w
  have hq2 := fun w => w_TagPrintR wa ta w
  have hq3 := fun w => w_tparse s hs w
  have hq4 := fun w => w_tparseR s hs w
  have hq5 := fun w => w_Strong wa wb ta tb w
  have hq6 := fun w => w_Weak wa wb ta tb w
  rw [parseT_eq] at hq3
  generalize tagE wa ta = E1 at hq1 hq2
  generalize parseTR s = E2 at hq3 hq4
  clear hs
  have a0 : BoxAt ((w.alloc (.cells #[.bool wa, S ta] 23)).alloc (.cells #[.bool wb, S tb] 23)) w.heap.size 23 [.bool wa, S ta] := (BoxAt.new w [.bool wa, S ta] 23).alloc _
  have b0 : BoxAt ((w.alloc (.cells #[.bool wa, S ta] 23)).alloc (.cells #[.bool wb, S tb] 23)) (w.heap.size + 1) 23 [.bool wb, S tb] := by
    have := BoxAt.new (w.alloc (.cells #[.bool wa, S ta] 23)) [.bool wb, S tb] 23
    rwa [show (w.alloc (.cells #[.bool wa, S ta] 23)).heap.size = w.heap.size + 1 from by simp] at this
  have hB0 : Below w.heap.size w ((w.alloc (.cells #[.bool wa, S ta] 23)).alloc (.cells #[.bool wb, S tb] 23)) := ((Below.refl w.heap.size w).alloc (Nat.le_refl _) _).alloc (by simp) _
  go_enter Try.func3, Try.ntmps3
  go_wp2_with fail
  refine (hq1 _).mono ?_
  intro e w1 hp1
  obtain ⟨a1, n1, rfl, he1, hb1⟩ := flatSt hp1
  have hB1 := hB0.trans (hb1.mono hB0.size)
  have a1' := a0.keep hb1
  have b1' := b0.keep hb1
  have c0 := a1'.cell (j := 0) rfl
  have c1 := a1'.cell (j := 1) rfl
  clear hp1 hb1 hB0 a0 b0
  go_wp2_with fail
  refine (hq2 _).mono ?_
  intro e w2 hp2
  obtain ⟨a2, n2, rfl, he2, hb2⟩ := flatSt hp2
  rw [← he1] at he2
  injection he2 with hqa hqn
  subst hqa hqn
  have hB2 := hB1.trans (hb2.mono hB1.size)
  have a2' := a1'.keep hb2
  have b2' := b1'.keep hb2
  clear hp2 hb2 hB1 a1' b1' he1 c0 c1
  go_wp2_with fail
  refine (hq3 _).mono ?_
  intro e w3 hp3
  obtain ⟨x3, t3, n3, rfl, he3, hb3⟩ := tFlat hp3
  have hB3 := (hB2.trans (hb3.mono hB2.size)).alloc (by have := hB2.size; have := hb3.size; omega) (.cells #[.bool x3, S t3] 23)
  have hz3 : w.heap.size ≤ w3.heap.size := Nat.le_trans hB2.size hb3.size
  have a3' := (a2'.keep hb3).alloc (.cells #[.bool x3, S t3] 23)
  have b3' := (b2'.keep hb3).alloc (.cells #[.bool x3, S t3] 23)
  have d3' := BoxAt.new w3 [.bool x3, S t3] 23
  clear hp3 hb3 hB2 a2' b2'
  go_wp2_with fail
  refine (hq4 _).mono ?_
  intro e w4 hp4
  obtain ⟨x4, t4, n4, rfl, he4, hb4⟩ := tFlat hp4
  rw [← he3] at he4
  simp only [Prod.mk.injEq] at he4
  obtain ⟨rfl, rfl, rfl⟩ := he4
  have hz4 : w3.heap.size + 1 ≤ w4.heap.size := by have := hb4.size; simp at this; omega
  have hB4 := (hB3.trans (hb4.mono hB3.size)).alloc (by omega) (.cells #[.bool x4, S t4] 23)
  have a4' := a3'.keep hb4
  have b4' := b3'.keep hb4
  have d4' := d3'.keep hb4
  have c0 := a4'.cell (j := 0) rfl
  have c1 := a4'.cell (j := 1) rfl
  have c2 := b4'.cell (j := 0) rfl
  have c3 := b4'.cell (j := 1) rfl
  have c4 := d4'.cell (j := 0) rfl
  have c5 := d4'.cell (j := 1) rfl
  have l1 := a4'.lt
  have l2 := b4'.lt
  have l3 := d4'.lt
  clear hp4 hb4 hB3 a3' b3' d3' he3 hq1 hq2 hq3 hq4
  go_wp2_with fail
  refine (hq5 _).mono ?_
  rintro e w5 ⟨rfl, hb5⟩
  have hB5 := hB4.trans (hb5.mono hB4.size)
  have a5' := (a4'.alloc (.cells #[.bool x4, S t4] 23)).keep hb5
  have b5' := (b4'.alloc (.cells #[.bool x4, S t4] 23)).keep hb5
  have c0 := a5'.cell (j := 0) rfl
  have c1 := a5'.cell (j := 1) rfl
  have c2 := b5'.cell (j := 0) rfl
  have c3 := b5'.cell (j := 1) rfl
  clear hb5 hB4 a4' b4' d4' l1 l2 l3 hz3 hz4
  by_cases hte : ta = tb
  · subst hte
    have hs : (ta == ta) = true := by simp
    cases wa
    all_goals
      cases wb
      all_goals
        go_wp2_with fail
        refine (hq6 _).mono ?_
        rintro e w6 ⟨rfl, hb6⟩
        go_wp2_with fail
        go_ret
        exact ⟨ret_bool (by simp), hB5.trans (hb6.mono hB5.size)⟩
  · have hs : (ta == tb) = false := by simpa using hte
    cases wa
    all_goals
      cases wb
      all_goals
        go_wp2_with fail
        refine (hq6 _).mono ?_
        rintro e w6 ⟨rfl, hb6⟩
        go_wp2_with fail
        go_ret
        exact ⟨ret_bool (by simp), hB5.trans (hb6.mono hB5.size)⟩

theorem own : ownKnob Try.prog.godebug = none := by kernel_rfl
theorem laidOut : laidOutB Try.prog = true := by kernel_rfl
set_option maxRecDepth 100000 in
theorem lifted (os : Os) (started : os.Started) (H : Type) (enc : TypeId × Value → H) :
    ReturnsInHanded {} Try.checked os 3 .any (Rows.tagSaysSpec.pre6 enc Try.prog Try.f3 Rows.tagSaysRow.domain false) (Rows.tagSaysSpec.post enc Try.prog Try.f3 false true false false) := by
  refine returnsInHanded_of_change_shaped (C := Try.checked) own started (by kernel_rfl) Try.func3
    (ChangeSpec.witness6 (enc := enc) (C := Try.checked) false ⟨#[], #[.agg #[.bool false, .string ByteArray.empty], .agg #[.bool false, .string ByteArray.empty], .string ByteArray.empty], []⟩ 8 (by kernel_rfl) (by kernel_rfl) (by kernel_rfl) (by kernel_rfl)) ?_
  intro W base args ds gs before hval0 hW hcnd hsz0 hsh _
  have hval : ∀ (j : Nat) t v, Try.f3.params[j]? = some t → args[j]? = some v → Value.okWide Try.prog W .any base t v := hval0
  have hW' := hW
  obtain ⟨p, q, hA0, hV, rfl, hfz, hnd⟩ := hW
  have hA : DataW.TrodAll enc Try.prog W 0 (fun _ => true) true Try.f3.params.toList args.toList ds p := hA0
  have hsz1 : (DataW.weightsEach Try.prog (Try.f3.params.toList ++ Rows.tagSaysSpec.plain.varTypes Try.prog) (ds ++ gs)).all (· ≤ reachBytes) = true := hsz0
  rw [Try.params3] at hA hval hsz1
  obtain ⟨v0, vs0, d0, ds0, p0, q0, hargs, rfl, rfl, h0, r0⟩ := trodAll_cons hA
  obtain ⟨v1, vs1, d1, ds1, p1, q1, rfl, rfl, rfl, h1, r1⟩ := trodAll_cons r0
  obtain ⟨v2, vs2, d2, ds2, p2, q2, rfl, rfl, rfl, h2, r2⟩ := trodAll_cons r1
  obtain ⟨rfl, rfl, rfl⟩ := trodAll_nil r2
  obtain rfl : args = #[v0, v1, v2] := by cases args; simp_all
  obtain ⟨rfl, rfl⟩ := trodVars_none hV
  simp only [List.append_nil] at hsz1
  have k0 := h0
  have lt0 : ∀ x ∈ p0, x.block < W.heap.size := by obtain ⟨m, hm⟩ := k0; exact DataW.trod_lt m _ _ _ hm
  obtain ⟨c0_0, c0_1, y0_0, y0_1, m0, rfl, rfl, -, g0_0, g0_1⟩ := open_agg2 Try.underlying23 (by kernel_rfl) (by kernel_rfl) (hval 0 23 v0 rfl rfl) h0
  obtain ⟨x0_0, e0_0, rfl⟩ := DataW.trod_bool Try.underlying4 g0_0
  simp only [List.cons.injEq, and_true] at e0_0
  subst e0_0
  obtain ⟨x0_1, e0_1, rfl, w0_1⟩ := DataW.trod_string Try.underlying9 g0_1
  simp only [List.cons.injEq, and_true] at e0_1
  subst e0_1
  obtain ⟨⟨l0_1⟩⟩ := x0_1
  have k1 := h1
  have lt1 : ∀ x ∈ p1, x.block < W.heap.size := by obtain ⟨m, hm⟩ := k1; exact DataW.trod_lt m _ _ _ hm
  obtain ⟨c1_0, c1_1, y1_0, y1_1, m1, rfl, rfl, -, g1_0, g1_1⟩ := open_agg2 Try.underlying23 (by kernel_rfl) (by kernel_rfl) (hval 1 23 v1 rfl rfl) h1
  obtain ⟨x1_0, e1_0, rfl⟩ := DataW.trod_bool Try.underlying4 g1_0
  simp only [List.cons.injEq, and_true] at e1_0
  subst e1_0
  obtain ⟨x1_1, e1_1, rfl, w1_1⟩ := DataW.trod_string Try.underlying9 g1_1
  simp only [List.cons.injEq, and_true] at e1_1
  subst e1_1
  obtain ⟨⟨l1_1⟩⟩ := x1_1
  have k2 := h2
  have lt2 : ∀ x ∈ p2, x.block < W.heap.size := by obtain ⟨m, hm⟩ := k2; exact DataW.trod_lt m _ _ _ hm
  obtain ⟨s2, rfl, rfl, rfl, w2⟩ := open_string Try.underlying9 (hval 2 9 v2 rfl rfl) h2
  obtain ⟨⟨l2⟩⟩ := s2
  have b2 : l2.length ≤ 140737488351232 := sized_string hsz1 (j := 2) (t := 9) rfl rfl
  clear hA0 hval0
  refine (walkL x0_0 l0_1 x1_0 l1_1 l2 b2 W).mono fun e W' ⟨he, bel⟩ => ?_
  subst he
  exact ⟨_, rfl, _, _, _, [], _, [], hW', trodAll_mk1 (shut_bool Try.underlying4 _), (trodAll_cons_mk (Below.trod laidOut (by kernel_rfl) (of_decide_eq_true (by kernel_rfl)) k0 bel lt0) (trodAll_cons_mk (Below.trod laidOut (by kernel_rfl) (of_decide_eq_true (by kernel_rfl)) k1 bel lt1) (trodAll_cons_mk (Below.trod laidOut (by kernel_rfl) (of_decide_eq_true (by kernel_rfl)) k2 bel lt2) trodAll_mk0))), rfl, bel.frame _, fun h => by cases h⟩

/-- The statement. -/
theorem proved : Rows.TagSaysSaid :=
  OpenClaim.holds_of_wide 3 Try.f3 rfl rfl rfl rfl rfl rfl rfl ⟨rfl, rfl, rfl, rfl, rfl⟩ rfl rfl rfl rfl rfl (by kernel_rfl) Try.func3 (by kernel_rfl)
    (of_decide_eq_true (by kernel_rfl)) (by unfold Func.isWrapper; first | (rw [if_pos (by decide +kernel)]; kernel_rfl) | (rw [if_neg (by decide +kernel)]; exact ⟨rfl, rfl⟩))
    (fun os started H enc _ => lifted os started H enc)
#print axioms proved
end Go.Proofs.Ytbblihfkfgmfaaa.tagSays
