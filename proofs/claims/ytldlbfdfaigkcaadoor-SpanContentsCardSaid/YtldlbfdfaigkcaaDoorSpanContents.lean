/- SpanContents: for every part, size and text span.PrintContent and span.ParseContent answer as the reference does. -/
import Derived.Test.YtldlbfdfaigkcaaDoorRows
import Derived.Test.YtldlbfdfaigkcaaDoorTie
import Derived.Test.YtldlbfdfaigkcaaDoorCards
import Derived.Test.YtldlbfdfaigkcaaDoorFrame
import Derived.SevenTiedAt
import Derived.Deep.DeepHandedRow
import Derived.Lib.SmallJoins
import Derived.Test.YtldlbfdfaigkcaaDoorDoorSpanContents
import Derived.Test.YtldlbfdfaigkcaaDoorWCtN
import Derived.Test.YtldlbfdfaigkcaaDoorWCtR
import Derived.Test.YtldlbfdfaigkcaaDoorWEv
import Derived.Test.YtldlbfdfaigkcaaDoorFlat
namespace Go.Proofs.YtldlbfdfaigkcaaDoor.spanContents
open Go.RowKit Go.Larder Go.ChangeShapes Go.WideShapes Go.ChangeAt
open Go.ChangeMaps (open_string shut_string)
open Go.Joins (open_agg2 open_agg3)
set_option linter.unusedVariables false
set_option linter.unusedSimpArgs false

theorem walkL (a : Int) (ha : -9223372036854775808 ≤ a ∧ a ≤ 9223372036854775807) (b : Int) (hb : -9223372036854775808 ≤ b ∧ b ≤ 9223372036854775807) (z : Int) (hz : -9223372036854775808 ≤ z ∧ z ≤ 9223372036854775807) (s : List UInt8) (hs : s.length ≤ 140737488351232) (w : World) (hL : laidMetH Tryd.prog Rows.spanContentsRow.laid w) (hsh : w.ShapedOpen Tryd.prog) :
    Calls Tryd.prog 12 #[.agg #[.int .i64 a, .int .i64 b], .int .i64 z, S s] w fun e w' => e = .returned (.bool true) ∧ Below w.heap.size w w' := by
  have hP : PW w := PW.laid (by kernel_rfl) hL 2 (by kernel_rfl)
  have hE : EV w := EV.laid (by kernel_rfl) hL 4 3 (by kernel_rfl) (by kernel_rfl)
  clear hL hsh
  have hq1 := fun w hP => w_PContent a b z w hP
  have hq2 := fun w => w_PContentR a b z w
  have hq3 := fun w hE hP => w_PcParse s hs w hE hP
  have hq4 := fun w => w_CtParseR s hs w
  have hB0 := (Below.refl w.heap.size w).alloc (Nat.le_refl _) (.cells #[.int .i64 a, .int .i64 b] 54)
  have bx0 := BoxAt.new w [.int .i64 a, .int .i64 b] 54
  have hP0 := hP.keep hB0
  have hE0 := hE.keep hB0
  generalize ctE a b z = E1 at hq1 hq2
  clear ha hb hz
  go_enter Tryd.func12, Tryd.ntmps12
  go_wp2_with fail
  refine (hq1 _ hP0).mono ?_
  intro e w1 hp1
  obtain ⟨a1, n1, rfl, he1, hb1⟩ := flatSt hp1
  have hB1 := hB0.trans (hb1.mono hB0.size)
  have bx1 := bx0.keep hb1
  have q0 := bx1.cell (j := 0) rfl
  have q1 := bx1.cell (j := 1) rfl
  have hP1 := hP0.keep hb1
  have hE1 := hE0.keep hb1
  go_wp2_with fail
  refine (hq2 _).mono ?_
  intro e w2 hp2
  obtain ⟨a2, n2, rfl, he2, hb2⟩ := flatSt hp2
  rw [← he1] at he2
  injection he2 with hqa hqn
  subst hqa hqn
  have hB2 := hB1.trans (hb2.mono hB1.size)
  have hP2 := hP1.keep hb2
  have hE2 := hE1.keep hb2
  clear hp1 hp2 he1 hq1 hq2 bx0 bx1 q0 q1
  go_wp2_with fail
  refine (hq3 _ hE2 hP2).mono ?_
  rintro e w3 ⟨ho1, hb3⟩
  have hB3 := hB2.trans (hb3.mono hB2.size)
  rcases ho1 with ⟨x, y, u, hd, rfl⟩ | ⟨rfl, hn⟩
  · have bx3 := BoxAt.new w3 [.int .i64 x, .int .i64 y] 54
    have hC3 := hB3.alloc hB3.size (.cells #[.int .i64 x, .int .i64 y] 54)
    have Hd := Lib.hid hd
    clear hd
    go_wp2_with fail
    refine (hq4 _).mono ?_
    rintro e w4 ⟨ho2, hb4⟩
    have bx4 := bx3.keep hb4
    have q0 := bx4.cell (j := 0) rfl
    have q1 := bx4.cell (j := 1) rfl
    have hB4 := hC3.trans (hb4.mono hC3.size)
    obtain ⟨x', y', u', hd', rfl⟩ | ⟨rfl, hn⟩ := ho2
    · obtain ⟨rfl, rfl, rfl⟩ := ct_unique Hd.out hd'
      clear hd'
      have bx5 := BoxAt.new w4 [.int .i64 x, .int .i64 y] 54
      have r0 := bx5.cell (j := 0) rfl
      have r1 := bx5.cell (j := 1) rfl
      have bx6 := bx4.alloc (.cells #[.int .i64 x, .int .i64 y] 54)
      have s0 := bx6.cell (j := 0) rfl
      have s1 := bx6.cell (j := 1) rfl
      go_wp2_with fail
      go_ret
      exact ⟨by simp, hB4.alloc hB4.size _⟩
    · exact absurd Hd.out (hn _ _ _)
  · have bx3 := BoxAt.new w3 [.int .i64 0, .int .i64 0] 54
    have hC3 := hB3.alloc hB3.size (.cells #[.int .i64 0, .int .i64 0] 54)
    have Hn := Lib.hid hn
    clear hn
    go_wp2_with fail
    refine (hq4 _).mono ?_
    rintro e w4 ⟨ho2, hb4⟩
    have bx4 := bx3.keep hb4
    have q0 := bx4.cell (j := 0) rfl
    have q1 := bx4.cell (j := 1) rfl
    have hB4 := hC3.trans (hb4.mono hC3.size)
    obtain ⟨x', y', u', hd', rfl⟩ | ⟨rfl, hn⟩ := ho2
    · exact absurd hd' (Hn.out _ _ _)
    · clear hn
      have bx5 := BoxAt.new w4 [.int .i64 0, .int .i64 0] 54
      have r0 := bx5.cell (j := 0) rfl
      have r1 := bx5.cell (j := 1) rfl
      have bx6 := bx4.alloc (.cells #[.int .i64 0, .int .i64 0] 54)
      have s0 := bx6.cell (j := 0) rfl
      have s1 := bx6.cell (j := 1) rfl
      go_wp2_with fail
      go_ret
      exact ⟨by simp, hB4.alloc hB4.size _⟩

theorem own : ownKnob Tryd.prog.godebug = none := by kernel_rfl
theorem laidOut : laidOutB Tryd.prog = true := by kernel_rfl
theorem reads (os : Os) {H : Type} (enc : TypeId × Value → H) : ∃ places, DataW.whole enc Tryd.prog ((laidWorld os).forCall (fun _ _ => 0) ⟨#[], #[.agg #[.int .i64 0, .int .i64 0], .int .i64 0, .string ByteArray.empty], []⟩).memory Tryd.f12.params.toList Rows.spanContentsSpec.vars false (#[.agg #[.int .i64 0, .int .i64 0], .int .i64 0, .string ByteArray.empty] : Array Value).toList 8 = some ([.agg [.lit (.int .i64 0), .lit (.int .i64 0)], .lit (.int .i64 0), .lit (.string [])], [], places) :=
  ⟨[], by kernel_rfl⟩
set_option maxRecDepth 100000 in
theorem lifted (os : Os) (started : os.Started) (H : Type) (enc : TypeId × Value → H) (F : Stop.Interp) :
    ReturnsInHanded {} Tryd.checked os 12 .any ((OpenSpec.ofChange Rows.spanContentsSpec).preRow enc Tryd.prog Tryd.f12 Rows.spanContentsRow.domain false Rows.spanContentsRow.laid) (((OpenSpec.ofChange Rows.spanContentsSpec).at F).post enc Tryd.prog Tryd.f12 false true false false) := by
  obtain ⟨places, hx⟩ := reads os enc
  refine returnsInHanded_of_row (C := Tryd.checked) (s := OpenSpec.ofChange Rows.spanContentsSpec) own started (by kernel_rfl) Tryd.func12
    (witness_row_at (enc := enc) (C := Tryd.checked) false (laidWorld os) #[.agg #[.int .i64 0, .int .i64 0], .int .i64 0, .string ByteArray.empty] rfl (by kernel_rfl) (by kernel_rfl) (by kernel_rfl)
      (OpenSpec.preRow_of_cond 8 hx (by kernel_rfl) (fun k hk => by cases hk) (by kernel_rfl) (laidWorld_met os _))) ?_
  intro W base args ds gs before hval0 hW hcnd _ hsz0 hL hsh _
  have hval : ∀ (j : Nat) t v, Tryd.f12.params[j]? = some t → args[j]? = some v → Value.okWide Tryd.prog W .any base t v := hval0
  have hW' := hW
  obtain ⟨p, q, hA0, hV, rfl, hfz, hnd⟩ := hW
  have hA : DataW.TrodAll enc Tryd.prog W 0 (fun _ => true) true Tryd.f12.params.toList args.toList ds p := hA0
  have hsz1 : (DataW.weightsEach Tryd.prog (Tryd.f12.params.toList ++ Rows.spanContentsSpec.plain.varTypes Tryd.prog) (ds ++ gs)).all (· ≤ reachBytes) = true := hsz0
  rw [Tryd.params12] at hA hval hsz1
  obtain ⟨v0, vs0, d0, ds0, p0, q0, hargs, rfl, rfl, h0, r0⟩ := trodAll_cons hA
  obtain ⟨v1, vs1, d1, ds1, p1, q1, rfl, rfl, rfl, h1, r1⟩ := trodAll_cons r0
  obtain ⟨v2, vs2, d2, ds2, p2, q2, rfl, rfl, rfl, h2, r2⟩ := trodAll_cons r1
  obtain ⟨rfl, rfl, rfl⟩ := trodAll_nil r2
  obtain rfl : args = #[v0, v1, v2] := by cases args; simp_all
  obtain ⟨rfl, rfl⟩ := trodVars_none hV
  simp only [List.append_nil] at hsz1
  have k0 := h0
  have lt0 : ∀ x ∈ p0, x.block < W.heap.size := by obtain ⟨m, hm⟩ := k0; exact DataW.trod_lt m _ _ _ hm
  obtain ⟨c0_0, c0_1, y0_0, y0_1, m0, rfl, rfl, -, g0_0, g0_1⟩ := open_agg2 Tryd.underlying54 (by kernel_rfl) (by kernel_rfl) (hval 0 54 v0 rfl rfl) h0
  obtain ⟨x0_0, e0_0, rfl, w0_0⟩ := DataW.trod_int Tryd.underlying3 g0_0
  simp only [List.cons.injEq, and_true] at e0_0
  subst e0_0
  obtain ⟨x0_1, e0_1, rfl, w0_1⟩ := DataW.trod_int Tryd.underlying3 g0_1
  simp only [List.cons.injEq, and_true] at e0_1
  subst e0_1
  have k1 := h1
  have lt1 : ∀ x ∈ p1, x.block < W.heap.size := by obtain ⟨m, hm⟩ := k1; exact DataW.trod_lt m _ _ _ hm
  obtain ⟨a1, rfl, rfl, rfl, w1⟩ := open_int Tryd.underlying3 (hval 1 3 v1 rfl rfl) h1
  have k2 := h2
  have lt2 : ∀ x ∈ p2, x.block < W.heap.size := by obtain ⟨m, hm⟩ := k2; exact DataW.trod_lt m _ _ _ hm
  obtain ⟨s2, rfl, rfl, rfl, w2⟩ := open_string Tryd.underlying9 (hval 2 9 v2 rfl rfl) h2
  obtain ⟨⟨l2⟩⟩ := s2
  have b2 : l2.length ≤ 140737488351232 := sized_string hsz1 (j := 2) (t := 9) rfl rfl
  clear hA0 hval0
  refine (walkL x0_0 (bounds_i64 w0_0) x0_1 (bounds_i64 w0_1) a1 (bounds_i64 w1) l2 b2 W hL hsh).mono fun e W' ⟨he, bel⟩ => ?_
  subst he
  exact ⟨_, rfl, _, _, _, [], _, [], hW', trodAll_mk1 (shut_bool Tryd.underlying4 _), (trodAll_cons_mk (Below.trod laidOut (by kernel_rfl) (of_decide_eq_true (by kernel_rfl)) k0 bel lt0) (trodAll_cons_mk (Below.trod laidOut (by kernel_rfl) (of_decide_eq_true (by kernel_rfl)) k1 bel lt1) (trodAll_cons_mk (Below.trod laidOut (by kernel_rfl) (of_decide_eq_true (by kernel_rfl)) k2 bel lt2) trodAll_mk0))), rfl, bel.frame _, fun h => by cases h⟩

/-- The statement. -/
theorem proved : Rows.SpanContentsSaid :=
  OpenClaim.holds_of_cond 12 Tryd.f12 rfl rfl rfl rfl rfl rfl rfl ⟨rfl, rfl, rfl, rfl, rfl⟩ rfl rfl rfl rfl rfl (by kernel_rfl) Tryd.func12 (by kernel_rfl)
    (of_decide_eq_true (by kernel_rfl)) (by unfold Func.isWrapper; first | (rw [if_pos (by decide +kernel)]; kernel_rfl) | (rw [if_neg (by decide +kernel)]; exact ⟨rfl, rfl⟩))
    (fun os started H enc _ F => by rw [OpenClaim.pre_eq_preRow]; exact lifted os started H enc F)
#print axioms proved

/-- The card: the row, its listed variables tied to the program's text. -/
theorem card : Rows.SpanContentsCardSaid :=
  Claim7.holds_tied_plain_at .later [] _ _ _ _
    proved (fun _ h => by cases h) (by kernel_rfl) (fun _ h => by cases h) spanContents_row_tie rfl ⟨rfl, rfl⟩ (by kernel_rfl) rfl
    (fun f fn hf hfn => by
      obtain rfl : f = 12 := Option.some.inj ((show Tryd.prog.funcNamed "larder/larderlaw.SpanContents" = some 12 by kernel_rfl).symm.trans hf) |>.symm
      obtain rfl : fn = Tryd.f12 := (Option.some.inj (Tryd.func12.symm.trans hfn)).symm
      exact ⟨by kernel_rfl, fun j t ht => by
        rw [Tryd.params12] at ht
        have hm : t ∈ [54, 3, 9] := by simpa using Array.mem_of_getElem? ht
        have hall : ([54, 3, 9].all fun u => !Tryd.prog.wantsStandIn u) = true := by kernel_rfl
        exact (show Tryd.prog.wantsStandIn t = false by simpa using List.all_eq_true.1 hall t hm)⟩)
    (by kernel_rfl)
#print axioms card
end Go.Proofs.YtldlbfdfaigkcaaDoor.spanContents
