/- SpanUnbundles: for all texts of at most 1048576 bytes together and every number span.Unbundle answers as the reference does. -/
import Derived.Test.YtgjikbhehijnaaaDoorRows
import Derived.Test.YtgjikbhehijnaaaDoorTie
import Derived.Test.YtgjikbhehijnaaaDoorCards
import Derived.Test.YtgjikbhehijnaaaDoorFrame
import Derived.SevenTiedAt
import Derived.Deep.DeepHandedRow
import Derived.Lib.SmallJoins
import Derived.Test.YtgjikbhehijnaaaDoorDoorSpanUnbundles
import Derived.Test.YtgjikbhehijnaaaDoorWEv
import Derived.Test.YtgjikbhehijnaaaDoorWUnb
import Derived.Test.YtgjikbhehijnaaaDoorWUnbR
import Derived.Test.YtgjikbhehijnaaaDoorWEqP
import Derived.Test.YtgjikbhehijnaaaDoorWEq
namespace Go.Proofs.YtgjikbhehijnaaaDoor.spanUnbundles
open Go.RowKit Go.Larder Go.ChangeShapes Go.WideShapes Go.ChangeAt
open Go.ChangeMaps (open_string shut_string)
open Go.Joins (open_agg2 open_agg3)
set_option linter.unusedVariables false
set_option linter.unusedSimpArgs false

theorem eqs (l : List Prt) (hl : l.length ≤ 20) (A A' A2 A2' : Option Addr) (c c' c2 c2' : Nat) (w1 w2 : World) (hb : Below w1.heap.size w1 w2)
    (h1 : ReadL encII w1 w1.heap.size A (l.map fun x => x.1)) (h2 : ReadL encS w1 w1.heap.size A' (l.map fun x => x.2)) (h3 : ReadL encII w2 w2.heap.size A2 (l.map fun x => x.1)) (h4 : ReadL encS w2 w2.heap.size A2' (l.map fun x => x.2)) :
    Calls Tryd.prog 30 #[.slice A l.length c, .slice A2 l.length c2] w2 (fun e w' => e = .returned (.bool true) ∧ Below w2.heap.size w2 w') ∧
    ∀ w3, Below w2.heap.size w2 w3 → Calls Tryd.prog 19 #[.slice A' l.length c', .slice A2' l.length c2'] w3 (fun e w' => e = .returned (.bool true) ∧ w3 = w') := by
  have e1 := w_Eq_nums_Slice (l.map fun x => x.1) (by simp; omega) A A2 c c2 w1.heap.size w2.heap.size w2 hb.size (Nat.le_refl _) (h1.below hb (Nat.le_refl _)) h3
  rw [List.length_map] at e1
  refine ⟨e1, fun w3 hb3 => ?_⟩
  have e2 := w_Eq_string (l.map fun x => x.2) (by simp; omega) A' A2' c' c2' w1.heap.size w2.heap.size w3 ((h2.below hb (Nat.le_refl _)).below hb3 hb.size) (h4.below hb3 (Nat.le_refl _))
  rw [List.length_map] at e2
  exact e2
theorem walkL (bd : List UInt8) (hbl : bd.length ≤ 1048576) (s : List UInt8) (hs : s.length ≤ 1048576) (z : Int) (hzr : -9223372036854775808 ≤ z ∧ z ≤ 9223372036854775807) (w : World) (hL : laidMetH Tryd.prog Rows.spanUnbundlesUptoRow.laid w) (hsh : w.ShapedOpen Tryd.prog) :
    Calls Tryd.prog 6 #[S bd, S s, .int .i64 z] w fun e w' => e = .returned (.bool true) ∧ Below w.heap.size w w' := by
  have hM := ML.shaped hsh
  have hP : PW w := PW.laid (by kernel_rfl) hL 2 (by kernel_rfl)
  have hE : EV w := EV.laid (by kernel_rfl) hL 4 3 (by kernel_rfl) (by kernel_rfl)
  clear hL hsh
  have h1 := w_Unbundle bd s z hs hbl w hE hP hM
  have h2 := fun W hMW => w_UnbundleR bd s z hs hbl hzr W hMW
  go_enter Tryd.func6, Tryd.ntmps6
  go_wp2_with fail
  refine h1.mono ?_
  rintro e w1 ⟨ho1, hb1⟩
  have h21 := h2 _ (hM.keep hb1)
  rcases ho1 with ⟨l, A, c, A', c', hbd, hok, rfl, hr1, hr1'⟩ | ⟨rfl, hno⟩
  · go_wp2_with fail
    refine h21.mono ?_
    rintro e w2 ⟨⟨l2, A2, c2, A2', c2', hbd2, hok2, rfl, hr2, hr2'⟩ | ⟨rfl, hno2⟩, hb2⟩
    · obtain rfl := unb_unique hok hok2
      have hl := hok.most
      obtain ⟨e1, e2⟩ := eqs l hl A A' A2 A2' c c' c2 c2' w1 w2 hb2 hr1 hr1' hr2 hr2'
      clear hok hok2 hbd hbd2
      go_wp2_with fail
      refine e1.mono ?_
      rintro e w3 ⟨rfl, hb3⟩
      have e3 := e2 w3 hb3
      go_wp2_with fail
      refine e3.mono ?_
      rintro e w4 ⟨rfl, rfl⟩
      go_wp2_with fail
      go_ret
      exact ⟨by simp, (hb1.trans (hb2.mono hb1.size)).trans (hb3.mono (hb1.trans (hb2.mono hb1.size)).size)⟩
    · exact absurd ⟨hbd, l, hok⟩ hno2
  · go_wp2_with fail
    refine h21.mono ?_
    rintro e w2 ⟨⟨l2, A2, c2, A2', c2', hbd2, hok2, rfl, hr2, hr2'⟩ | ⟨rfl, hno2⟩, hb2⟩
    · exact absurd ⟨hbd2, l2, hok2⟩ hno
    · obtain ⟨e1, e2⟩ := eqs [] (by simp) none none none none 0 0 0 0 w1 w2 hb2 ReadL.nil ReadL.nil ReadL.nil ReadL.nil
      go_wp2_with fail
      refine e1.mono ?_
      rintro e w3 ⟨rfl, hb3⟩
      have e3 := e2 w3 hb3
      go_wp2_with fail
      refine e3.mono ?_
      rintro e w4 ⟨rfl, rfl⟩
      go_wp2_with fail
      go_ret
      exact ⟨by simp, (hb1.trans (hb2.mono hb1.size)).trans (hb3.mono (hb1.trans (hb2.mono hb1.size)).size)⟩

theorem own : ownKnob Tryd.prog.godebug = none := by kernel_rfl
theorem laidOut : laidOutB Tryd.prog = true := by kernel_rfl
theorem reads (os : Os) {H : Type} (enc : TypeId × Value → H) : ∃ places, DataW.whole enc Tryd.prog ((laidWorld os).forCall (fun _ _ => 0) ⟨#[], #[.string ByteArray.empty, .string ByteArray.empty, .int .i64 0], []⟩).memory Tryd.f6.params.toList Rows.spanUnbundlesSpec.vars false (#[.string ByteArray.empty, .string ByteArray.empty, .int .i64 0] : Array Value).toList 8 = some ([.lit (.string []), .lit (.string []), .lit (.int .i64 0)], [], places) :=
  ⟨[], by kernel_rfl⟩
set_option maxRecDepth 100000 in
theorem lifted (os : Os) (started : os.Started) (H : Type) (enc : TypeId × Value → H) (F : Stop.Interp) :
    ReturnsInHanded {} Tryd.checked os 6 .any ((Rows.OpenSpec.upto Rows.spanUnbundlesSpec).preRow enc Tryd.prog Tryd.f6 Rows.spanUnbundlesUptoRow.domain false Rows.spanUnbundlesUptoRow.laid) (((Rows.OpenSpec.upto Rows.spanUnbundlesSpec).at F).post enc Tryd.prog Tryd.f6 false true false false) := by
  obtain ⟨places, hx⟩ := reads os enc
  refine returnsInHanded_of_row (C := Tryd.checked) (s := Rows.OpenSpec.upto Rows.spanUnbundlesSpec) own started (by kernel_rfl) Tryd.func6
    (witness_row_at (enc := enc) (C := Tryd.checked) false (laidWorld os) #[.string ByteArray.empty, .string ByteArray.empty, .int .i64 0] rfl (by kernel_rfl) (by kernel_rfl) (by kernel_rfl)
      (OpenSpec.preRow_of_cond 8 hx (by kernel_rfl) (fun k hk => by cases hk; kernel_rfl) (by kernel_rfl) (laidWorld_met os _))) ?_
  intro W base args ds gs before hval0 hW hcnd hcond hsz0 hL hsh _
  have hk0 := hcond _ rfl
  clear hcond
  have hval : ∀ (j : Nat) t v, Tryd.f6.params[j]? = some t → args[j]? = some v → Value.okWide Tryd.prog W .any base t v := hval0
  have hW' := hW
  obtain ⟨p, q, hA0, hV, rfl, hfz, hnd⟩ := hW
  have hA : DataW.TrodAll enc Tryd.prog W 0 (fun _ => true) true Tryd.f6.params.toList args.toList ds p := hA0
  rw [Tryd.params6] at hA hval
  obtain ⟨v0, vs0, d0, ds0, p0, q0, hargs, rfl, rfl, h0, r0⟩ := trodAll_cons hA
  obtain ⟨v1, vs1, d1, ds1, p1, q1, rfl, rfl, rfl, h1, r1⟩ := trodAll_cons r0
  obtain ⟨v2, vs2, d2, ds2, p2, q2, rfl, rfl, rfl, h2, r2⟩ := trodAll_cons r1
  obtain ⟨rfl, rfl, rfl⟩ := trodAll_nil r2
  obtain rfl : args = #[v0, v1, v2] := by cases args; simp_all
  obtain ⟨rfl, rfl⟩ := trodVars_none hV
  simp only [List.append_nil] at hk0
  have hbulk := of_decide_eq_true hk0
  simp only [Rows.uptoBulkAll] at hbulk
  have k0 := h0
  have lt0 : ∀ x ∈ p0, x.block < W.heap.size := by obtain ⟨m, hm⟩ := k0; exact DataW.trod_lt m _ _ _ hm
  obtain ⟨s0, rfl, rfl, rfl, w0⟩ := open_string Tryd.underlying9 (hval 0 9 v0 rfl rfl) h0
  obtain ⟨⟨l0⟩⟩ := s0
  have b0 : l0.length ≤ 1048576 := by simp only [Rows.uptoBulk] at hbulk; omega
  have k1 := h1
  have lt1 : ∀ x ∈ p1, x.block < W.heap.size := by obtain ⟨m, hm⟩ := k1; exact DataW.trod_lt m _ _ _ hm
  obtain ⟨s1, rfl, rfl, rfl, w1⟩ := open_string Tryd.underlying9 (hval 1 9 v1 rfl rfl) h1
  obtain ⟨⟨l1⟩⟩ := s1
  have b1 : l1.length ≤ 1048576 := by simp only [Rows.uptoBulk] at hbulk; omega
  have k2 := h2
  have lt2 : ∀ x ∈ p2, x.block < W.heap.size := by obtain ⟨m, hm⟩ := k2; exact DataW.trod_lt m _ _ _ hm
  obtain ⟨a2, rfl, rfl, rfl, w2⟩ := open_int Tryd.underlying3 (hval 2 3 v2 rfl rfl) h2
  clear hA0 hval0
  refine (walkL l0 b0 l1 b1 a2 (bounds_i64 w2) W hL hsh).mono fun e W' ⟨he, bel⟩ => ?_
  subst he
  exact ⟨_, rfl, _, _, _, [], _, [], hW', trodAll_mk1 (shut_bool Tryd.underlying4 _), (trodAll_cons_mk (Below.trod laidOut (by kernel_rfl) (of_decide_eq_true (by kernel_rfl)) k0 bel lt0) (trodAll_cons_mk (Below.trod laidOut (by kernel_rfl) (of_decide_eq_true (by kernel_rfl)) k1 bel lt1) (trodAll_cons_mk (Below.trod laidOut (by kernel_rfl) (of_decide_eq_true (by kernel_rfl)) k2 bel lt2) trodAll_mk0))), rfl, bel.frame _, fun h => by cases h⟩

/-- The statement. -/
theorem proved : Rows.SpanUnbundlesUptoSaid :=
  OpenClaim.holds_of_cond 6 Tryd.f6 rfl rfl rfl rfl rfl rfl rfl ⟨rfl, rfl, rfl, rfl, rfl⟩ rfl rfl rfl rfl rfl (by kernel_rfl) Tryd.func6 (by kernel_rfl)
    (of_decide_eq_true (by kernel_rfl)) (by unfold Func.isWrapper; first | (rw [if_pos (by decide +kernel)]; kernel_rfl) | (rw [if_neg (by decide +kernel)]; exact ⟨rfl, rfl⟩))
    (fun os started H enc _ F => by rw [OpenClaim.pre_eq_preRow]; exact lifted os started H enc F)
#print axioms proved

/-- The card: the row, its listed variables tied to the program's text. -/
theorem card : Rows.SpanUnbundlesUptoCardSaid :=
  Claim7.holds_tied_plain_at .later [] _ _ _ _
    proved (fun _ h => by cases h) (by kernel_rfl) (fun _ h => by cases h) spanUnbundlesUpto_row_tie rfl ⟨rfl, rfl⟩ (by kernel_rfl) rfl
    (fun f fn hf hfn => by
      obtain rfl : f = 6 := Option.some.inj ((show Tryd.prog.funcNamed "larder/larderlaw.SpanUnbundles" = some 6 by kernel_rfl).symm.trans hf) |>.symm
      obtain rfl : fn = Tryd.f6 := (Option.some.inj (Tryd.func6.symm.trans hfn)).symm
      exact ⟨by kernel_rfl, fun j t ht => by
        rw [Tryd.params6] at ht
        have hm : t ∈ [9, 9, 3] := by simpa using Array.mem_of_getElem? ht
        have hall : ([9, 9, 3].all fun u => !Tryd.prog.wantsStandIn u) = true := by kernel_rfl
        exact (show Tryd.prog.wantsStandIn t = false by simpa using List.all_eq_true.1 hall t hm)⟩)
    (by kernel_rfl)
#print axioms card
end Go.Proofs.YtgjikbhehijnaaaDoor.spanUnbundles
