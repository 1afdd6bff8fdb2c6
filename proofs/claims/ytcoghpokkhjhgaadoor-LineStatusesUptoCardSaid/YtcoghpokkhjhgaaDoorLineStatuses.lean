/- LineStatuses: for every code and all texts, of bulk at most 1048576, line.PrintStatus and line.ParseStatus answer as the reference does. -/
import Derived.Test.YtcoghpokkhjhgaaDoorRows
import Derived.Test.YtcoghpokkhjhgaaDoorTie
import Derived.Test.YtcoghpokkhjhgaaDoorCards
import Derived.Test.YtcoghpokkhjhgaaDoorFrame
import Derived.SevenTiedAt
import Derived.Deep.DeepHandedRow
import Derived.Lib.SmallJoins
import Derived.Test.YtcoghpokkhjhgaaDoorDoorLineStatuses
import Derived.Test.YtcoghpokkhjhgaaDoorWStatR
import Derived.Test.YtcoghpokkhjhgaaDoorWEv
import Derived.Test.YtcoghpokkhjhgaaDoorFlat
import Derived.Test.YtcoghpokkhjhgaaDoorOpen
namespace Go.Proofs.YtcoghpokkhjhgaaDoor.lineStatuses
open Go.RowKit Go.Larder Go.ChangeShapes Go.WideShapes Go.ChangeAt
open Go.ChangeMaps (open_string shut_string)
open Go.Joins (open_agg2 open_agg3)
set_option linter.unusedVariables false
set_option linter.unusedSimpArgs false

theorem walkL (code : Int) (_ : -9223372036854775808 ≤ code ∧ code ≤ 9223372036854775807) (m : List UInt8) (hm : m.length ≤ 1048576) (s : List UInt8) (hs : s.length ≤ 1048576) (w : World) (hL : laidMetH Tryd.prog Rows.lineStatusesUptoRow.laid w) (hsh : w.ShapedOpen Tryd.prog) :
    Calls Tryd.prog 4 #[.int .i64 code, S m, S s] w fun e w' => e = .returned (.bool true) ∧ Below w.heap.size w w' := by
  have hM := ML.shaped hsh
  have hP : PW w := PW.laid (by kernel_rfl) hL 2 (by kernel_rfl)
  have hE : EV w := EV.laid (by kernel_rfl) hL 5 4 (by kernel_rfl) (by kernel_rfl)
  clear hL hsh
  have hq1 := fun w hMW hPW => w_PrintStatus code m w hMW hPW
  have hq2 := fun w => w_LineStatus code m (by omega) w
  have hq3 := fun w hMW hPW hEW => w_ParseStatus s hs w hMW hPW hEW
  have hq4 := fun w hMW => w_LineStatusOf s hs w hMW
  generalize statE code m = E1 at hq1 hq2
  generalize stRes s = E2 at hq3 hq4
  obtain ⟨c3, d3, k3, n3⟩ := E2
  clear hm hs
  go_enter Tryd.func4, Tryd.ntmps4
  go_wp2_with fail
  refine (hq1 _ hM hP).mono ?_
  intro e w1 hp1
  obtain ⟨a1, n1, rfl, he1, hb1⟩ := flatSt hp1
  go_wp2_with fail
  refine (hq2 _).mono ?_
  intro e w2 hp2
  obtain ⟨a2, n2, rfl, he2, hb2⟩ := flatSt hp2
  rw [← he1] at he2
  injection he2 with hqa hqn
  subst hqa hqn
  have hb12 := hb1.trans (hb2.mono hb1.size)
  have hM2 := hM.keep hb12
  have hP2 := hP.keep hb12
  have hE2 := hE.keep hb12
  clear hp1 hp2 he1 hb1 hb2 hq1 hq2
  go_wp2_with fail
  refine (hq3 _ hM2 hP2 hE2).mono ?_
  rintro e w3 ⟨rfl, hb3⟩
  have hb13 := hb12.trans (hb3.mono hb12.size)
  have hM3 := hM.keep hb13
  go_wp2_with fail
  refine (hq4 _ hM3).mono ?_
  rintro e w4 ⟨rfl, hb4⟩
  have hb14 := hb13.trans (hb4.mono hb13.size)
  clear hb3 hb4 hb12 hb13 hq3 hq4
  go_wp2_with fail
  go_ret
  exact ⟨by simp, hb14⟩

theorem own : ownKnob Tryd.prog.godebug = none := by kernel_rfl
theorem laidOut : laidOutB Tryd.prog = true := by kernel_rfl
theorem reads (os : Os) {H : Type} (enc : TypeId × Value → H) : ∃ places, DataW.whole enc Tryd.prog ((laidWorld os).forCall (fun _ _ => 0) ⟨#[], #[.int .i64 0, .string ByteArray.empty, .string ByteArray.empty], []⟩).memory Tryd.f4.params.toList Rows.lineStatusesSpec.vars false (#[.int .i64 0, .string ByteArray.empty, .string ByteArray.empty] : Array Value).toList 8 = some ([.lit (.int .i64 0), .lit (.string []), .lit (.string [])], [], places) :=
  ⟨[], by kernel_rfl⟩
set_option maxRecDepth 100000 in
theorem lifted (os : Os) (started : os.Started) (H : Type) (enc : TypeId × Value → H) (F : Stop.Interp) :
    ReturnsInHanded {} Tryd.checked os 4 .any ((Rows.OpenSpec.upto Rows.lineStatusesSpec).preRow enc Tryd.prog Tryd.f4 Rows.lineStatusesUptoRow.domain false Rows.lineStatusesUptoRow.laid) (((Rows.OpenSpec.upto Rows.lineStatusesSpec).at F).post enc Tryd.prog Tryd.f4 false true false false) := by
  obtain ⟨places, hx⟩ := reads os enc
  refine returnsInHanded_of_row (C := Tryd.checked) (s := Rows.OpenSpec.upto Rows.lineStatusesSpec) own started (by kernel_rfl) Tryd.func4
    (witness_row_at (enc := enc) (C := Tryd.checked) false (laidWorld os) #[.int .i64 0, .string ByteArray.empty, .string ByteArray.empty] rfl (by kernel_rfl) (by kernel_rfl) (by kernel_rfl)
      (OpenSpec.preRow_of_cond 8 hx (by kernel_rfl) (fun k hk => by cases hk; kernel_rfl) (by kernel_rfl) (laidWorld_met os _))) ?_
  intro W base args ds gs before hval0 hW hcnd hcond hsz0 hL hsh _
  have hk0 := hcond _ rfl
  clear hcond
  have hval : ∀ (j : Nat) t v, Tryd.f4.params[j]? = some t → args[j]? = some v → Value.okWide Tryd.prog W .any base t v := hval0
  have hW' := hW
  obtain ⟨p, q, hA0, hV, rfl, hfz, hnd⟩ := hW
  have hA : DataW.TrodAll enc Tryd.prog W 0 (fun _ => true) true Tryd.f4.params.toList args.toList ds p := hA0
  rw [Tryd.params4] at hA hval
  obtain ⟨v0, vs0, d0, ds0, p0, q0, hargs, rfl, rfl, h0, r0⟩ := trodAll_cons hA
  obtain ⟨v1, vs1, d1, ds1, p1, q1, rfl, rfl, rfl, h1, r1⟩ := trodAll_cons r0
  obtain ⟨v2, vs2, d2, ds2, p2, q2, rfl, rfl, rfl, h2, r2⟩ := trodAll_cons r1
  obtain ⟨rfl, rfl, rfl⟩ := trodAll_nil r2
  obtain rfl : args = #[v0, v1, v2] := by cases args; simp_all
  obtain ⟨rfl, rfl⟩ := trodVars_none hV
  simp only [List.append_nil] at hk0
  have hbulk := of_decide_eq_true hk0
  simp only [Rows.uptoBulkAll] at hbulk
  have k0 := h0
  have lt0 : ∀ x ∈ p0, x.block < W.heap.size := by obtain ⟨m, hm⟩ := k0; exact DataW.trod_lt m _ _ _ hm
  obtain ⟨a0, rfl, rfl, rfl, w0⟩ := open_int Tryd.underlying3 (hval 0 3 v0 rfl rfl) h0
  have k1 := h1
  have lt1 : ∀ x ∈ p1, x.block < W.heap.size := by obtain ⟨m, hm⟩ := k1; exact DataW.trod_lt m _ _ _ hm
  obtain ⟨s1, rfl, rfl, rfl, w1⟩ := open_string Tryd.underlying9 (hval 1 9 v1 rfl rfl) h1
  obtain ⟨⟨l1⟩⟩ := s1
  have b1 : l1.length ≤ 1048576 := by simp only [Rows.uptoBulk] at hbulk; omega
  have k2 := h2
  have lt2 : ∀ x ∈ p2, x.block < W.heap.size := by obtain ⟨m, hm⟩ := k2; exact DataW.trod_lt m _ _ _ hm
  obtain ⟨s2, rfl, rfl, rfl, w2⟩ := open_string Tryd.underlying9 (hval 2 9 v2 rfl rfl) h2
  obtain ⟨⟨l2⟩⟩ := s2
  have b2 : l2.length ≤ 1048576 := by simp only [Rows.uptoBulk] at hbulk; omega
  clear hA0 hval0
  refine (walkL a0 (bounds_i64 w0) l1 b1 l2 b2 W hL hsh).mono fun e W' ⟨he, bel⟩ => ?_
  subst he
  exact ⟨_, rfl, _, _, _, [], _, [], hW', trodAll_mk1 (shut_bool Tryd.underlying4 _), (trodAll_cons_mk (Below.trod laidOut (by kernel_rfl) (of_decide_eq_true (by kernel_rfl)) k0 bel lt0) (trodAll_cons_mk (Below.trod laidOut (by kernel_rfl) (of_decide_eq_true (by kernel_rfl)) k1 bel lt1) (trodAll_cons_mk (Below.trod laidOut (by kernel_rfl) (of_decide_eq_true (by kernel_rfl)) k2 bel lt2) trodAll_mk0))), rfl, bel.frame _, fun h => by cases h⟩

/-- The statement. -/
theorem proved : Rows.LineStatusesUptoSaid :=
  OpenClaim.holds_of_cond 4 Tryd.f4 rfl rfl rfl rfl rfl rfl rfl ⟨rfl, rfl, rfl, rfl, rfl⟩ rfl rfl rfl rfl rfl (by kernel_rfl) Tryd.func4 (by kernel_rfl)
    (of_decide_eq_true (by kernel_rfl)) (by unfold Func.isWrapper; first | (rw [if_pos (by decide +kernel)]; kernel_rfl) | (rw [if_neg (by decide +kernel)]; exact ⟨rfl, rfl⟩))
    (fun os started H enc _ F => by rw [OpenClaim.pre_eq_preRow]; exact lifted os started H enc F)
#print axioms proved

/-- The card: the row, its listed variables tied to the program's text. -/
theorem card : Rows.LineStatusesUptoCardSaid :=
  Claim7.holds_tied_plain_at .later [] _ _ _ _
    proved (fun _ h => by cases h) (by kernel_rfl) (fun _ h => by cases h) lineStatusesUpto_row_tie rfl ⟨rfl, rfl⟩ (by kernel_rfl) rfl
    (fun f fn hf hfn => by
      obtain rfl : f = 4 := Option.some.inj ((show Tryd.prog.funcNamed "larder/larderlaw.LineStatuses" = some 4 by kernel_rfl).symm.trans hf) |>.symm
      obtain rfl : fn = Tryd.f4 := (Option.some.inj (Tryd.func4.symm.trans hfn)).symm
      exact ⟨by kernel_rfl, fun j t ht => by
        rw [Tryd.params4] at ht
        have hm : t ∈ [3, 9, 9] := by simpa using Array.mem_of_getElem? ht
        have hall : ([3, 9, 9].all fun u => !Tryd.prog.wantsStandIn u) = true := by kernel_rfl
        exact (show Tryd.prog.wantsStandIn t = false by simpa using List.all_eq_true.1 hall t hm)⟩)
    (by kernel_rfl)
#print axioms card
end Go.Proofs.YtcoghpokkhjhgaaDoor.lineStatuses
