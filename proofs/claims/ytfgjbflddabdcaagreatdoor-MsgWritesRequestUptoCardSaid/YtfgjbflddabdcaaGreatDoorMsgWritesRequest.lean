/- MsgWritesRequest: for every request of bulk at most 1048576, msg.WriteRequest answers as the reference does. -/
import Derived.Test.YtfgjbflddabdcaaGreatDoorRows
import Derived.Test.YtfgjbflddabdcaaGreatDoorTie
import Derived.Test.YtfgjbflddabdcaaGreatDoorCards
import Derived.Test.YtfgjbflddabdcaaGreatDoorFrame
import Derived.SevenTiedAt
import Derived.Deep.DeepHandedRow
import Derived.Lib.SmallJoins
import Derived.Test.YtfgjbflddabdcaaGreatDoorDoorMsgWritesRequest
import Derived.Test.YtfgjbflddabdcaaGreatDoorWMsgQ
import Derived.Test.YtfgjbflddabdcaaGreatDoorWMsgQR
import Derived.Test.YtfgjbflddabdcaaGreatDoorOpenM
import Derived.Test.YtfgjbflddabdcaaGreatDoorWEv
namespace Go.Proofs.YtfgjbflddabdcaaGreatDoor.msgWritesRequest
open Go.RowKit Go.Larder Go.ChangeShapes Go.WideShapes Go.ChangeAt
open Go.ChangeMaps (open_string shut_string)
open Go.Joins (open_agg2 open_agg3)
set_option linter.unusedVariables false
set_option linter.unusedSimpArgs false

theorem walkL (m : List UInt8) (hm : m.length ≤ 1048576) (t : List UInt8) (ht : t.length ≤ 1048576) (A : Option Addr) (l : List Fld) (c : Nat) (hj : (l.map (fun f => f.1.length + f.2.length + 3)).sum ≤ 1048576) (b : List UInt8) (hb : b.length ≤ 1048576) (w : World) (hr : ReadL encF w w.heap.size A l) (hL : laidMetH Tryz.prog Rows.msgWritesRequestUptoRow.laid w) (hsh : w.ShapedOpen Tryz.prog) :
    Calls Tryz.prog 3 #[.agg #[S m, S t, .slice A l.length c, S b]] w fun e w' => e = .returned (.bool true) ∧ Below w.heap.size w w' := by
  have hP : PW w := PW.laid (by kernel_rfl) hL 2 (by kernel_rfl)
  have hE : EV w := EV.laid (by kernel_rfl) hL 5 4 (by kernel_rfl) (by kernel_rfl)
  have hT : BT w := BT.laid (by kernel_rfl) hL 1 (by kernel_rfl)
  have hM := ML.shaped hsh
  clear hL hsh
  have hb0 : Below w.heap.size w (w.alloc (.cells #[S m, S t, .slice A l.length c, S b] 24)) := (Below.refl _ _).alloc (Nat.le_refl _) _
  have bx := BoxAt.new w [S m, S t, .slice A l.length c, S b] 24
  have hr0 := (hr.below hb0 (Nat.le_refl _)).more hb0.size
  have h1 := w_WriteReq m hm t ht A l c hj b hb _ hr0 (hE.keep hb0) (hP.keep hb0) (hT.keep hb0)
  have h2 := fun W hrW => w_WriteReqR m hm t ht A l c hj b hb W hrW
  generalize msgRE m t l b = E at h1 h2
  have c0 := bx.cell (j := 0) rfl
  have c1 := bx.cell (j := 1) rfl
  have c2 := bx.cell (j := 2) rfl
  have c3 := bx.cell (j := 3) rfl
  go_enter Tryz.func3, Tryz.ntmps3
  go_wp2_with fail
  refine h1.mono ?_
  intro e w1 hp1
  obtain ⟨a1, n1, rfl, he1, hb1⟩ := flatSt hp1
  have bx1 := bx.keep hb1
  have d0 := bx1.cell (j := 0) rfl
  have d1 := bx1.cell (j := 1) rfl
  have d2 := bx1.cell (j := 2) rfl
  have d3 := bx1.cell (j := 3) rfl
  go_wp2_with fail
  refine (h2 _ ((hr0.below hb1 (Nat.le_refl _)).more hb1.size)).mono ?_
  intro e w2 hp2
  obtain ⟨a2, n2, rfl, he2, hb2⟩ := flatSt hp2
  rw [← he1] at he2
  injection he2 with hqa hqn
  subst hqa hqn
  clear hp1 hp2
  go_wp2_with fail
  go_ret
  have hB1 := hb0.trans (hb1.mono hb0.size)
  exact ⟨by simp, hB1.trans (hb2.mono hB1.size)⟩

theorem own : ownKnob Tryz.prog.godebug = none := by kernel_rfl
theorem laidOut : laidOutB Tryz.prog = true := by kernel_rfl
theorem reads (os : Os) {H : Type} (enc : TypeId × Value → H) : ∃ places, DataW.whole enc Tryz.prog ((laidWorld os).forCall (fun _ _ => 0) ⟨#[], #[.agg #[.string ByteArray.empty, .string ByteArray.empty, .slice none 0 0, .string ByteArray.empty]], []⟩).memory Tryz.f3.params.toList Rows.msgWritesRequestSpec.vars false (#[.agg #[.string ByteArray.empty, .string ByteArray.empty, .slice none 0 0, .string ByteArray.empty]] : Array Value).toList 8 = some ([.agg [.lit (.string []), .lit (.string []), .nil, .lit (.string [])]], [], places) :=
  ⟨[], by kernel_rfl⟩
set_option maxRecDepth 100000 in
theorem lifted (os : Os) (started : os.Started) (H : Type) (enc : TypeId × Value → H) (F : Stop.Interp) :
    ReturnsInHanded {} Tryz.checked os 3 .any ((Rows.OpenSpec.upto Rows.msgWritesRequestSpec).preRow enc Tryz.prog Tryz.f3 Rows.msgWritesRequestUptoRow.domain false Rows.msgWritesRequestUptoRow.laid) (((Rows.OpenSpec.upto Rows.msgWritesRequestSpec).at F).post enc Tryz.prog Tryz.f3 false true false false) := by
  obtain ⟨places, hx⟩ := reads os enc
  refine returnsInHanded_of_row (C := Tryz.checked) (s := Rows.OpenSpec.upto Rows.msgWritesRequestSpec) own started (by kernel_rfl) Tryz.func3
    (witness_row_at (enc := enc) (C := Tryz.checked) false (laidWorld os) #[.agg #[.string ByteArray.empty, .string ByteArray.empty, .slice none 0 0, .string ByteArray.empty]] rfl (by kernel_rfl) (by kernel_rfl) (by kernel_rfl)
      (OpenSpec.preRow_of_cond 8 hx (by kernel_rfl) (fun k hk => by cases hk; kernel_rfl) (by kernel_rfl) (laidWorld_met os _))) ?_
  intro W base args ds gs before hval0 hW hcnd hcond hsz0 hL hsh _
  have hk0 := hcond _ rfl
  clear hcond
  have hval : ∀ (j : Nat) t v, Tryz.f3.params[j]? = some t → args[j]? = some v → Value.okWide Tryz.prog W .any base t v := hval0
  have hW' := hW
  obtain ⟨p, q, hA0, hV, rfl, hfz, hnd⟩ := hW
  have hA : DataW.TrodAll enc Tryz.prog W 0 (fun _ => true) true Tryz.f3.params.toList args.toList ds p := hA0
  rw [Tryz.params3] at hA hval
  obtain ⟨v0, vs0, d0, ds0, p0, q0, hargs, rfl, rfl, h0, r0⟩ := trodAll_cons hA
  obtain ⟨rfl, rfl, rfl⟩ := trodAll_nil r0
  obtain rfl : args = #[v0] := by cases args; simp_all
  obtain ⟨rfl, rfl⟩ := trodVars_none hV
  simp only [List.append_nil] at hk0
  have hbulk := of_decide_eq_true hk0
  simp only [Rows.uptoBulkAll] at hbulk
  have k0 := h0
  have lt0 : ∀ x ∈ p0, x.block < W.heap.size := by obtain ⟨m, hm⟩ := k0; exact DataW.trod_lt m _ _ _ hm
  obtain ⟨m0, t0, A0, l0, c0, b0, rfl, rd0, bm0, bt0, bf0, bb0⟩ := open_req (hval 0 24 v0 rfl rfl) h0
  have bm0' : m0.length ≤ 1048576 := by omega
  have bt0' : t0.length ≤ 1048576 := by omega
  have bf0' : (l0.map (fun f => f.1.length + f.2.length + 3)).sum ≤ 1048576 := by omega
  have bb0' : b0.length ≤ 1048576 := by omega
  clear hA0 hval0
  refine (walkL m0 bm0' t0 bt0' A0 l0 c0 bf0' b0 bb0' W rd0 hL hsh).mono fun e W' ⟨he, bel⟩ => ?_
  subst he
  exact ⟨_, rfl, _, _, _, [], _, [], hW', trodAll_mk1 (shut_bool Tryz.underlying4 _), (trodAll_cons_mk (Below.trod laidOut (by kernel_rfl) (of_decide_eq_true (by kernel_rfl)) k0 bel lt0) trodAll_mk0), rfl, bel.frame _, fun h => by cases h⟩

/-- The statement. -/
theorem proved : Rows.MsgWritesRequestUptoSaid :=
  OpenClaim.holds_of_cond 3 Tryz.f3 rfl rfl rfl rfl rfl rfl rfl ⟨rfl, rfl, rfl, rfl, rfl⟩ rfl rfl rfl rfl rfl (by kernel_rfl) Tryz.func3 (by kernel_rfl)
    (of_decide_eq_true (by kernel_rfl)) (by unfold Func.isWrapper; first | (rw [if_pos (by decide +kernel)]; kernel_rfl) | (rw [if_neg (by decide +kernel)]; exact ⟨rfl, rfl⟩))
    (fun os started H enc _ F => by rw [OpenClaim.pre_eq_preRow]; exact lifted os started H enc F)
#print axioms proved

/-- The card: the row, its listed variables tied to the program's text. -/
theorem card : Rows.MsgWritesRequestUptoCardSaid :=
  Claim7.holds_tied_plain_at .later [] _ _ _ _
    proved (fun _ h => by cases h) (by kernel_rfl) (fun _ h => by cases h) msgWritesRequestUpto_row_tie rfl ⟨rfl, rfl⟩ (by kernel_rfl) rfl
    (fun f fn hf hfn => by
      obtain rfl : f = 3 := Option.some.inj ((show Tryz.prog.funcNamed "larder/larderlaw.MsgWritesRequest" = some 3 by kernel_rfl).symm.trans hf) |>.symm
      obtain rfl : fn = Tryz.f3 := (Option.some.inj (Tryz.func3.symm.trans hfn)).symm
      exact ⟨by kernel_rfl, fun j t ht => by
        rw [Tryz.params3] at ht
        have hm : t ∈ [24] := by simpa using Array.mem_of_getElem? ht
        have hall : ([24].all fun u => !Tryz.prog.wantsStandIn u) = true := by kernel_rfl
        exact (show Tryz.prog.wantsStandIn t = false by simpa using List.all_eq_true.1 hall t hm)⟩)
    (by kernel_rfl)
#print axioms card
end Go.Proofs.YtfgjbflddabdcaaGreatDoor.msgWritesRequest
