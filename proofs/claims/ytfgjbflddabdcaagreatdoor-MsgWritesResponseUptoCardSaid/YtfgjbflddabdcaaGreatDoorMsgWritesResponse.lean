/- MsgWritesResponse: for every method and response, together of bulk at most 1048576, msg.WriteResponse answers as the reference does. -/
import Derived.Test.YtfgjbflddabdcaaGreatDoorRows
import Derived.Test.YtfgjbflddabdcaaGreatDoorTie
import Derived.Test.YtfgjbflddabdcaaGreatDoorCards
import Derived.Test.YtfgjbflddabdcaaGreatDoorFrame
import Derived.SevenTiedAt
import Derived.Deep.DeepHandedRow
import Derived.Lib.SmallJoins
import Derived.Test.YtfgjbflddabdcaaGreatDoorDoorMsgWritesResponse
import Derived.Test.YtfgjbflddabdcaaGreatDoorWMsgS
import Derived.Test.YtfgjbflddabdcaaGreatDoorWMsgSR
import Derived.Test.YtfgjbflddabdcaaGreatDoorOpenM
import Derived.Test.YtfgjbflddabdcaaGreatDoorWEv
namespace Go.Proofs.YtfgjbflddabdcaaGreatDoor.msgWritesResponse
open Go.RowKit Go.Larder Go.ChangeShapes Go.WideShapes Go.ChangeAt
open Go.ChangeMaps (open_string shut_string)
open Go.Joins (open_agg2 open_agg3)
set_option linter.unusedVariables false
set_option linter.unusedSimpArgs false

theorem walkL (mt : List UInt8) (hmt : mt.length ≤ 1048576) (m : Int) (hm : -9223372036854775808 ≤ m ∧ m ≤ 9223372036854775807) (t : List UInt8) (ht : t.length ≤ 1048576) (A : Option Addr) (l : List Fld) (c : Nat) (hj : (l.map (fun f => f.1.length + f.2.length + 3)).sum ≤ 1048576) (b : List UInt8) (hb : b.length ≤ 1048576) (w : World) (hr : ReadL encF w w.heap.size A l) (hL : laidMetH Tryz.prog Rows.msgWritesResponseUptoRow.laid w) (hsh : w.ShapedOpen Tryz.prog) :
    Calls Tryz.prog 4 #[S mt, .agg #[.int .i64 m, S t, .slice A l.length c, S b]] w fun e w' => e = .returned (.bool true) ∧ Below w.heap.size w w' := by
  have hP : PW w := PW.laid (by kernel_rfl) hL 2 (by kernel_rfl)
  have hE : EV w := EV.laid (by kernel_rfl) hL 5 4 (by kernel_rfl) (by kernel_rfl)
  have hT : BT w := BT.laid (by kernel_rfl) hL 1 (by kernel_rfl)
  have hM := ML.shaped hsh
  clear hL hsh
  have hb0 : Below w.heap.size w (w.alloc (.cells #[.int .i64 m, S t, .slice A l.length c, S b] 30)) := (Below.refl _ _).alloc (Nat.le_refl _) _
  have bx := BoxAt.new w [.int .i64 m, S t, .slice A l.length c, S b] 30
  have hr0 := (hr.below hb0 (Nat.le_refl _)).more hb0.size
  have h1 := w_WriteResp mt hmt m hm t ht A l c hj b hb _ hr0 (hM.keep hb0) (hE.keep hb0) (hP.keep hb0) (hT.keep hb0)
  have h2 := fun W hrW => w_WriteRespR mt hmt m hm t ht A l c hj b hb W hrW
  generalize msgSE mt m t l b = E at h1 h2
  have c0 := bx.cell (j := 0) rfl
  have c1 := bx.cell (j := 1) rfl
  have c2 := bx.cell (j := 2) rfl
  have c3 := bx.cell (j := 3) rfl
  go_enter Tryz.func4, Tryz.ntmps4
  go_wp2_with fail
  refine h1.mono ?_
  intro e w1 hp1
  obtain ⟨a1, n1, rfl, he1, hb1⟩ := flatSt hp1
  have bx1 := bx.keep hb1
  have d0 := bx1.cell (j := 0) rfl
  have d1 := bx1.cell (j := 1) rfl
  have d2 := bx1.cell (j := 2) rfl
  have d3 := bx1.cell (j := 3) rfl
  go_wp2_with fail
  refine (h2 _ ((hr0.below hb1 (Nat.le_refl _)).more hb1.size)).mono ?_
  intro e w2 hp2
  obtain ⟨a2, n2, rfl, he2, hb2⟩ := flatSt hp2
  rw [← he1] at he2
  injection he2 with hqa hqn
  subst hqa hqn
  clear hp1 hp2
  go_wp2_with fail
  go_ret
  have hB1 := hb0.trans (hb1.mono hb0.size)
  exact ⟨by simp, hB1.trans (hb2.mono hB1.size)⟩

theorem own : ownKnob Tryz.prog.godebug = none := by kernel_rfl
theorem laidOut : laidOutB Tryz.prog = true := by kernel_rfl
theorem reads (os : Os) {H : Type} (enc : TypeId × Value → H) : ∃ places, DataW.whole enc Tryz.prog ((laidWorld os).forCall (fun _ _ => 0) ⟨#[], #[.string ByteArray.empty, .agg #[.int .i64 0, .string ByteArray.empty, .slice none 0 0, .string ByteArray.empty]], []⟩).memory Tryz.f4.params.toList Rows.msgWritesResponseSpec.vars false (#[.string ByteArray.empty, .agg #[.int .i64 0, .string ByteArray.empty, .slice none 0 0, .string ByteArray.empty]] : Array Value).toList 8 = some ([.lit (.string []), .agg [.lit (.int .i64 0), .lit (.string []), .nil, .lit (.string [])]], [], places) :=
  ⟨[], by kernel_rfl⟩
set_option maxRecDepth 100000 in
theorem lifted (os : Os) (started : os.Started) (H : Type) (enc : TypeId × Value → H) (F : Stop.Interp) :
    ReturnsInHanded {} Tryz.checked os 4 .any ((Rows.OpenSpec.upto Rows.msgWritesResponseSpec).preRow enc Tryz.prog Tryz.f4 Rows.msgWritesResponseUptoRow.domain false Rows.msgWritesResponseUptoRow.laid) (((Rows.OpenSpec.upto Rows.msgWritesResponseSpec).at F).post enc Tryz.prog Tryz.f4 false true false false) := by
  obtain ⟨places, hx⟩ := reads os enc
  refine returnsInHanded_of_row (C := Tryz.checked) (s := Rows.OpenSpec.upto Rows.msgWritesResponseSpec) own started (by kernel_rfl) Tryz.func4
    (witness_row_at (enc := enc) (C := Tryz.checked) false (laidWorld os) #[.string ByteArray.empty, .agg #[.int .i64 0, .string ByteArray.empty, .slice none 0 0, .string ByteArray.empty]] rfl (by kernel_rfl) (by kernel_rfl) (by kernel_rfl)
      (OpenSpec.preRow_of_cond 8 hx (by kernel_rfl) (fun k hk => by cases hk; kernel_rfl) (by kernel_rfl) (laidWorld_met os _))) ?_
  intro W base args ds gs before hval0 hW hcnd hcond hsz0 hL hsh _
  have hk0 := hcond _ rfl
  clear hcond
  have hval : ∀ (j : Nat) t v, Tryz.f4.params[j]? = some t → args[j]? = some v → Value.okWide Tryz.prog W .any base t v := hval0
  have hW' := hW
  obtain ⟨p, q, hA0, hV, rfl, hfz, hnd⟩ := hW
  have hA : DataW.TrodAll enc Tryz.prog W 0 (fun _ => true) true Tryz.f4.params.toList args.toList ds p := hA0
  rw [Tryz.params4] at hA hval
  obtain ⟨v0, vs0, d0, ds0, p0, q0, hargs, rfl, rfl, h0, r0⟩ := trodAll_cons hA
  obtain ⟨v1, vs1, d1, ds1, p1, q1, rfl, rfl, rfl, h1, r1⟩ := trodAll_cons r0
  obtain ⟨rfl, rfl, rfl⟩ := trodAll_nil r1
  obtain rfl : args = #[v0, v1] := by cases args; simp_all
  obtain ⟨rfl, rfl⟩ := trodVars_none hV
  simp only [List.append_nil] at hk0
  have hbulk := of_decide_eq_true hk0
  simp only [Rows.uptoBulkAll] at hbulk
  have k0 := h0
  have lt0 : ∀ x ∈ p0, x.block < W.heap.size := by obtain ⟨m, hm⟩ := k0; exact DataW.trod_lt m _ _ _ hm
  obtain ⟨s0, rfl, rfl, rfl, w0⟩ := open_string Tryz.underlying9 (hval 0 9 v0 rfl rfl) h0
  obtain ⟨⟨l0⟩⟩ := s0
  have b0 : l0.length ≤ 1048576 := by simp only [Rows.uptoBulk] at hbulk; omega
  have k1 := h1
  have lt1 : ∀ x ∈ p1, x.block < W.heap.size := by obtain ⟨m, hm⟩ := k1; exact DataW.trod_lt m _ _ _ hm
  obtain ⟨m1, t1, A1, l1, c1, b1, rfl, rd1, bm1, bt1, bf1, bb1⟩ := open_resp (hval 1 30 v1 rfl rfl) h1
  have bt1' : t1.length ≤ 1048576 := by omega
  have bf1' : (l1.map (fun f => f.1.length + f.2.length + 3)).sum ≤ 1048576 := by omega
  have bb1' : b1.length ≤ 1048576 := by omega
  clear hA0 hval0
  refine (walkL l0 b0 m1 bm1 t1 bt1' A1 l1 c1 bf1' b1 bb1' W rd1 hL hsh).mono fun e W' ⟨he, bel⟩ => ?_
  subst he
  exact ⟨_, rfl, _, _, _, [], _, [], hW', trodAll_mk1 (shut_bool Tryz.underlying4 _), (trodAll_cons_mk (Below.trod laidOut (by kernel_rfl) (of_decide_eq_true (by kernel_rfl)) k0 bel lt0) (trodAll_cons_mk (Below.trod laidOut (by kernel_rfl) (of_decide_eq_true (by kernel_rfl)) k1 bel lt1) trodAll_mk0)), rfl, bel.frame _, fun h => by cases h⟩

/-- The statement. -/
theorem proved : Rows.MsgWritesResponseUptoSaid :=
  OpenClaim.holds_of_cond 4 Tryz.f4 rfl rfl rfl rfl rfl rfl rfl ⟨rfl, rfl, rfl, rfl, rfl⟩ rfl rfl rfl rfl rfl (by kernel_rfl) Tryz.func4 (by kernel_rfl)
    (of_decide_eq_true (by kernel_rfl)) (by unfold Func.isWrapper; first | (rw [if_pos (by decide +kernel)]; kernel_rfl) | (rw [if_neg (by decide +kernel)]; exact ⟨rfl, rfl⟩))
    (fun os started H enc _ F => by rw [OpenClaim.pre_eq_preRow]; exact lifted os started H enc F)
#print axioms proved

/-- The card: the row, its listed variables tied to the program's text. -/
theorem card : Rows.MsgWritesResponseUptoCardSaid :=
  Claim7.holds_tied_plain_at .later [] _ _ _ _
    proved (fun _ h => by cases h) (by kernel_rfl) (fun _ h => by cases h) msgWritesResponseUpto_row_tie rfl ⟨rfl, rfl⟩ (by kernel_rfl) rfl
    (fun f fn hf hfn => by
      obtain rfl : f = 4 := Option.some.inj ((show Tryz.prog.funcNamed "larder/larderlaw.MsgWritesResponse" = some 4 by kernel_rfl).symm.trans hf) |>.symm
      obtain rfl : fn = Tryz.f4 := (Option.some.inj (Tryz.func4.symm.trans hfn)).symm
      exact ⟨by kernel_rfl, fun j t ht => by
        rw [Tryz.params4] at ht
        have hm : t ∈ [9, 30] := by simpa using Array.mem_of_getElem? ht
        have hall : ([9, 30].all fun u => !Tryz.prog.wantsStandIn u) = true := by kernel_rfl
        exact (show Tryz.prog.wantsStandIn t = false by simpa using List.all_eq_true.1 hall t hm)⟩)
    (by kernel_rfl)
#print axioms card
end Go.Proofs.YtfgjbflddabdcaaGreatDoor.msgWritesResponse
