/- FreshUses: for every list of fields, held response and time, together of bulk at most 1048576, fresh.Use answers as the reference does. -/
import Derived.Test.YtcoghpokkhjhgaaGreatDoorRows
import Derived.Test.YtcoghpokkhjhgaaGreatDoorTie
import Derived.Test.YtcoghpokkhjhgaaGreatDoorCards
import Derived.Test.YtcoghpokkhjhgaaGreatDoorFrame
import Derived.SevenTiedAt
import Derived.Deep.DeepHandedRow
import Derived.Lib.SmallJoins
import Derived.Test.YtcoghpokkhjhgaaGreatDoorDoorFreshUses
import Derived.Test.YtcoghpokkhjhgaaGreatDoorWUseL
import Derived.Test.YtcoghpokkhjhgaaGreatDoorOpenH
import Derived.Test.YtcoghpokkhjhgaaGreatDoorOpen
namespace Go.Proofs.YtcoghpokkhjhgaaGreatDoor.freshUses
open Go.RowKit Go.Larder Go.ChangeShapes Go.WideShapes Go.ChangeAt
open Go.ChangeMaps (open_string shut_string)
open Go.Joins (open_agg2 open_agg3)
set_option linter.unusedVariables false
set_option linter.unusedSimpArgs false

theorem walkL (l1 : List Fld) (A1 : Option Addr) (n1 : Nat) (_ : l1.length ≤ n1) (hj1 : (l1.map (fun f => f.1.length + f.2.length + 3)).sum ≤ 1048576) (_ : ∀ x ∈ l1, True) (c0 c1 c2 c3 : Value) (code : Int) (c5 : Value) (A : Option Addr) (l : List Fld) (c : Nat) (c7 : Value) (ak cm : Int) (c10 : Value) (hj : (l.map (fun f => f.1.length + f.2.length + 3)).sum ≤ 1048576) (_ : -9223372036854775808 ≤ code ∧ code ≤ 9223372036854775807) (nw : Int) (_ : -9223372036854775808 ≤ nw ∧ nw ≤ 9223372036854775807) (w : World) (hr1 : ReadL encF w w.heap.size A1 l1) (hr : ReadL encF w w.heap.size A l) (hL : laidMetH Tryz.prog Rows.freshUsesUptoRow.laid w) (hsh : w.ShapedOpen Tryz.prog) :
    Calls Tryz.prog 4 #[.slice A1 l1.length n1, .agg (heldC c0 c1 c2 c3 (.int .i64 code) c5 A l.length c c7 ak cm c10).toArray, .int .i64 nw] w fun e w' => e = .returned (.bool true) ∧ Below w.heap.size w w' :=
  w_lawFreshUses l1 hj1 A1 n1 c0 c1 c2 c3 code c5 A l c c7 ak cm c10 hj nw w hr1 hr (PW.laid (by kernel_rfl) hL 2 (by kernel_rfl)) (ML.shaped hsh)

theorem own : ownKnob Tryz.prog.godebug = none := by kernel_rfl
theorem laidOut : laidOutB Tryz.prog = true := by kernel_rfl
theorem reads (os : Os) {H : Type} (enc : TypeId × Value → H) : ∃ places, DataW.whole enc Tryz.prog ((laidWorld os).forCall (fun _ _ => 0) ⟨#[], #[.slice none 0 0, .agg #[.string ByteArray.empty, .string ByteArray.empty, .slice none 0 0, .string ByteArray.empty, .int .i64 0, .string ByteArray.empty, .slice none 0 0, .string ByteArray.empty, .int .i64 0, .int .i64 0, .int .i64 0], .int .i64 0], []⟩).memory Tryz.f4.params.toList Rows.freshUsesSpec.vars false (#[.slice none 0 0, .agg #[.string ByteArray.empty, .string ByteArray.empty, .slice none 0 0, .string ByteArray.empty, .int .i64 0, .string ByteArray.empty, .slice none 0 0, .string ByteArray.empty, .int .i64 0, .int .i64 0, .int .i64 0], .int .i64 0] : Array Value).toList 8 = some ([.nil, .agg [.agg [.lit (.string []), .lit (.string []), .nil, .lit (.string [])], .agg [.lit (.int .i64 0), .lit (.string []), .nil, .lit (.string [])], .lit (.int .i64 0), .lit (.int .i64 0), .lit (.int .i64 0)], .lit (.int .i64 0)], [], places) :=
  ⟨[], by kernel_rfl⟩
set_option maxRecDepth 100000 in
theorem lifted (os : Os) (started : os.Started) (H : Type) (enc : TypeId × Value → H) (F : Stop.Interp) :
    ReturnsInHanded {} Tryz.checked os 4 .any ((Rows.OpenSpec.upto Rows.freshUsesSpec).preRow enc Tryz.prog Tryz.f4 Rows.freshUsesUptoRow.domain false Rows.freshUsesUptoRow.laid) (((Rows.OpenSpec.upto Rows.freshUsesSpec).at F).post enc Tryz.prog Tryz.f4 false true false false) := by
  obtain ⟨places, hx⟩ := reads os enc
  refine returnsInHanded_of_row (C := Tryz.checked) (s := Rows.OpenSpec.upto Rows.freshUsesSpec) own started (by kernel_rfl) Tryz.func4
    (witness_row_at (enc := enc) (C := Tryz.checked) false (laidWorld os) #[.slice none 0 0, .agg #[.string ByteArray.empty, .string ByteArray.empty, .slice none 0 0, .string ByteArray.empty, .int .i64 0, .string ByteArray.empty, .slice none 0 0, .string ByteArray.empty, .int .i64 0, .int .i64 0, .int .i64 0], .int .i64 0] rfl (by kernel_rfl) (by kernel_rfl) (by kernel_rfl)
      (OpenSpec.preRow_of_cond 8 hx (by kernel_rfl) (fun k hk => by cases hk; kernel_rfl) (by kernel_rfl) (laidWorld_met os _))) ?_
  intro W base args ds gs before hval0 hW hcnd hcond hsz0 hL hsh _
  have hk0 := hcond _ rfl
  clear hcond
  have hval : ∀ (j : Nat) t v, Tryz.f4.params[j]? = some t → args[j]? = some v → Value.okWide Tryz.prog W .any base t v := hval0
  have hW' := hW
  obtain ⟨p, q, hA0, hV, rfl, hfz, hnd⟩ := hW
  have hA : DataW.TrodAll enc Tryz.prog W 0 (fun _ => true) true Tryz.f4.params.toList args.toList ds p := hA0
  rw [Tryz.params4] at hA hval
  obtain ⟨v0, vs0, d0, ds0, p0, q0, hargs, rfl, rfl, h0, r0⟩ := trodAll_cons hA
  obtain ⟨v1, vs1, d1, ds1, p1, q1, rfl, rfl, rfl, h1, r1⟩ := trodAll_cons r0
  obtain ⟨v2, vs2, d2, ds2, p2, q2, rfl, rfl, rfl, h2, r2⟩ := trodAll_cons r1
  obtain ⟨rfl, rfl, rfl⟩ := trodAll_nil r2
  obtain rfl : args = #[v0, v1, v2] := by cases args; simp_all
  obtain ⟨rfl, rfl⟩ := trodVars_none hV
  simp only [List.append_nil] at hk0
  have hbulk := of_decide_eq_true hk0
  simp only [Rows.uptoBulkAll] at hbulk
  have k0 := h0
  have lt0 : ∀ x ∈ p0, x.block < W.heap.size := by obtain ⟨m, hm⟩ := k0; exact DataW.trod_lt m _ _ _ hm
  obtain ⟨A0, l0, c0, rfl, lc0, cm0, rd0, ok0, dd0⟩ := open_list (enc := enc) (OpenE.texts (f0 := _) (f1 := _) Tryz.underlying86 (by kernel_rfl) Tryz.underlying9 Tryz.underlying9 rfl rfl (by kernel_rfl) (by kernel_rfl)) Tryz.underlying22 (hval 0 22 v0 rfl rfl) h0
  have bk0 := bulk_list (enc := enc) (OpenE.texts (f0 := _) (f1 := _) Tryz.underlying86 (by kernel_rfl) Tryz.underlying9 Tryz.underlying9 rfl rfl (by kernel_rfl) (by kernel_rfl)) dd0
  have b0 : (l0.map (fun f => f.1.length + f.2.length + 3)).sum ≤ 1048576 := by (try simp only [Rows.uptoBulk] at hbulk); omega
  have k1 := h1
  have lt1 : ∀ x ∈ p1, x.block < W.heap.size := by obtain ⟨m, hm⟩ := k1; exact DataW.trod_lt m _ _ _ hm
  obtain ⟨hc1_0, hc1_1, hc1_2, hc1_3, code1, hc1_5, A1, l1, c1, hc1_7, ak1, cm1, hc1_10, rfl, rd1, bk1, wc1, wa1, wm1⟩ := open_held (hval 1 30 v1 rfl rfl) h1
  have b1 : (l1.map (fun f => f.1.length + f.2.length + 3)).sum ≤ 1048576 := by omega
  have k2 := h2
  have lt2 : ∀ x ∈ p2, x.block < W.heap.size := by obtain ⟨m, hm⟩ := k2; exact DataW.trod_lt m _ _ _ hm
  obtain ⟨a2, rfl, rfl, rfl, w2⟩ := open_int Tryz.underlying3 (hval 2 3 v2 rfl rfl) h2
  clear hA0 hval0
  refine (walkL l0 A0 c0 lc0 b0 ok0 hc1_0 hc1_1 hc1_2 hc1_3 code1 hc1_5 A1 l1 c1 hc1_7 ak1 cm1 hc1_10 b1 wc1 a2 (bounds_i64 w2) W rd0 rd1 hL hsh).mono fun e W' ⟨he, bel⟩ => ?_
  subst he
  exact ⟨_, rfl, _, _, _, [], _, [], hW', trodAll_mk1 (shut_bool Tryz.underlying4 _), (trodAll_cons_mk (Below.trod laidOut (by kernel_rfl) (of_decide_eq_true (by kernel_rfl)) k0 bel lt0) (trodAll_cons_mk (Below.trod laidOut (by kernel_rfl) (of_decide_eq_true (by kernel_rfl)) k1 bel lt1) (trodAll_cons_mk (Below.trod laidOut (by kernel_rfl) (of_decide_eq_true (by kernel_rfl)) k2 bel lt2) trodAll_mk0))), rfl, bel.frame _, fun h => by cases h⟩

/-- The statement. -/
theorem proved : Rows.FreshUsesUptoSaid :=
  OpenClaim.holds_of_cond 4 Tryz.f4 rfl rfl rfl rfl rfl rfl rfl ⟨rfl, rfl, rfl, rfl, rfl⟩ rfl rfl rfl rfl rfl (by kernel_rfl) Tryz.func4 (by kernel_rfl)
    (of_decide_eq_true (by kernel_rfl)) (by unfold Func.isWrapper; first | (rw [if_pos (by decide +kernel)]; kernel_rfl) | (rw [if_neg (by decide +kernel)]; exact ⟨rfl, rfl⟩))
    (fun os started H enc _ F => by rw [OpenClaim.pre_eq_preRow]; exact lifted os started H enc F)
#print axioms proved

/-- The card: the row, its listed variables tied to the program's text. -/
theorem card : Rows.FreshUsesUptoCardSaid :=
  Claim7.holds_tied_plain_at .later [] _ _ _ _
    proved (fun _ h => by cases h) (by kernel_rfl) (fun _ h => by cases h) freshUsesUpto_row_tie rfl ⟨rfl, rfl⟩ (by kernel_rfl) rfl
    (fun f fn hf hfn => by
      obtain rfl : f = 4 := Option.some.inj ((show Tryz.prog.funcNamed "larder/larderlaw.FreshUses" = some 4 by kernel_rfl).symm.trans hf) |>.symm
      obtain rfl : fn = Tryz.f4 := (Option.some.inj (Tryz.func4.symm.trans hfn)).symm
      exact ⟨by kernel_rfl, fun j t ht => by
        rw [Tryz.params4] at ht
        have hm : t ∈ [22, 30, 3] := by simpa using Array.mem_of_getElem? ht
        have hall : ([22, 30, 3].all fun u => !Tryz.prog.wantsStandIn u) = true := by kernel_rfl
        exact (show Tryz.prog.wantsStandIn t = false by simpa using List.all_eq_true.1 hall t hm)⟩)
    (by kernel_rfl)
#print axioms card
end Go.Proofs.YtcoghpokkhjhgaaGreatDoor.freshUses
