/- CondSays: for every method, fields, thing, tag and time, together of bulk at most 1048576, cond.Eval answers as the reference does. -/
import Derived.Test.YtcoghpokkhjhgaaGreatDoorRows
import Derived.Test.YtcoghpokkhjhgaaGreatDoorTie
import Derived.Test.YtcoghpokkhjhgaaGreatDoorCards
import Derived.Test.YtcoghpokkhjhgaaGreatDoorFrame
import Derived.SevenTiedAt
import Derived.Deep.DeepHandedRow
import Derived.Lib.SmallJoins
import Derived.Test.YtcoghpokkhjhgaaGreatDoorDoorCondSays
import Derived.Test.YtcoghpokkhjhgaaGreatDoorWCondF
import Derived.Test.YtcoghpokkhjhgaaGreatDoorOpen
namespace Go.Proofs.YtcoghpokkhjhgaaGreatDoor.condSays
open Go.RowKit Go.Larder Go.ChangeShapes Go.WideShapes Go.ChangeAt
open Go.ChangeMaps (open_string shut_string)
open Go.Joins (open_agg2 open_agg3)
set_option linter.unusedVariables false
set_option linter.unusedSimpArgs false

theorem walkL (m : List UInt8) (hm : m.length ≤ 1048576) (l : List Fld) (A : Option Addr) (c : Nat) (_ : l.length ≤ c) (hj : (l.map (fun f => f.1.length + f.2.length + 3)).sum ≤ 1048576) (_ : ∀ x ∈ l, True) (there : Bool) (tag : List UInt8) (htag : tag.length ≤ 1048576) (md : Int) (_ : -9223372036854775808 ≤ md ∧ md ≤ 9223372036854775807) (w : World) (hr : ReadL encF w w.heap.size A l) (hL : laidMetH Tryz.prog Rows.condSaysUptoRow.laid w) (hsh : w.ShapedOpen Tryz.prog) :
    Calls Tryz.prog 3 #[S m, .slice A l.length c, .bool there, S tag, .int .i64 md] w fun e w' => e = .returned (.bool true) ∧ Below w.heap.size w w' := by
  have hM := ML.shaped hsh
  have hP : PW w := PW.laid (by kernel_rfl) hL 2 (by kernel_rfl)
  clear hL hsh
  obtain ⟨tagged, o, ho, ho2⟩ : ∃ (tagged : Bool) (o : Tg), (parseT tag = if tagged then some o else none) ∧ (tagged = false → o = (false, [])) := by
    cases hp : parseT tag with
    | none => exact ⟨false, (false, []), rfl, fun _ => rfl⟩
    | some o => exact ⟨true, o, rfl, fun h => by cases h⟩
  have ho' := ho
  rw [parseT_eq] at ho'
  have h1 := w_Eval m (by omega) l hj A c there tag (by omega) md w hr hP hM tagged o ho ho2
  have h2 := fun W hrW hMW => w_EvalR m (by omega) l hj A c there tag (by omega) md W hrW hMW tagged o ho' ho2
  generalize evalI _ _ _ _ _ _ _ _ _ _ = E at h1 h2
  clear ho ho' ho2 hm htag hj
  go_enter Tryz.func3, Tryz.ntmps3
  go_wp2_with fail
  refine h1.mono ?_
  rintro e w1 ⟨rfl, hb1⟩
  go_wp2_with fail
  refine (h2 _ ((hr.below hb1 (Nat.le_refl _)).more hb1.size) (hM.keep hb1)).mono ?_
  rintro e w2 ⟨rfl, hb2⟩
  go_wp2_with fail
  go_ret
  exact ⟨by simp, hb1.trans (hb2.mono hb1.size)⟩

theorem own : ownKnob Tryz.prog.godebug = none := by kernel_rfl
theorem laidOut : laidOutB Tryz.prog = true := by kernel_rfl
theorem reads (os : Os) {H : Type} (enc : TypeId × Value → H) : ∃ places, DataW.whole enc Tryz.prog ((laidWorld os).forCall (fun _ _ => 0) ⟨#[], #[.string ByteArray.empty, .slice none 0 0, .bool false, .string ByteArray.empty, .int .i64 0], []⟩).memory Tryz.f3.params.toList Rows.condSaysSpec.vars false (#[.string ByteArray.empty, .slice none 0 0, .bool false, .string ByteArray.empty, .int .i64 0] : Array Value).toList 8 = some ([.lit (.string []), .nil, .lit (.bool false), .lit (.string []), .lit (.int .i64 0)], [], places) :=
  ⟨[], by kernel_rfl⟩
set_option maxRecDepth 100000 in
theorem lifted (os : Os) (started : os.Started) (H : Type) (enc : TypeId × Value → H) (F : Stop.Interp) :
    ReturnsInHanded {} Tryz.checked os 3 .any ((Rows.OpenSpec.upto Rows.condSaysSpec).preRow enc Tryz.prog Tryz.f3 Rows.condSaysUptoRow.domain false Rows.condSaysUptoRow.laid) (((Rows.OpenSpec.upto Rows.condSaysSpec).at F).post enc Tryz.prog Tryz.f3 false true false false) := by
  obtain ⟨places, hx⟩ := reads os enc
  refine returnsInHanded_of_row (C := Tryz.checked) (s := Rows.OpenSpec.upto Rows.condSaysSpec) own started (by kernel_rfl) Tryz.func3
    (witness_row_at (enc := enc) (C := Tryz.checked) false (laidWorld os) #[.string ByteArray.empty, .slice none 0 0, .bool false, .string ByteArray.empty, .int .i64 0] rfl (by kernel_rfl) (by kernel_rfl) (by kernel_rfl)
      (OpenSpec.preRow_of_cond 8 hx (by kernel_rfl) (fun k hk => by cases hk; kernel_rfl) (by kernel_rfl) (laidWorld_met os _))) ?_
  intro W base args ds gs before hval0 hW hcnd hcond hsz0 hL hsh _
  have hk0 := hcond _ rfl
  clear hcond
  have hval : ∀ (j : Nat) t v, Tryz.f3.params[j]? = some t → args[j]? = some v → Value.okWide Tryz.prog W .any base t v := hval0
  have hW' := hW
  obtain ⟨p, q, hA0, hV, rfl, hfz, hnd⟩ := hW
  have hA : DataW.TrodAll enc Tryz.prog W 0 (fun _ => true) true Tryz.f3.params.toList args.toList ds p := hA0
  rw [Tryz.params3] at hA hval
  obtain ⟨v0, vs0, d0, ds0, p0, q0, hargs, rfl, rfl, h0, r0⟩ := trodAll_cons hA
  obtain ⟨v1, vs1, d1, ds1, p1, q1, rfl, rfl, rfl, h1, r1⟩ := trodAll_cons r0
  obtain ⟨v2, vs2, d2, ds2, p2, q2, rfl, rfl, rfl, h2, r2⟩ := trodAll_cons r1
  obtain ⟨v3, vs3, d3, ds3, p3, q3, rfl, rfl, rfl, h3, r3⟩ := trodAll_cons r2
  obtain ⟨v4, vs4, d4, ds4, p4, q4, rfl, rfl, rfl, h4, r4⟩ := trodAll_cons r3
  obtain ⟨rfl, rfl, rfl⟩ := trodAll_nil r4
  obtain rfl : args = #[v0, v1, v2, v3, v4] := by cases args; simp_all
  obtain ⟨rfl, rfl⟩ := trodVars_none hV
  simp only [List.append_nil] at hk0
  have hbulk := of_decide_eq_true hk0
  simp only [Rows.uptoBulkAll] at hbulk
  have k0 := h0
  have lt0 : ∀ x ∈ p0, x.block < W.heap.size := by obtain ⟨m, hm⟩ := k0; exact DataW.trod_lt m _ _ _ hm
  obtain ⟨s0, rfl, rfl, rfl, w0⟩ := open_string Tryz.underlying9 (hval 0 9 v0 rfl rfl) h0
  obtain ⟨⟨l0⟩⟩ := s0
  have b0 : l0.length ≤ 1048576 := by simp only [Rows.uptoBulk] at hbulk; omega
  have k1 := h1
  have lt1 : ∀ x ∈ p1, x.block < W.heap.size := by obtain ⟨m, hm⟩ := k1; exact DataW.trod_lt m _ _ _ hm
  obtain ⟨A1, l1, c1, rfl, lc1, cm1, rd1, ok1, dd1⟩ := open_list (enc := enc) (OpenE.texts (f0 := _) (f1 := _) Tryz.underlying86 (by kernel_rfl) Tryz.underlying9 Tryz.underlying9 rfl rfl (by kernel_rfl) (by kernel_rfl)) Tryz.underlying22 (hval 1 22 v1 rfl rfl) h1
  have bk1 := bulk_list (enc := enc) (OpenE.texts (f0 := _) (f1 := _) Tryz.underlying86 (by kernel_rfl) Tryz.underlying9 Tryz.underlying9 rfl rfl (by kernel_rfl) (by kernel_rfl)) dd1
  have b1 : (l1.map (fun f => f.1.length + f.2.length + 3)).sum ≤ 1048576 := by (try simp only [Rows.uptoBulk] at hbulk); omega
  have k2 := h2
  have lt2 : ∀ x ∈ p2, x.block < W.heap.size := by obtain ⟨m, hm⟩ := k2; exact DataW.trod_lt m _ _ _ hm
  obtain ⟨a2, rfl, rfl, rfl⟩ := open_bool Tryz.underlying4 (hval 2 4 v2 rfl rfl) h2
  have k3 := h3
  have lt3 : ∀ x ∈ p3, x.block < W.heap.size := by obtain ⟨m, hm⟩ := k3; exact DataW.trod_lt m _ _ _ hm
  obtain ⟨s3, rfl, rfl, rfl, w3⟩ := open_string Tryz.underlying9 (hval 3 9 v3 rfl rfl) h3
  obtain ⟨⟨l3⟩⟩ := s3
  have b3 : l3.length ≤ 1048576 := by simp only [Rows.uptoBulk] at hbulk; omega
  have k4 := h4
  have lt4 : ∀ x ∈ p4, x.block < W.heap.size := by obtain ⟨m, hm⟩ := k4; exact DataW.trod_lt m _ _ _ hm
  obtain ⟨a4, rfl, rfl, rfl, w4⟩ := open_int Tryz.underlying3 (hval 4 3 v4 rfl rfl) h4
  clear hA0 hval0
  refine (walkL l0 b0 l1 A1 c1 lc1 b1 ok1 a2 l3 b3 a4 (bounds_i64 w4) W rd1 hL hsh).mono fun e W' ⟨he, bel⟩ => ?_
  subst he
  exact ⟨_, rfl, _, _, _, [], _, [], hW', trodAll_mk1 (shut_bool Tryz.underlying4 _), (trodAll_cons_mk (Below.trod laidOut (by kernel_rfl) (of_decide_eq_true (by kernel_rfl)) k0 bel lt0) (trodAll_cons_mk (Below.trod laidOut (by kernel_rfl) (of_decide_eq_true (by kernel_rfl)) k1 bel lt1) (trodAll_cons_mk (Below.trod laidOut (by kernel_rfl) (of_decide_eq_true (by kernel_rfl)) k2 bel lt2) (trodAll_cons_mk (Below.trod laidOut (by kernel_rfl) (of_decide_eq_true (by kernel_rfl)) k3 bel lt3) (trodAll_cons_mk (Below.trod laidOut (by kernel_rfl) (of_decide_eq_true (by kernel_rfl)) k4 bel lt4) trodAll_mk0))))), rfl, bel.frame _, fun h => by cases h⟩

/-- The statement. -/
theorem proved : Rows.CondSaysUptoSaid :=
  OpenClaim.holds_of_cond 3 Tryz.f3 rfl rfl rfl rfl rfl rfl rfl ⟨rfl, rfl, rfl, rfl, rfl⟩ rfl rfl rfl rfl rfl (by kernel_rfl) Tryz.func3 (by kernel_rfl)
    (of_decide_eq_true (by kernel_rfl)) (by unfold Func.isWrapper; first | (rw [if_pos (by decide +kernel)]; kernel_rfl) | (rw [if_neg (by decide +kernel)]; exact ⟨rfl, rfl⟩))
    (fun os started H enc _ F => by rw [OpenClaim.pre_eq_preRow]; exact lifted os started H enc F)
#print axioms proved

/-- The card: the row, its listed variables tied to the program's text. -/
theorem card : Rows.CondSaysUptoCardSaid :=
  Claim7.holds_tied_plain_at .later [] _ _ _ _
    proved (fun _ h => by cases h) (by kernel_rfl) (fun _ h => by cases h) condSaysUpto_row_tie rfl ⟨rfl, rfl⟩ (by kernel_rfl) rfl
    (fun f fn hf hfn => by
      obtain rfl : f = 3 := Option.some.inj ((show Tryz.prog.funcNamed "larder/larderlaw.CondSays" = some 3 by kernel_rfl).symm.trans hf) |>.symm
      obtain rfl : fn = Tryz.f3 := (Option.some.inj (Tryz.func3.symm.trans hfn)).symm
      exact ⟨by kernel_rfl, fun j t ht => by
        rw [Tryz.params3] at ht
        have hm : t ∈ [9, 22, 4, 9, 3] := by simpa using Array.mem_of_getElem? ht
        have hall : ([9, 22, 4, 9, 3].all fun u => !Tryz.prog.wantsStandIn u) = true := by kernel_rfl
        exact (show Tryz.prog.wantsStandIn t = false by simpa using List.all_eq_true.1 hall t hm)⟩)
    (by kernel_rfl)
#print axioms card
end Go.Proofs.YtcoghpokkhjhgaaGreatDoor.condSays
