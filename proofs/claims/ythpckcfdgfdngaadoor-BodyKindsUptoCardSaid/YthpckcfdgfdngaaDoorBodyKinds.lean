/- BodyKinds: for every method, code and fields, together of bulk at most 1048576, body.Kind answers as the reference does. -/
import Derived.Test.YthpckcfdgfdngaaDoorRows
import Derived.Test.YthpckcfdgfdngaaDoorTie
import Derived.Test.YthpckcfdgfdngaaDoorCards
import Derived.Test.YthpckcfdgfdngaaDoorFrame
import Derived.SevenTiedAt
import Derived.Deep.DeepHandedRow
import Derived.Lib.SmallJoins
import Derived.Test.YthpckcfdgfdngaaDoorDoorBodyKinds
import Derived.Test.YthpckcfdgfdngaaDoorWKindR
import Derived.Test.YthpckcfdgfdngaaDoorWEv
import Derived.Test.YthpckcfdgfdngaaDoorOpen
namespace Go.Proofs.YthpckcfdgfdngaaDoor.bodyKinds
open Go.RowKit Go.Larder Go.ChangeShapes Go.WideShapes Go.ChangeAt
open Go.ChangeMaps (open_string shut_string)
open Go.Joins (open_agg2 open_agg3)
set_option linter.unusedVariables false
set_option linter.unusedSimpArgs false

theorem walkL (req : Bool) (m : List UInt8) (_ : m.length ≤ 1048576) (code : Int) (_ : -9223372036854775808 ≤ code ∧ code ≤ 9223372036854775807) (l : List Fld) (A : Option Addr) (c : Nat) (_ : l.length ≤ c) (hj : (l.map (fun f => f.1.length + f.2.length + 3)).sum ≤ 1048576) (_ : ∀ x ∈ l, True) (w : World) (hr : ReadL encF w w.heap.size A l) (hL : laidMetH Tryd.prog Rows.bodyKindsUptoRow.laid w) (hsh : w.ShapedOpen Tryd.prog) :
    Calls Tryd.prog 3 #[.bool req, S m, .int .i64 code, .slice A l.length c] w fun e w' => e = .returned (.bool true) ∧ Below w.heap.size w w' := by
  have hP : PW w := PW.laid (by kernel_rfl) hL 2 (by kernel_rfl)
  have hE : EV w := EV.laid (by kernel_rfl) hL 4 3 (by kernel_rfl) (by kernel_rfl)
  clear hL hsh
  have h1 := w_Kind req m code l hj A c w hr hE hP
  have h2 := fun W hrW => w_KindR req m code l hj A c W hrW
  generalize kindE req m code l = K at *
  obtain ⟨k1, k2, k3⟩ := K
  simp only at h1 h2
  go_enter Tryd.func3, Tryd.ntmps3
  go_wp2_with fail
  refine h1.mono ?_
  rintro e w1 ⟨rfl, hb1⟩
  go_wp2_with fail
  refine (h2 _ ((hr.below hb1 (Nat.le_refl _)).more hb1.size)).mono ?_
  rintro e w2 ⟨rfl, hb2⟩
  go_wp2_with fail
  go_ret
  exact ⟨by simp, hb1.trans (hb2.mono hb1.size)⟩

theorem own : ownKnob Tryd.prog.godebug = none := by kernel_rfl
theorem laidOut : laidOutB Tryd.prog = true := by kernel_rfl
theorem reads (os : Os) {H : Type} (enc : TypeId × Value → H) : ∃ places, DataW.whole enc Tryd.prog ((laidWorld os).forCall (fun _ _ => 0) ⟨#[], #[.bool false, .string ByteArray.empty, .int .i64 0, .slice none 0 0], []⟩).memory Tryd.f3.params.toList Rows.bodyKindsSpec.vars false (#[.bool false, .string ByteArray.empty, .int .i64 0, .slice none 0 0] : Array Value).toList 8 = some ([.lit (.bool false), .lit (.string []), .lit (.int .i64 0), .nil], [], places) :=
  ⟨[], by kernel_rfl⟩
set_option maxRecDepth 100000 in
theorem lifted (os : Os) (started : os.Started) (H : Type) (enc : TypeId × Value → H) (F : Stop.Interp) :
    ReturnsInHanded {} Tryd.checked os 3 .any ((Rows.OpenSpec.upto Rows.bodyKindsSpec).preRow enc Tryd.prog Tryd.f3 Rows.bodyKindsUptoRow.domain false Rows.bodyKindsUptoRow.laid) (((Rows.OpenSpec.upto Rows.bodyKindsSpec).at F).post enc Tryd.prog Tryd.f3 false true false false) := by
  obtain ⟨places, hx⟩ := reads os enc
  refine returnsInHanded_of_row (C := Tryd.checked) (s := Rows.OpenSpec.upto Rows.bodyKindsSpec) own started (by kernel_rfl) Tryd.func3
    (witness_row_at (enc := enc) (C := Tryd.checked) false (laidWorld os) #[.bool false, .string ByteArray.empty, .int .i64 0, .slice none 0 0] rfl (by kernel_rfl) (by kernel_rfl) (by kernel_rfl)
      (OpenSpec.preRow_of_cond 8 hx (by kernel_rfl) (fun k hk => by cases hk; kernel_rfl) (by kernel_rfl) (laidWorld_met os _))) ?_
  intro W base args ds gs before hval0 hW hcnd hcond hsz0 hL hsh _
  have hk0 := hcond _ rfl
  clear hcond
  have hval : ∀ (j : Nat) t v, Tryd.f3.params[j]? = some t → args[j]? = some v → Value.okWide Tryd.prog W .any base t v := hval0
  have hW' := hW
  obtain ⟨p, q, hA0, hV, rfl, hfz, hnd⟩ := hW
  have hA : DataW.TrodAll enc Tryd.prog W 0 (fun _ => true) true Tryd.f3.params.toList args.toList ds p := hA0
  rw [Tryd.params3] at hA hval
  obtain ⟨v0, vs0, d0, ds0, p0, q0, hargs, rfl, rfl, h0, r0⟩ := trodAll_cons hA
  obtain ⟨v1, vs1, d1, ds1, p1, q1, rfl, rfl, rfl, h1, r1⟩ := trodAll_cons r0
  obtain ⟨v2, vs2, d2, ds2, p2, q2, rfl, rfl, rfl, h2, r2⟩ := trodAll_cons r1
  obtain ⟨v3, vs3, d3, ds3, p3, q3, rfl, rfl, rfl, h3, r3⟩ := trodAll_cons r2
  obtain ⟨rfl, rfl, rfl⟩ := trodAll_nil r3
  obtain rfl : args = #[v0, v1, v2, v3] := by cases args; simp_all
  obtain ⟨rfl, rfl⟩ := trodVars_none hV
  simp only [List.append_nil] at hk0
  have hbulk := of_decide_eq_true hk0
  simp only [Rows.uptoBulkAll] at hbulk
  have k0 := h0
  have lt0 : ∀ x ∈ p0, x.block < W.heap.size := by obtain ⟨m, hm⟩ := k0; exact DataW.trod_lt m _ _ _ hm
  obtain ⟨a0, rfl, rfl, rfl⟩ := open_bool Tryd.underlying4 (hval 0 4 v0 rfl rfl) h0
  have k1 := h1
  have lt1 : ∀ x ∈ p1, x.block < W.heap.size := by obtain ⟨m, hm⟩ := k1; exact DataW.trod_lt m _ _ _ hm
  obtain ⟨s1, rfl, rfl, rfl, w1⟩ := open_string Tryd.underlying9 (hval 1 9 v1 rfl rfl) h1
  obtain ⟨⟨l1⟩⟩ := s1
  have b1 : l1.length ≤ 1048576 := by simp only [Rows.uptoBulk] at hbulk; omega
  have k2 := h2
  have lt2 : ∀ x ∈ p2, x.block < W.heap.size := by obtain ⟨m, hm⟩ := k2; exact DataW.trod_lt m _ _ _ hm
  obtain ⟨a2, rfl, rfl, rfl, w2⟩ := open_int Tryd.underlying3 (hval 2 3 v2 rfl rfl) h2
  have k3 := h3
  have lt3 : ∀ x ∈ p3, x.block < W.heap.size := by obtain ⟨m, hm⟩ := k3; exact DataW.trod_lt m _ _ _ hm
  obtain ⟨A3, l3, c3, rfl, lc3, cm3, rd3, ok3, dd3⟩ := open_list (enc := enc) (OpenE.texts (f0 := _) (f1 := _) Tryd.underlying119 (by kernel_rfl) Tryd.underlying9 Tryd.underlying9 rfl rfl (by kernel_rfl) (by kernel_rfl)) Tryd.underlying22 (hval 3 22 v3 rfl rfl) h3
  have bk3 := bulk_list (enc := enc) (OpenE.texts (f0 := _) (f1 := _) Tryd.underlying119 (by kernel_rfl) Tryd.underlying9 Tryd.underlying9 rfl rfl (by kernel_rfl) (by kernel_rfl)) dd3
  have b3 : (l3.map (fun f => f.1.length + f.2.length + 3)).sum ≤ 1048576 := by (try simp only [Rows.uptoBulk] at hbulk); omega
  clear hA0 hval0
  refine (walkL a0 l1 b1 a2 (bounds_i64 w2) l3 A3 c3 lc3 b3 ok3 W rd3 hL hsh).mono fun e W' ⟨he, bel⟩ => ?_
  subst he
  exact ⟨_, rfl, _, _, _, [], _, [], hW', trodAll_mk1 (shut_bool Tryd.underlying4 _), (trodAll_cons_mk (Below.trod laidOut (by kernel_rfl) (of_decide_eq_true (by kernel_rfl)) k0 bel lt0) (trodAll_cons_mk (Below.trod laidOut (by kernel_rfl) (of_decide_eq_true (by kernel_rfl)) k1 bel lt1) (trodAll_cons_mk (Below.trod laidOut (by kernel_rfl) (of_decide_eq_true (by kernel_rfl)) k2 bel lt2) (trodAll_cons_mk (Below.trod laidOut (by kernel_rfl) (of_decide_eq_true (by kernel_rfl)) k3 bel lt3) trodAll_mk0)))), rfl, bel.frame _, fun h => by cases h⟩

/-- The statement. -/
theorem proved : Rows.BodyKindsUptoSaid :=
  OpenClaim.holds_of_cond 3 Tryd.f3 rfl rfl rfl rfl rfl rfl rfl ⟨rfl, rfl, rfl, rfl, rfl⟩ rfl rfl rfl rfl rfl (by kernel_rfl) Tryd.func3 (by kernel_rfl)
    (of_decide_eq_true (by kernel_rfl)) (by unfold Func.isWrapper; first | (rw [if_pos (by decide +kernel)]; kernel_rfl) | (rw [if_neg (by decide +kernel)]; exact ⟨rfl, rfl⟩))
    (fun os started H enc _ F => by rw [OpenClaim.pre_eq_preRow]; exact lifted os started H enc F)
#print axioms proved

/-- The card: the row, its listed variables tied to the program's text. -/
theorem card : Rows.BodyKindsUptoCardSaid :=
  Claim7.holds_tied_plain_at .later [] _ _ _ _
    proved (fun _ h => by cases h) (by kernel_rfl) (fun _ h => by cases h) bodyKindsUpto_row_tie rfl ⟨rfl, rfl⟩ (by kernel_rfl) rfl
    (fun f fn hf hfn => by
      obtain rfl : f = 3 := Option.some.inj ((show Tryd.prog.funcNamed "larder/larderlaw.BodyKinds" = some 3 by kernel_rfl).symm.trans hf) |>.symm
      obtain rfl : fn = Tryd.f3 := (Option.some.inj (Tryd.func3.symm.trans hfn)).symm
      exact ⟨by kernel_rfl, fun j t ht => by
        rw [Tryd.params3] at ht
        have hm : t ∈ [4, 9, 3, 22] := by simpa using Array.mem_of_getElem? ht
        have hall : ([4, 9, 3, 22].all fun u => !Tryd.prog.wantsStandIn u) = true := by kernel_rfl
        exact (show Tryd.prog.wantsStandIn t = false by simpa using List.all_eq_true.1 hall t hm)⟩)
    (by kernel_rfl)
#print axioms card
end Go.Proofs.YthpckcfdgfdngaaDoor.bodyKinds
