/- FieldSets: for every list of fields, name and value field.Set and field.Drop answer as the reference does. -/
import Derived.Test.YtlonddgokafgkaaRows
import Derived.Test.YtlonddgokafgkaaFrame
import Derived.Test.YtlonddgokafgkaaWFldP
import Derived.Test.YtlonddgokafgkaaWFldS
import Derived.Test.YtlonddgokafgkaaWFldR
import Derived.Test.YtlonddgokafgkaaWEqF
import Derived.Test.YtlonddgokafgkaaOpen
namespace Go.Proofs.Ytlonddgokafgkaa.fieldSets
open Go.RowKit Go.Larder Go.ChangeShapes Go.WideShapes Go.ChangeAt
open Go.ChangeMaps (open_string shut_string)
set_option linter.unusedVariables false
set_option linter.unusedSimpArgs false

theorem walkL (l : List Fld) (A : Option Addr) (c : Nat) (hlc : l.length ≤ c) (hb : l.length * 32 ≤ 140737488351232) (hbig : ∀ x ∈ l, x.1.length ≤ 140737488351232 ∧ x.2.length ≤ 140737488351232) (_ : ∀ x ∈ l, True)
    (nm : List UInt8) (hnm : nm.length ≤ 140737488351232) (vl : List UInt8) (hvl : vl.length ≤ 140737488351232) (w : World) (hr : ReadL encF w w.heap.size A l) :
    Calls Try.prog 14 #[.slice A l.length c, S nm, S vl] w fun e w' => e = .returned (.bool true) ∧ Below w.heap.size w w' := by
  have hset : (setR nm vl l).length ≤ 140737488351232 := by
    rcases ixFrom_ge (lowL nm) l 0 with h | ⟨m, h, h2, h3, _, _⟩
    · rw [setR_none h]; simp; omega
    · have hf : (dropL (lowL nm) (l.drop (m + 1))).length ≤ (l.drop (m + 1)).length := List.length_filter_le _ _
      rw [List.length_drop] at hf
      rw [setR_some h]; simp; omega
  have hdrop : (dropL (lowL nm) l).length ≤ 140737488351232 := by
    have hf : (dropL (lowL nm) l).length ≤ l.length := List.length_filter_le _ _
    omega
  go_enter Try.func14, Try.ntmps14
  go_wp2_with fail
  refine (w_Set nm vl hnm l hbig hb A c hlc _ hr).mono ?_
  rintro e w1 ⟨⟨A1, c1, rfl, ho1⟩, hb1⟩
  have hr1 := Lib.hid ho1.read
  clear ho1
  go_wp2_with fail
  refine (w_SetR nm vl hnm l hbig hb A c _ ((hr.below hb1 (Nat.le_refl _)).more hb1.size)).mono ?_
  rintro e w2 ⟨⟨A2, c2, rfl, ho2⟩, hb2⟩
  have hr2 := Lib.hid ho2.read
  clear ho2
  have hb12 := hb1.trans (hb2.mono hb1.size)
  go_wp2_with fail
  refine (w_Eq_texts_Field (setR nm vl l) hset A1 A2 c1 c2 _ _ _ hb2.size (Nat.le_refl _) (hr1.out.below hb2 (Nat.le_refl _)) hr2.out).mono ?_
  rintro e w3 ⟨rfl, hb3⟩
  have hb13 := hb12.trans (hb3.mono hb12.size)
  go_wp2_with fail
  refine (w_Drop nm hnm l hbig hb A c _ ((hr.below hb13 (Nat.le_refl _)).more hb13.size)).mono ?_
  rintro e w4 ⟨⟨A4, c4, rfl, ho4⟩, hb4⟩
  have hr4 := Lib.hid ho4.read
  clear ho4
  have hb14 := hb13.trans (hb4.mono hb13.size)
  go_wp2_with fail
  refine (w_LowerR nm hnm _).mono ?_
  rintro e w5 ⟨rfl, rfl⟩
  go_wp2_with fail
  have hrl : ReadL encS (w4.alloc (.cells #[S (lowL nm)] 9)) (w4.alloc (.cells #[S (lowL nm)] 9)).heap.size (some ⟨w4.heap.size, 0, none⟩) [lowL nm] := (ReadL.lit (E := encS) w4 #[S (lowL nm)] _ [lowL nm] rfl).more (by simp)
  have hba := (Below.refl w4.heap.size w4).alloc (Nat.le_refl _) (.cells #[S (lowL nm)] 9)
  have hb15 := hb14.trans (hba.mono hb14.size)
  refine (w_Without1 (lowL nm) l hbig hb A _ c 1 _ ((hr.below hb15 (Nat.le_refl _)).more hb15.size) hrl).mono ?_
  rintro e w6 ⟨⟨A6, c6, rfl, ho6⟩, hb6⟩
  have hr6 := Lib.hid ho6.read
  clear ho6
  have hb46 := hba.trans (hb6.mono hba.size)
  go_wp2_with fail
  refine (w_Eq_texts_Field (dropL (lowL nm) l) hdrop A4 A6 c4 c6 _ _ _ hb46.size (Nat.le_refl _) (hr4.out.below hb46 (Nat.le_refl _)) hr6.out).mono ?_
  rintro e w7 ⟨rfl, hb7⟩
  have hb16 := hb14.trans (hb46.mono hb14.size)
  go_wp2_with fail
  go_ret
  exact ⟨rfl, hb16.trans (hb7.mono hb16.size)⟩

theorem own : ownKnob Try.prog.godebug = none := by kernel_rfl
theorem laidOut : laidOutB Try.prog = true := by kernel_rfl
set_option maxRecDepth 100000 in
theorem lifted (os : Os) (started : os.Started) (H : Type) (enc : TypeId × Value → H) :
    ReturnsInHanded {} Try.checked os 14 .any (Rows.fieldSetsSpec.pre6 enc Try.prog Try.f14 Rows.fieldSetsRow.domain false) (Rows.fieldSetsSpec.post enc Try.prog Try.f14 false true false false) := by
  refine returnsInHanded_of_change_shaped (C := Try.checked) own started (by kernel_rfl) Try.func14
    (ChangeSpec.witness6 (enc := enc) (C := Try.checked) false ⟨#[], #[.slice none 0 0, .string ByteArray.empty, .string ByteArray.empty], []⟩ 8 (by kernel_rfl) (by kernel_rfl) (by kernel_rfl) (by kernel_rfl)) ?_
  intro W base args ds gs before hval0 hW hcnd hsz0 hsh _
  have hval : ∀ (j : Nat) t v, Try.f14.params[j]? = some t → args[j]? = some v → Value.okWide Try.prog W .any base t v := hval0
  have hW' := hW
  obtain ⟨p, q, hA0, hV, rfl, hfz, hnd⟩ := hW
  have hA : DataW.TrodAll enc Try.prog W 0 (fun _ => true) true Try.f14.params.toList args.toList ds p := hA0
  have hsz1 : (DataW.weightsEach Try.prog (Try.f14.params.toList ++ Rows.fieldSetsSpec.plain.varTypes Try.prog) (ds ++ gs)).all (· ≤ reachBytes) = true := hsz0
  rw [Try.params14] at hA hval hsz1
  obtain ⟨v0, vs0, d0, ds0, p0, q0, hargs, rfl, rfl, h0, r0⟩ := trodAll_cons hA
  obtain ⟨v1, vs1, d1, ds1, p1, q1, rfl, rfl, rfl, h1, r1⟩ := trodAll_cons r0
  obtain ⟨v2, vs2, d2, ds2, p2, q2, rfl, rfl, rfl, h2, r2⟩ := trodAll_cons r1
  obtain ⟨rfl, rfl, rfl⟩ := trodAll_nil r2
  obtain rfl : args = #[v0, v1, v2] := by cases args; simp_all
  obtain ⟨rfl, rfl⟩ := trodVars_none hV
  simp only [List.append_nil] at hsz1
  have k0 := h0
  have lt0 : ∀ x ∈ p0, x.block < W.heap.size := by obtain ⟨m, hm⟩ := k0; exact DataW.trod_lt m _ _ _ hm
  obtain ⟨A0, l0, c0, rfl, lc0, cm0, rd0, ok0, dd0⟩ := open_list (enc := enc) (OpenE.texts (f0 := _) (f1 := _) Try.underlying66 (by kernel_rfl) Try.underlying9 Try.underlying9 rfl rfl (by kernel_rfl) (by kernel_rfl)) Try.underlying63 (hval 0 63 v0 rfl rfl) h0
  have sz0 := sized_list (enc := enc) (OpenE.texts (f0 := _) (f1 := _) Try.underlying66 (by kernel_rfl) Try.underlying9 Try.underlying9 rfl rfl (by kernel_rfl) (by kernel_rfl)) Try.underlying63 hsz1 (j := 0) (t := 63) rfl rfl dd0
  rw [show Try.prog.bytesOf 66 = 32 from by kernel_rfl] at sz0
  have b0 : l0.length * 32 ≤ 140737488351232 := sz0.1
  have k1 := h1
  have lt1 : ∀ x ∈ p1, x.block < W.heap.size := by obtain ⟨m, hm⟩ := k1; exact DataW.trod_lt m _ _ _ hm
  obtain ⟨s1, rfl, rfl, rfl, w1⟩ := open_string Try.underlying9 (hval 1 9 v1 rfl rfl) h1
  obtain ⟨⟨l1⟩⟩ := s1
  have b1 : l1.length ≤ 140737488351232 := sized_string hsz1 (j := 1) (t := 9) rfl rfl
  have k2 := h2
  have lt2 : ∀ x ∈ p2, x.block < W.heap.size := by obtain ⟨m, hm⟩ := k2; exact DataW.trod_lt m _ _ _ hm
  obtain ⟨s2, rfl, rfl, rfl, w2⟩ := open_string Try.underlying9 (hval 2 9 v2 rfl rfl) h2
  obtain ⟨⟨l2⟩⟩ := s2
  have b2 : l2.length ≤ 140737488351232 := sized_string hsz1 (j := 2) (t := 9) rfl rfl
  clear hA0 hval0
  refine (walkL l0 A0 c0 lc0 b0 sz0.2 ok0 l1 b1 l2 b2 W rd0).mono fun e W' ⟨he, bel⟩ => ?_
  subst he
  exact ⟨_, rfl, _, _, _, [], _, [], hW', trodAll_mk1 (shut_bool Try.underlying4 _), (trodAll_cons_mk (Below.trod laidOut (by kernel_rfl) (of_decide_eq_true (by kernel_rfl)) k0 bel lt0) (trodAll_cons_mk (Below.trod laidOut (by kernel_rfl) (of_decide_eq_true (by kernel_rfl)) k1 bel lt1) (trodAll_cons_mk (Below.trod laidOut (by kernel_rfl) (of_decide_eq_true (by kernel_rfl)) k2 bel lt2) trodAll_mk0))), rfl, bel.frame _, fun h => by cases h⟩

/-- The statement. -/
theorem proved : Rows.FieldSetsSaid :=
  OpenClaim.holds_of_wide 14 Try.f14 rfl rfl rfl rfl rfl rfl rfl ⟨rfl, rfl, rfl, rfl, rfl⟩ rfl rfl rfl rfl rfl (by kernel_rfl) Try.func14 (by kernel_rfl)
    (of_decide_eq_true (by kernel_rfl)) (by unfold Func.isWrapper; first | (rw [if_pos (by decide +kernel)]; kernel_rfl) | (rw [if_neg (by decide +kernel)]; exact ⟨rfl, rfl⟩))
    (fun os started H enc _ => lifted os started H enc)
#print axioms proved
end Go.Proofs.Ytlonddgokafgkaa.fieldSets
