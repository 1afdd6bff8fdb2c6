/- DateParses: for every text date.Parse answers as the reference does. -/
import Derived.Test.YtldlbfdfaigkcaaDoorRows
import Derived.Test.YtldlbfdfaigkcaaDoorTie
import Derived.Test.YtldlbfdfaigkcaaDoorCards
import Derived.Test.YtldlbfdfaigkcaaDoorFrame
import Derived.SevenTiedAt
import Derived.Deep.DeepHandedRow
import Derived.Lib.SmallJoins
import Derived.Test.YtldlbfdfaigkcaaDoorDoorDateParses
import Derived.Test.YtldlbfdfaigkcaaDoorWDpp
import Derived.Test.YtldlbfdfaigkcaaDoorWDppR
namespace Go.Proofs.YtldlbfdfaigkcaaDoor.dateParses
open Go.RowKit Go.Larder Go.ChangeShapes Go.WideShapes Go.ChangeAt
open Go.ChangeMaps (open_string shut_string)
open Go.Joins (open_agg2 open_agg3)
set_option linter.unusedVariables false
set_option linter.unusedSimpArgs false

theorem same_date {n n' : Int} {l : List UInt8} (h : isDate n l) (h' : isDate n' l) : n = n' := by
  obtain ⟨k, hk, e⟩ := isDate_good h
  obtain ⟨k', hk', e'⟩ := isDate_good h'
  have h1 := hk.mon
  have h2 := hk'.mon
  have : k = k' := by omega
  subst this
  rw [← e, ← e']
theorem walkL (l : List UInt8) (hl : l.length ≤ 140737488351232) (w : World) (hL : laidMetH Tryd.prog Rows.dateParsesRow.laid w) (hsh : w.ShapedOpen Tryd.prog) :
    Calls Tryd.prog 11 #[S l] w fun e w' => e = .returned (.bool true) ∧ Below w.heap.size w w' := by
  have hP : PW w := PW.laid (by kernel_rfl) hL 2 (by kernel_rfl)
  have hM := ML.shaped hsh
  clear hL hsh
  have hq1 := fun w hP hM => w_DParse l hl w hP hM
  have hq2 := fun w hM => w_DParseR l hl w hM
  go_enter Tryd.func11, Tryd.ntmps11
  go_wp2_with fail
  refine (hq1 _ hP hM).mono ?_
  rintro e w1 ⟨ho1, hb1⟩
  have hM1 := hM.keep hb1
  rcases ho1 with ⟨n, rfl, hd⟩ | ⟨rfl, hn⟩
  · have Hd := Lib.hid hd
    clear hd
    go_wp2_with fail
    refine (hq2 _ hM1).mono ?_
    rintro e w2 ⟨ho2, hb2⟩
    obtain ⟨n', rfl, hd'⟩ | ⟨rfl, hn⟩ := ho2
    · obtain rfl := same_date Hd.out hd'
      clear hd'
      go_wp2_with fail
      go_ret
      exact ⟨by simp, hb1.trans (hb2.mono hb1.size)⟩
    · exact absurd Hd.out (hn n)
  · have Hn := Lib.hid hn
    clear hn
    go_wp2_with fail
    refine (hq2 _ hM1).mono ?_
    rintro e w2 ⟨ho2, hb2⟩
    obtain ⟨n', rfl, hd'⟩ | ⟨rfl, hn⟩ := ho2
    · exact absurd hd' (Hn.out n')
    · clear hn
      go_wp2_with fail
      go_ret
      exact ⟨by simp, hb1.trans (hb2.mono hb1.size)⟩

theorem own : ownKnob Tryd.prog.godebug = none := by kernel_rfl
theorem laidOut : laidOutB Tryd.prog = true := by kernel_rfl
theorem reads (os : Os) {H : Type} (enc : TypeId × Value → H) : ∃ places, DataW.whole enc Tryd.prog ((laidWorld os).forCall (fun _ _ => 0) ⟨#[], #[.string ByteArray.empty], []⟩).memory Tryd.f11.params.toList Rows.dateParsesSpec.vars false (#[.string ByteArray.empty] : Array Value).toList 8 = some ([.lit (.string [])], [], places) :=
  ⟨[], by kernel_rfl⟩
set_option maxRecDepth 100000 in
theorem lifted (os : Os) (started : os.Started) (H : Type) (enc : TypeId × Value → H) (F : Stop.Interp) :
    ReturnsInHanded {} Tryd.checked os 11 .any ((OpenSpec.ofChange Rows.dateParsesSpec).preRow enc Tryd.prog Tryd.f11 Rows.dateParsesRow.domain false Rows.dateParsesRow.laid) (((OpenSpec.ofChange Rows.dateParsesSpec).at F).post enc Tryd.prog Tryd.f11 false true false false) := by
  obtain ⟨places, hx⟩ := reads os enc
  refine returnsInHanded_of_row (C := Tryd.checked) (s := OpenSpec.ofChange Rows.dateParsesSpec) own started (by kernel_rfl) Tryd.func11
    (witness_row_at (enc := enc) (C := Tryd.checked) false (laidWorld os) #[.string ByteArray.empty] rfl (by kernel_rfl) (by kernel_rfl) (by kernel_rfl)
      (OpenSpec.preRow_of_cond 8 hx (by kernel_rfl) (fun k hk => by cases hk) (by kernel_rfl) (laidWorld_met os _))) ?_
  intro W base args ds gs before hval0 hW hcnd _ hsz0 hL hsh _
  have hval : ∀ (j : Nat) t v, Tryd.f11.params[j]? = some t → args[j]? = some v → Value.okWide Tryd.prog W .any base t v := hval0
  have hW' := hW
  obtain ⟨p, q, hA0, hV, rfl, hfz, hnd⟩ := hW
  have hA : DataW.TrodAll enc Tryd.prog W 0 (fun _ => true) true Tryd.f11.params.toList args.toList ds p := hA0
  have hsz1 : (DataW.weightsEach Tryd.prog (Tryd.f11.params.toList ++ Rows.dateParsesSpec.plain.varTypes Tryd.prog) (ds ++ gs)).all (· ≤ reachBytes) = true := hsz0
  rw [Tryd.params11] at hA hval hsz1
  obtain ⟨v0, vs0, d0, ds0, p0, q0, hargs, rfl, rfl, h0, r0⟩ := trodAll_cons hA
  obtain ⟨rfl, rfl, rfl⟩ := trodAll_nil r0
  obtain rfl : args = #[v0] := by cases args; simp_all
  obtain ⟨rfl, rfl⟩ := trodVars_none hV
  simp only [List.append_nil] at hsz1
  have k0 := h0
  have lt0 : ∀ x ∈ p0, x.block < W.heap.size := by obtain ⟨m, hm⟩ := k0; exact DataW.trod_lt m _ _ _ hm
  obtain ⟨s0, rfl, rfl, rfl, w0⟩ := open_string Tryd.underlying9 (hval 0 9 v0 rfl rfl) h0
  obtain ⟨⟨l0⟩⟩ := s0
  have b0 : l0.length ≤ 140737488351232 := sized_string hsz1 (j := 0) (t := 9) rfl rfl
  clear hA0 hval0
  refine (walkL l0 b0 W hL hsh).mono fun e W' ⟨he, bel⟩ => ?_
  subst he
  exact ⟨_, rfl, _, _, _, [], _, [], hW', trodAll_mk1 (shut_bool Tryd.underlying4 _), (trodAll_cons_mk (Below.trod laidOut (by kernel_rfl) (of_decide_eq_true (by kernel_rfl)) k0 bel lt0) trodAll_mk0), rfl, bel.frame _, fun h => by cases h⟩

/-- The statement. -/
theorem proved : Rows.DateParsesSaid :=
  OpenClaim.holds_of_cond 11 Tryd.f11 rfl rfl rfl rfl rfl rfl rfl ⟨rfl, rfl, rfl, rfl, rfl⟩ rfl rfl rfl rfl rfl (by kernel_rfl) Tryd.func11 (by kernel_rfl)
    (of_decide_eq_true (by kernel_rfl)) (by unfold Func.isWrapper; first | (rw [if_pos (by decide +kernel)]; kernel_rfl) | (rw [if_neg (by decide +kernel)]; exact ⟨rfl, rfl⟩))
    (fun os started H enc _ F => by rw [OpenClaim.pre_eq_preRow]; exact lifted os started H enc F)
#print axioms proved

/-- The card: the row, its listed variables tied to the program's text. -/
theorem card : Rows.DateParsesCardSaid :=
  Claim7.holds_tied_plain_at .later [] _ _ _ _
    proved (fun _ h => by cases h) (by kernel_rfl) (fun _ h => by cases h) dateParses_row_tie rfl ⟨rfl, rfl⟩ (by kernel_rfl) rfl
    (fun f fn hf hfn => by
      obtain rfl : f = 11 := Option.some.inj ((show Tryd.prog.funcNamed "larder/larderlaw.DateParses" = some 11 by kernel_rfl).symm.trans hf) |>.symm
      obtain rfl : fn = Tryd.f11 := (Option.some.inj (Tryd.func11.symm.trans hfn)).symm
      exact ⟨by kernel_rfl, fun j t ht => by
        rw [Tryd.params11] at ht
        have hm : t ∈ [9] := by simpa using Array.mem_of_getElem? ht
        have hall : ([9].all fun u => !Tryd.prog.wantsStandIn u) = true := by kernel_rfl
        exact (show Tryd.prog.wantsStandIn t = false by simpa using List.all_eq_true.1 hall t hm)⟩)
    (by kernel_rfl)
#print axioms card
end Go.Proofs.YtldlbfdfaigkcaaDoor.dateParses
