/- FieldParses: for every text field.Parse answers as the reference does (second form). -/
import Derived.Test.YtbcodkbabhegkaaDoorRows
import Derived.Test.YtbcodkbabhegkaaDoorTie
import Derived.Test.YtbcodkbabhegkaaDoorCards
import Derived.Test.YtbcodkbabhegkaaDoorFrame
import Derived.SevenTiedAt
import Derived.Deep.DeepHandedRow
import Derived.Lib.SmallJoins
import Derived.Test.YtbcodkbabhegkaaDoorDoorFieldParses
import Derived.Test.YtbcodkbabhegkaaDoorWFpR
import Derived.Test.YtbcodkbabhegkaaDoorWEqF
import Derived.Test.YtbcodkbabhegkaaDoorOpen
namespace Go.Proofs.YtbcodkbabhegkaaDoor.fieldParses
open Go.RowKit Go.Larder Go.ChangeShapes Go.WideShapes Go.ChangeAt
open Go.ChangeMaps (open_string shut_string)
open Go.Joins (open_agg2 open_agg3)
set_option linter.unusedVariables false
set_option linter.unusedSimpArgs false

theorem fp_len : ∀ (n : Nat) (rest : List UInt8) (k : Nat) (out o : List Flp) (k' : Nat), out.length ≤ 30 → fpGo n rest k out = .ok (o, k') → o.length ≤ 30
  | 0, _, _, _, _, _, _, h => by cases h
  | n + 1, rest, k, out, o, k', ho, h => by
    unfold fpGo at h
    split at h
    · cases h
    · split at h
      · injection h with h
        injection h with h1 _
        rw [← h1]; exact ho
      · split at h
        · cases h
        · next h30 =>
          split at h
          · split at h
            · exact fp_len n _ _ _ o k' (by simp; omega) h
            · cases h
          · cases h
def flatFp : Except Int (List Flp × Nat) → List Flp × Int × Int
  | .error n => ([], 0, n)
  | .ok (out, k) => (out, k, 0)
theorem fpFlat {w : World} {r : Except Int (List Flp × Nat)} {e : Ending} {w' : World} (h : FpPost w r e w') :
    ∃ A L c k n, e = .returned (.tuple #[.slice A L.length c, .int .i64 k, .int .i64 n]) ∧ (L, k, n) = flatFp r ∧ ReadL encF w' w'.heap.size A L ∧ Below w.heap.size w w' := by
  cases r with
  | error n => exact ⟨none, [], 0, 0, n, h.1, rfl, ReadL.nil, h.2⟩
  | ok x =>
    obtain ⟨out, k⟩ := x
    obtain ⟨A, c, he, ho, hb⟩ := h
    exact ⟨A, out, c, k, 0, he, rfl, ho.read, hb⟩
theorem walkL (s : List UInt8) (hs : s.length ≤ 1048576) (w : World) (hL : laidMetH Tryd.prog Rows.fieldParsesUptoRow.laid w) (hsh : w.ShapedOpen Tryd.prog) :
    Calls Tryd.prog 9 #[S s] w fun e w' => e = .returned (.bool true) ∧ Below w.heap.size w w' := by
  have hM := ML.shaped hsh
  clear hL hsh
  have hq1 := fun w hM => w_FParse s hs w hM
  have hq2 := fun w hM => w_FParseR s hs w hM
  have hlen : (flatFp (fpE s)).1.length ≤ 30 := by
    cases h : fpE s with
    | error n => simp [flatFp]
    | ok x => exact fp_len _ _ _ _ _ _ (by simp) h
  generalize fpE s = E1 at hq1 hq2 hlen
  clear hs
  go_enter Tryd.func9, Tryd.ntmps9
  go_wp2_with fail
  refine (hq1 _ hM).mono ?_
  intro e w1 hp1
  obtain ⟨A1, L1, c1, k1, n1, rfl, he1, hr1, hb1⟩ := fpFlat hp1
  have hM1 := hM.keep hb1
  clear hp1
  have Hr1 := Lib.hid hr1
  clear hr1
  go_wp2_with fail
  refine (hq2 _ hM1).mono ?_
  intro e w2 hp2
  obtain ⟨A2, L2, c2, k2, n2, rfl, he2, hr2, hb2⟩ := fpFlat hp2
  rw [← he1] at he2
  simp only [Prod.mk.injEq] at he2
  obtain ⟨rfl, rfl, rfl⟩ := he2
  have hL2 : L2.length ≤ 30 := by rw [← he1] at hlen; exact hlen
  have hb12 := hb1.trans (hb2.mono hb1.size)
  have Hr2 := Lib.hid hr2
  clear hp2 hr2 he1 hlen
  go_wp2_with fail
  refine (w_Eq_texts_Field L2 (by omega) A1 A2 c1 c2 _ _ _ hb2.size (Nat.le_refl _) (Hr1.out.below hb2 (Nat.le_refl _)) Hr2.out).mono ?_
  rintro e w3 ⟨rfl, hb3⟩
  go_wp2_with fail
  go_ret
  exact ⟨by simp, hb12.trans (hb3.mono hb12.size)⟩

theorem own : ownKnob Tryd.prog.godebug = none := by kernel_rfl
theorem laidOut : laidOutB Tryd.prog = true := by kernel_rfl
theorem reads (os : Os) {H : Type} (enc : TypeId × Value → H) : ∃ places, DataW.whole enc Tryd.prog ((laidWorld os).forCall (fun _ _ => 0) ⟨#[], #[.string ByteArray.empty], []⟩).memory Tryd.f9.params.toList Rows.fieldParsesSpec.vars false (#[.string ByteArray.empty] : Array Value).toList 8 = some ([.lit (.string [])], [], places) :=
  ⟨[], by kernel_rfl⟩
set_option maxRecDepth 100000 in
theorem lifted (os : Os) (started : os.Started) (H : Type) (enc : TypeId × Value → H) (F : Stop.Interp) :
    ReturnsInHanded {} Tryd.checked os 9 .any ((Rows.OpenSpec.upto Rows.fieldParsesSpec).preRow enc Tryd.prog Tryd.f9 Rows.fieldParsesUptoRow.domain false Rows.fieldParsesUptoRow.laid) (((Rows.OpenSpec.upto Rows.fieldParsesSpec).at F).post enc Tryd.prog Tryd.f9 false true false false) := by
  obtain ⟨places, hx⟩ := reads os enc
  refine returnsInHanded_of_row (C := Tryd.checked) (s := Rows.OpenSpec.upto Rows.fieldParsesSpec) own started (by kernel_rfl) Tryd.func9
    (witness_row_at (enc := enc) (C := Tryd.checked) false (laidWorld os) #[.string ByteArray.empty] rfl (by kernel_rfl) (by kernel_rfl) (by kernel_rfl)
      (OpenSpec.preRow_of_cond 8 hx (by kernel_rfl) (fun k hk => by cases hk; kernel_rfl) (by kernel_rfl) (laidWorld_met os _))) ?_
  intro W base args ds gs before hval0 hW hcnd hcond hsz0 hL hsh _
  have hk0 := hcond _ rfl
  clear hcond
  have hval : ∀ (j : Nat) t v, Tryd.f9.params[j]? = some t → args[j]? = some v → Value.okWide Tryd.prog W .any base t v := hval0
  have hW' := hW
  obtain ⟨p, q, hA0, hV, rfl, hfz, hnd⟩ := hW
  have hA : DataW.TrodAll enc Tryd.prog W 0 (fun _ => true) true Tryd.f9.params.toList args.toList ds p := hA0
  rw [Tryd.params9] at hA hval
  obtain ⟨v0, vs0, d0, ds0, p0, q0, hargs, rfl, rfl, h0, r0⟩ := trodAll_cons hA
  obtain ⟨rfl, rfl, rfl⟩ := trodAll_nil r0
  obtain rfl : args = #[v0] := by cases args; simp_all
  obtain ⟨rfl, rfl⟩ := trodVars_none hV
  simp only [List.append_nil] at hk0
  have hbulk := of_decide_eq_true hk0
  simp only [Rows.uptoBulkAll] at hbulk
  have k0 := h0
  have lt0 : ∀ x ∈ p0, x.block < W.heap.size := by obtain ⟨m, hm⟩ := k0; exact DataW.trod_lt m _ _ _ hm
  obtain ⟨s0, rfl, rfl, rfl, w0⟩ := open_string Tryd.underlying9 (hval 0 9 v0 rfl rfl) h0
  obtain ⟨⟨l0⟩⟩ := s0
  have b0 : l0.length ≤ 1048576 := by simp only [Rows.uptoBulk] at hbulk; omega
  clear hA0 hval0
  refine (walkL l0 b0 W hL hsh).mono fun e W' ⟨he, bel⟩ => ?_
  subst he
  exact ⟨_, rfl, _, _, _, [], _, [], hW', trodAll_mk1 (shut_bool Tryd.underlying4 _), (trodAll_cons_mk (Below.trod laidOut (by kernel_rfl) (of_decide_eq_true (by kernel_rfl)) k0 bel lt0) trodAll_mk0), rfl, bel.frame _, fun h => by cases h⟩

/-- The statement. -/
theorem proved : Rows.FieldParsesUptoSaid :=
  OpenClaim.holds_of_cond 9 Tryd.f9 rfl rfl rfl rfl rfl rfl rfl ⟨rfl, rfl, rfl, rfl, rfl⟩ rfl rfl rfl rfl rfl (by kernel_rfl) Tryd.func9 (by kernel_rfl)
    (of_decide_eq_true (by kernel_rfl)) (by unfold Func.isWrapper; first | (rw [if_pos (by decide +kernel)]; kernel_rfl) | (rw [if_neg (by decide +kernel)]; exact ⟨rfl, rfl⟩))
    (fun os started H enc _ F => by rw [OpenClaim.pre_eq_preRow]; exact lifted os started H enc F)
#print axioms proved

/-- The card: the row, its listed variables tied to the program's text. -/
theorem card : Rows.FieldParsesUptoCardSaid :=
  Claim7.holds_tied_plain_at .later [] _ _ _ _
    proved (fun _ h => by cases h) (by kernel_rfl) (fun _ h => by cases h) fieldParsesUpto_row_tie rfl ⟨rfl, rfl⟩ (by kernel_rfl) rfl
    (fun f fn hf hfn => by
      obtain rfl : f = 9 := Option.some.inj ((show Tryd.prog.funcNamed "larder/larderlaw.FieldParses" = some 9 by kernel_rfl).symm.trans hf) |>.symm
      obtain rfl : fn = Tryd.f9 := (Option.some.inj (Tryd.func9.symm.trans hfn)).symm
      exact ⟨by kernel_rfl, fun j t ht => by
        rw [Tryd.params9] at ht
        have hm : t ∈ [9] := by simpa using Array.mem_of_getElem? ht
        have hall : ([9].all fun u => !Tryd.prog.wantsStandIn u) = true := by kernel_rfl
        exact (show Tryd.prog.wantsStandIn t = false by simpa using List.all_eq_true.1 hall t hm)⟩)
    (by kernel_rfl)
#print axioms card
end Go.Proofs.YtbcodkbabhegkaaDoor.fieldParses
