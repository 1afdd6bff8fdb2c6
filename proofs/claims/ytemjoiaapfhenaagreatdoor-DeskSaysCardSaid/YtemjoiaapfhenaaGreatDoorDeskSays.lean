/- DeskSays: for all lines desk.Run answers as the reference does. -/
import Derived.Test.YtemjoiaapfhenaaGreatDoorRows
import Derived.Test.YtemjoiaapfhenaaGreatDoorTie
import Derived.Test.YtemjoiaapfhenaaGreatDoorCards
import Derived.Test.YtemjoiaapfhenaaGreatDoorGd00
import Derived.SevenTiedAt
import Derived.Deep.DeepHandedRow
import Derived.Deep.DeepWitnessRowRef
import Derived.Lib.SmallJoins
import Derived.Test.YtemjoiaapfhenaaGreatDoorDoorDeskSays
import Derived.Test.YtemjoiaapfhenaaGreatDoorGd03
import Derived.Test.YtemjoiaapfhenaaGreatDoorGd21
import Derived.Test.YtemjoiaapfhenaaGreatDoorGd23
import Derived.Test.YtemjoiaapfhenaaGreatDoorGd02
namespace Go.Proofs.YtemjoiaapfhenaaGreatDoor.deskSays
open Go.RowKit Go.Larder Go.ChangeShapes Go.WideShapes Go.ChangeAt
open Go.ChangeMaps (open_string shut_string)
open Go.Joins (open_agg2 open_agg3)
set_option linter.unusedVariables false
set_option linter.unusedSimpArgs false
theorem walkL (l : List (List UInt8)) (A : Option Addr) (c : Nat) (_ : l.length ≤ c) (hb : l.length * 16 ≤ 140737488351232) {X Y : Prop} (_ : X) (_ : Y) (w : World) (hr : ReadL encS w w.heap.size A l) (hL : laidMetH Tryz.prog Rows.deskSaysRow.laid w) (hsh : w.ShapedOpen Tryz.prog) :
    Calls Tryz.prog 3 #[.slice A l.length c] w fun e w' => e = .returned (.bool true) ∧ Below w.heap.size w w' := by
  have hM := ML.shaped hsh
  have hP : PW w := PW.laid (by kernel_rfl) hL 2 (by kernel_rfl)
  have hE : EV w := EV.laid (by kernel_rfl) hL 5 4 (by kernel_rfl) (by kernel_rfl)
  have hA : AS w := AS.laid (by kernel_rfl) hL 7 (by kernel_rfl)
  clear hL hsh
  have h1 := w_DRun l (by omega) A c w hr ⟨hP, hM, hE⟩
  have h2 := fun W (hB : Below w.heap.size w W) => w_DRunR l (by omega) A c W (hr.below hB (Nat.le_refl _) |> fun h hp => let ⟨b, off, h4, h5, h6⟩ := h hp; ⟨b, off, h4, Nat.lt_of_lt_of_le h5 hB.size, h6⟩) ⟨hM.keep hB, hA.keep hB⟩
  cases hR : runD l with
  | error n =>
    have h1a := h1.mono fun e w' h => SlPost.err h hR
    have h2a := fun W hB => (h2 W hB).mono fun e w' h => SlPost.err h hR
    clear h1 h2 hR
    have he := fun W => w_Eq_string [] (by simp) none none 0 0 0 0 W (fun h => absurd h (by simp)) (fun h => absurd h (by simp))
    simp only [List.length_nil] at he
    go_enter Tryz.func3, Tryz.ntmps3
    go_wp2_with (first
      | (go_at_call 4; refine h1a.mono ?_; rintro e w1 ⟨rfl, hb1⟩)
      | (go_at_call 5; refine (h2a _ hb1).mono ?_; rintro e w2 ⟨rfl, hb2⟩)
      | (go_at_call 6; refine (he _).mono ?_; rintro e w3 ⟨rfl, rfl⟩))
    go_ret
    exact ⟨by simp, hb1.trans (hb2.mono hb1.size)⟩
  | ok out =>
    have h1a := h1.mono fun e w' h => SlPost.ok_ h hR
    have h2a := fun W hB => (h2 W hB).mono fun e w' h => SlPost.ok_ h hR
    have hol : out.length ≤ 140737488351232 := by
      unfold runD at hR
      split at hR
      · cases hR
      · injection hR with hR
        rw [← hR, List.length_map]
        omega
    clear h1 h2 hR
    go_enter Tryz.func3, Tryz.ntmps3
    go_wp2_with (first
      | (go_at_call 4; refine h1a.mono ?_; rintro e w1 ⟨A1, c1, rfl, ho1, hb1⟩)
      | (go_at_call 5; refine (h2a _ hb1).mono ?_; rintro e w2 ⟨A2, c2, rfl, ho2, hb2⟩)
      | (go_at_call 6; refine (w_Eq_string out hol A1 A2 c1 c2 _ _ _ (ho1.below hb2 (Nat.le_refl _)).read ho2.read).mono ?_; rintro e w3 ⟨rfl, rfl⟩))
    go_ret
    exact ⟨by simp, hb1.trans (hb2.mono hb1.size)⟩

theorem own : ownKnob Tryz.prog.godebug = none := by kernel_rfl
theorem laidOut : laidOutB Tryz.prog = true := by kernel_rfl
theorem reads (os : Os) {H : Type} (enc : TypeId × Value → H) : ∃ places, DataW.whole enc Tryz.prog ((laidWorld os).forCall (fun _ _ => 0) ⟨#[], #[.slice none 0 0], []⟩).memory Tryz.f3.params.toList Rows.deskSaysSpec.vars false (#[.slice none 0 0] : Array Value).toList 8 = some ([.nil], [], places) :=
  ⟨[], by kernel_rfl⟩
set_option maxRecDepth 100000 in
theorem lifted (os : Os) (started : os.Started) (H : Type) (enc : TypeId × Value → H) (F : Stop.Interp) :
    ReturnsInHanded {} Tryz.checked os 3 .any ((OpenSpec.ofChange Rows.deskSaysSpec).preRow enc Tryz.prog Tryz.f3 Rows.deskSaysRow.domain false Rows.deskSaysRow.laid) (((OpenSpec.ofChange Rows.deskSaysSpec).at F).post enc Tryz.prog Tryz.f3 false true false false) := by
  obtain ⟨places, hx⟩ := reads os enc
  refine returnsInHanded_of_row (C := Tryz.checked) (s := OpenSpec.ofChange Rows.deskSaysSpec) own started (by kernel_rfl) Tryz.func3
    (witness_row_atRef (enc := enc) (C := Tryz.checked) false (laidWorld os) #[.slice none 0 0] rfl (by kernel_rfl) (by kernel_rfl) (by kernel_rfl)
      (OpenSpec.preRow_of_cond 8 hx (by kernel_rfl) (fun k hk => by cases hk) (by kernel_rfl) (laidWorld_met os _))) ?_
  intro W base args ds gs before hval0 hW hcnd _ hsz0 hL hsh _
  have hval : ∀ (j : Nat) t v, Tryz.f3.params[j]? = some t → args[j]? = some v → Value.okWide Tryz.prog W .any base t v := hval0
  have hW' := hW
  obtain ⟨p, q, hA0, hV, rfl, hfz, hnd⟩ := hW
  have hA : DataW.TrodAll enc Tryz.prog W 0 (fun _ => true) true Tryz.f3.params.toList args.toList ds p := hA0
  have hsz1 : (DataW.weightsEach Tryz.prog (Tryz.f3.params.toList ++ Rows.deskSaysSpec.plain.varTypes Tryz.prog) (ds ++ gs)).all (· ≤ reachBytes) = true := hsz0
  rw [Tryz.params3] at hA hval hsz1
  obtain ⟨v0, vs0, d0, ds0, p0, q0, hargs, rfl, rfl, h0, r0⟩ := trodAll_cons hA
  obtain ⟨rfl, rfl, rfl⟩ := trodAll_nil r0
  obtain rfl : args = #[v0] := by cases args; simp_all
  obtain ⟨rfl, rfl⟩ := trodVars_none hV
  simp only [List.append_nil] at hsz1
  have k0 := h0
  have lt0 : ∀ x ∈ p0, x.block < W.heap.size := by obtain ⟨m, hm⟩ := k0; exact DataW.trod_lt m _ _ _ hm
  obtain ⟨A0, l0, c0, rfl, lc0, cm0, rd0, ok0, dd0⟩ := open_list (enc := enc) (OpenE.string Tryz.underlying9 (by kernel_rfl)) Tryz.underlying22 (hval 0 22 v0 rfl rfl) h0
  have sz0 := sized_list (enc := enc) (OpenE.string Tryz.underlying9 (by kernel_rfl)) Tryz.underlying22 hsz1 (j := 0) (t := 22) rfl rfl dd0
  rw [show Tryz.prog.bytesOf 9 = 16 from by kernel_rfl] at sz0
  have b0 : l0.length * 16 ≤ 140737488351232 := sz0.1
  clear hA0 hval0
  refine (walkL l0 A0 c0 lc0 b0 sz0.2 ok0 W rd0 hL hsh).mono fun e W' ⟨he, bel⟩ => ?_
  subst he
  exact ⟨_, rfl, _, _, _, [], _, [], hW', trodAll_mk1 (shut_bool Tryz.underlying4 _), (trodAll_cons_mk (Below.trod laidOut (by kernel_rfl) (of_decide_eq_true (by kernel_rfl)) k0 bel lt0) trodAll_mk0), rfl, bel.frame _, fun h => by cases h⟩

/-- The statement. -/
theorem proved : Rows.DeskSaysSaid :=
  OpenClaim.holds_of_cond 3 Tryz.f3 rfl rfl rfl rfl rfl rfl rfl ⟨rfl, rfl, rfl, rfl, rfl⟩ rfl rfl rfl rfl rfl (by kernel_rfl) Tryz.func3 (by kernel_rfl)
    (of_decide_eq_true (by kernel_rfl)) (by unfold Func.isWrapper; first | (rw [if_pos (by decide +kernel)]; kernel_rfl) | (rw [if_neg (by decide +kernel)]; exact ⟨rfl, rfl⟩))
    (fun os started H enc _ F => by rw [OpenClaim.pre_eq_preRow]; exact lifted os started H enc F)
#print axioms proved

/-- The card: the row, its listed variables tied to the program's text. -/
theorem card : Rows.DeskSaysCardSaid :=
  Claim7.holds_tied_plain_at .later [] _ _ _ _
    proved (fun _ h => by cases h) (by kernel_rfl) (fun _ h => by cases h) deskSays_row_tie rfl ⟨rfl, rfl⟩ (by kernel_rfl) rfl
    (fun f fn hf hfn => by
      obtain rfl : f = 3 := Option.some.inj ((show Tryz.prog.funcNamed "larder/larderlaw.DeskSays" = some 3 by kernel_rfl).symm.trans hf) |>.symm
      obtain rfl : fn = Tryz.f3 := (Option.some.inj (Tryz.func3.symm.trans hfn)).symm
      exact ⟨by kernel_rfl, fun j t ht => by
        rw [Tryz.params3] at ht
        have hm : t ∈ [22] := by simpa using Array.mem_of_getElem? ht
        have hall : ([22].all fun u => !Tryz.prog.wantsStandIn u) = true := by kernel_rfl
        exact (show Tryz.prog.wantsStandIn t = false by simpa using List.all_eq_true.1 hall t hm)⟩)
    (by kernel_rfl)
#print axioms card
end Go.Proofs.YtemjoiaapfhenaaGreatDoor.deskSays
