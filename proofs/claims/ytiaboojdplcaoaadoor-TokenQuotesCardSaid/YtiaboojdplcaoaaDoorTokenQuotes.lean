/- TokenQuotes: for every text token.Quote answers as the reference does. -/
import Derived.Test.YtiaboojdplcaoaaDoorRows
import Derived.Test.YtiaboojdplcaoaaDoorTie
import Derived.Test.YtiaboojdplcaoaaDoorCards
import Derived.Test.YtiaboojdplcaoaaDoorFrame
import Derived.SevenTiedAt
import Derived.Test.YtiaboojdplcaoaaDoorDoorT
import Derived.Test.YtiaboojdplcaoaaDoorWQuoR
namespace Go.Proofs.YtiaboojdplcaoaaDoor.tokenQuotes
open Go.RowKit Go.Larder Go.ChangeShapes Go.WideShapes Go.ChangeAt
open Go.ChangeMaps (open_string shut_string)
set_option linter.unusedVariables false
set_option linter.unusedSimpArgs false

def flatR : Except Int (List UInt8) → List UInt8 × Int
  | .error n => ([], n)
  | .ok out => (out, 0)
theorem flatSt {w : World} {r : Except Int (List UInt8)} {e : Ending} {w' : World} (h : StPost w r e w') : ∃ a n, e = .returned (.tuple #[S a, .int .i64 n]) ∧ (a, n) = flatR r ∧ Below w.heap.size w w' := by
  cases r with
  | error n => exact ⟨[], n, h.1, rfl, h.2⟩
  | ok out => exact ⟨out, 0, h.1, rfl, h.2⟩
theorem walkL (s : List UInt8) (hs : s.length ≤ 140737488351232) (w : World) (hL : laidMetH Tryd.prog Rows.tokenQuotesRow.laid w) (hsh : w.ShapedOpen Tryd.prog) :
    Calls Tryd.prog 4 #[S s] w fun e w' => e = .returned (.bool true) ∧ Below w.heap.size w w' := by
  clear hL
  obtain ⟨m, hm⟩ : ∃ m, w.cell? ⟨1, 0, none⟩ = some (.int .i64 m) := Tryd.laysM154.s1_3 w hsh
  have hlt : 1 < w.heap.size := by
    rcases Nat.lt_or_ge 1 w.heap.size with h | h
    · exact h
    · simp [World.cell?, Array.getElem?_eq_none h] at hm
  have hq1 := w_Quote s hs
  have hq2 := w_QuoteR s hs m
  clear hsh
  generalize quoE s = E1 at hq1 hq2
  go_enter Tryd.func4, Tryd.ntmps4
  go_wp2_with fail
  refine (hq1 _).mono ?_
  intro e w1 hp1
  obtain ⟨a1, n1, rfl, he1, hb1⟩ := flatSt hp1
  have hm1 : w1.cell? ⟨1, 0, none⟩ = some (.int .i64 m) := (hb1.cell (p := ⟨1, 0, none⟩) hlt).trans hm
  go_wp2_with fail
  refine (hq2 _ hm1).mono ?_
  intro e w2 hp2
  obtain ⟨a2, n2, rfl, he2, hb2⟩ := flatSt hp2
  rw [← he1] at he2
  injection he2 with hqa hqn
  subst hqa hqn
  clear hp1 hp2
  go_wp2_with fail
  go_ret
  exact ⟨by simp, hb1.trans (hb2.mono hb1.size)⟩

theorem own : ownKnob Tryd.prog.godebug = none := by kernel_rfl
theorem laidOut : laidOutB Tryd.prog = true := by kernel_rfl
set_option maxRecDepth 100000 in
theorem lifted (os : Os) (started : os.Started) (H : Type) (enc : TypeId × Value → H) :
    ReturnsInHanded {} Tryd.checked os 4 .any (fun w args => (Rows.tokenQuotesSpec.pre enc Tryd.prog Tryd.f4 [] false w args ∧ laidMetH Tryd.prog Rows.tokenQuotesRow.laid w) ∧ sizedMet enc Tryd.prog Tryd.f4 (OpenSpec.ofChange Rows.tokenQuotesSpec) false w args) (Rows.tokenQuotesSpec.post enc Tryd.prog Tryd.f4 false true false false) := by
  refine wrap_and_shaped (C := Tryd.checked) (X := fun w _ => laidMetH Tryd.prog Rows.tokenQuotesRow.laid w) (fun _ _ _ hh h => h.of_heap hh) own started (by kernel_rfl) Tryd.func4
    (ChangeSpec.witness_at (enc := enc) (C := Tryd.checked) (os := os) (X := fun w _ => laidMetH Tryd.prog Rows.tokenQuotesRow.laid w) false (laidWorld os) #[.string ByteArray.empty] 8 rfl (by kernel_rfl) (by kernel_rfl) (by kernel_rfl) (by kernel_rfl) (by kernel_rfl) (laidWorld_met os _)) ?_
  intro W base args ds gs before hval0 hW hcnd hsz0 hL hsh _
  have hval : ∀ (j : Nat) t v, Tryd.f4.params[j]? = some t → args[j]? = some v → Value.okWide Tryd.prog W .any base t v := hval0
  have hW' := hW
  obtain ⟨p, q, hA0, hV, rfl, hfz, hnd⟩ := hW
  have hA : DataW.TrodAll enc Tryd.prog W 0 (fun _ => true) true Tryd.f4.params.toList args.toList ds p := hA0
  have hsz1 : (DataW.weightsEach Tryd.prog (Tryd.f4.params.toList ++ Rows.tokenQuotesSpec.plain.varTypes Tryd.prog) (ds ++ gs)).all (· ≤ reachBytes) = true := hsz0
  rw [Tryd.params4] at hA hval hsz1
  obtain ⟨v0, vs0, d0, ds0, p0, q0, hargs, rfl, rfl, h0, r0⟩ := trodAll_cons hA
  obtain ⟨rfl, rfl, rfl⟩ := trodAll_nil r0
  obtain rfl : args = #[v0] := by cases args; simp_all
  obtain ⟨rfl, rfl⟩ := trodVars_none hV
  simp only [List.append_nil] at hsz1
  have k0 := h0
  have lt0 : ∀ x ∈ p0, x.block < W.heap.size := by obtain ⟨m, hm⟩ := k0; exact DataW.trod_lt m _ _ _ hm
  obtain ⟨s0, rfl, rfl, rfl, w0⟩ := open_string Tryd.underlying9 (hval 0 9 v0 rfl rfl) h0
  obtain ⟨⟨l0⟩⟩ := s0
  have b0 : l0.length ≤ 140737488351232 := sized_string hsz1 (j := 0) (t := 9) rfl rfl
  clear hA0 hval0
  refine (walkL l0 b0 W hL hsh).mono fun e W' ⟨he, bel⟩ => ?_
  subst he
  exact ⟨_, rfl, _, _, _, [], _, [], hW', trodAll_mk1 (shut_bool Tryd.underlying4 _), (trodAll_cons_mk (Below.trod laidOut (by kernel_rfl) (of_decide_eq_true (by kernel_rfl)) k0 bel lt0) trodAll_mk0), rfl, bel.frame _, fun h => by cases h⟩

/-- The statement. -/
theorem proved : Rows.TokenQuotesSaid :=
  OpenClaim.holds_of_wide 4 Tryd.f4 rfl rfl rfl rfl rfl rfl rfl ⟨rfl, rfl, rfl, rfl, rfl⟩ rfl rfl rfl rfl rfl (by kernel_rfl) Tryd.func4 (by kernel_rfl)
    (of_decide_eq_true (by kernel_rfl)) (by unfold Func.isWrapper; first | (rw [if_pos (by decide +kernel)]; kernel_rfl) | (rw [if_neg (by decide +kernel)]; exact ⟨rfl, rfl⟩))
    (fun os started H enc _ => lifted os started H enc)
#print axioms proved

/-- The card: the row, its listed variables tied to the program's text. -/
theorem card : Rows.TokenQuotesCardSaid :=
  Claim7.holds_tied_plain_at .later [] [.data, .pinned] true (true, "6fcb629c651effd080e52d832c56deafe0cd09569fe4a7d1eed5d69dce5a475e") false
    proved (fun _ h => by cases h) (by kernel_rfl) (fun _ h => by cases h) tokenQuotes_row_tie rfl ⟨rfl, rfl⟩ (by kernel_rfl) rfl
    (fun f fn hf hfn => by
      obtain rfl : f = 4 := Option.some.inj ((show Tryd.prog.funcNamed "larder/larderlaw.TokenQuotes" = some 4 by kernel_rfl).symm.trans hf) |>.symm
      obtain rfl : fn = Tryd.f4 := (Option.some.inj (Tryd.func4.symm.trans hfn)).symm
      exact ⟨by kernel_rfl, fun j t ht => by
        rw [Tryd.params4] at ht
        have hm : t ∈ [9] := by simpa using Array.mem_of_getElem? ht
        have hall : ([9].all fun u => !Tryd.prog.wantsStandIn u) = true := by kernel_rfl
        exact (show Tryd.prog.wantsStandIn t = false by simpa using List.all_eq_true.1 hall t hm)⟩)
    (by kernel_rfl)
#print axioms card
end Go.Proofs.YtiaboojdplcaoaaDoor.tokenQuotes
