/- DigestComes: for every list of texts of bulk at most 1048576 a digest that takes them one by one answers as the reference does. -/
import Derived.Test.YtbchkaoocobpfaaDoorRows
import Derived.Test.YtbchkaoocobpfaaDoorTie
import Derived.Test.YtbchkaoocobpfaaDoorCards
import Derived.Test.YtbchkaoocobpfaaDoorFrame
import Derived.SevenTiedAt
import Derived.Deep.DeepHandedRow
import Derived.Deep.DeepWitnessRowRef
import Derived.Lib.SmallJoins
import Derived.Test.YtbchkaoocobpfaaDoorDoorDigestComes
import Derived.Test.YtbchkaoocobpfaaDoorWAs
import Derived.Test.YtbchkaoocobpfaaDoorWDgE
import Derived.Test.YtbchkaoocobpfaaDoorWDgX
import Derived.Test.YtbchkaoocobpfaaDoorWDgZ
import Derived.Test.YtbchkaoocobpfaaDoorOpen
namespace Go.Proofs.YtbchkaoocobpfaaDoor.digestComes
open Go.RowKit Go.Larder Go.ChangeShapes Go.WideShapes Go.ChangeAt
open Go.ChangeMaps (open_string shut_string)
open Go.Joins (open_agg2 open_agg3)
set_option linter.unusedVariables false
set_option linter.unusedSimpArgs false

theorem flat_le (l : List (List UInt8)) (h : (l.map (fun s => s.length + 1)).sum ≤ 1048576) (k : Nat) : ((l.take k).flatten).length ≤ 1048576 := by
  have h1 := congrArg (fun x : List (List UInt8) => x.flatten.length) (List.take_append_drop k l)
  simp only [List.flatten_append, List.length_append] at h1
  have h2 : l.flatten.length ≤ (l.map (fun s => s.length + 1)).sum := by
    clear h h1
    induction l with
    | nil => simp
    | cons a l ih => simp only [List.flatten_cons, List.length_append, List.map_cons, List.sum_cons]; omega
  omega
theorem len_le (l : List (List UInt8)) : l.length ≤ (l.map (fun s => s.length + 1)).sum := by
  induction l with
  | nil => simp
  | cons a l ih => simp only [List.length_cons, List.map_cons, List.sum_cons]; omega
theorem full_below {w w' : World} {gx base : Nat} {all : List UInt8} (h : HashFull w gx base all) (hb : Below w.heap.size w w') : HashFull w' gx base all := by
  obtain ⟨h', many, rest, A, c, hx, hr⟩ := h
  exact ⟨h', many, rest, A, c, ⟨hx.box.keep hb, hx.own.below hb, hx.dg⟩, hr⟩
theorem walkL (l : List (List UInt8)) (A : Option Addr) (c : Nat) (_ : l.length ≤ c) (hl : (l.map (fun s => s.length + 1)).sum ≤ 1048576) (_ : ∀ s ∈ l, True) (w : World) (hr : ReadL encS w w.heap.size A l) (hL : laidMetH Tryd.prog Rows.digestComesUptoRow.laid w) (hsh : w.ShapedOpen Tryd.prog) :
    Calls Tryd.prog 3 #[.slice A l.length c] w fun e w' => e = .returned (.bool true) ∧ Below w.heap.size w w' := by
  have hA : AS w := AS.laid (by kernel_rfl) hL 1 (by kernel_rfl)
  clear hL hsh
  have hll : l.length ≤ 1048576 := Nat.le_trans (len_le l) hl
  go_enter Tryd.func3, Tryd.ntmps3
  go_wp2_with fail
  refine Calls.mono (w_DNew _) ?_
  rintro e w1 ⟨g, rfl, hg, hh, hb1⟩
  have hf0 : HashFull w1 g w.heap.size [] := ⟨_, _, _, _, _, hh, by simp⟩
  clear hh
  go_wp2_with fail
  go_loopw [4, 12] (fun a' i' wr => ∃ (k : Nat) (all : List UInt8), i' = .int .i64 k ∧ a' = S all ∧ k ≤ l.length ∧ Hid (all = (l.take k).flatten) ∧ HashFull wr g w.heap.size all ∧ Below w.heap.size w wr) (fun _ i' _ => l.length - (intOf i').toNat)
  case atStart => exact ⟨0, [], rfl, rfl, by omega, Lib.hid rfl, hf0, hb1⟩
  case round =>
    clear hf0 hb1
    obtain ⟨k, all, rfl, rfl, hk, hall, hf, hbel⟩ := hrel
    obtain ⟨wo, hwo⟩ : ∃ wo, wo = wr := ⟨_, rfl⟩
    subst hwo
    have hall1 : all.length ≤ 1048576 := by rw [hall.out]; exact flat_le l hl k
    by_cases hlt : k < l.length
    · obtain ⟨x, hx⟩ : ∃ x, l[k]? = some x := ⟨_, List.getElem?_eq_getElem hlt⟩
      have Hn := Lib.hid (show all ++ x = (l.take (k + 1)).flatten from by rw [List.take_add_one, hx, hall.out]; simp)
      have hax : (all ++ x).length ≤ 1048576 := by rw [Hn.out]; exact flat_le l hl (k + 1)
      have hax2 : all.length + x.length ≤ 1048576 := by rw [List.length_append] at hax; exact hax
      obtain ⟨gb, off, rfl, hgb, hc0⟩ := (hr.below hbel (Nat.le_refl _)).at_S hx
      obtain ⟨h, many, rest, A', c', hha, hr64⟩ := hf
      have hwr := w_DWrite g w.heap.size all x h many rest A' c' (by omega) wo hha hg hbel.size
      clear hx hha hr64
      go_wp2_with fail
      refine Calls.mono hwr ?_
      rintro e w2 ⟨rfl, hf2, hb2⟩
      have hB2 := hbel.trans hb2
      have hsm := w_DSumH g w.heap.size (all ++ x) w2 hf2 (by omega)
      have a1 := fun W => run_cat (P := Tryd.prog) all x (by omega) (by omega) W
      go_wp2_with fail
      refine Calls.mono hsm ?_
      rintro e w3 ⟨rfl, hb3⟩
      have hB3 := hB2.trans (hb3.mono hB2.size)
      have hdr := w_DigestR (all ++ x) (by omega) w3 (hA.keep hB3)
      go_wp2_with fail
      refine Calls.mono hdr ?_
      rintro e w4 ⟨rfl, hb4⟩
      have hB4 := hB3.trans (hb4.mono hB3.size)
      have hf4 := full_below (full_below hf2 hb3) hb4
      clear hsm hdr hwr
      go_wp2_with fail
      go_roundw
      case rel => exact ⟨k + 1, all ++ x, by go_num, rfl, by omega, Hn, hf4, hB4⟩
      case measure => simp [intOf]; omega
    · obtain rfl : k = l.length := by omega
      have hsm := w_DSumH g w.heap.size all wo hf (by omega)
      go_wp2_with fail
      refine Calls.mono hsm ?_
      rintro e w3 ⟨rfl, hb3⟩
      have hB3 := hbel.trans (hb3.mono hbel.size)
      have hdr := w_DigestR all (by omega) w3 (hA.keep hB3)
      go_wp2_with fail
      refine Calls.mono hdr ?_
      rintro e w4 ⟨rfl, hb4⟩
      go_wp2_with fail
      go_ret
      exact ⟨by simp, hB3.trans (hb4.mono hB3.size)⟩

theorem own : ownKnob Tryd.prog.godebug = none := by kernel_rfl
theorem laidOut : laidOutB Tryd.prog = true := by kernel_rfl
theorem reads (os : Os) {H : Type} (enc : TypeId × Value → H) : ∃ places, DataW.whole enc Tryd.prog ((laidWorld os).forCall (fun _ _ => 0) ⟨#[], #[.slice none 0 0], []⟩).memory Tryd.f3.params.toList Rows.digestComesSpec.vars false (#[.slice none 0 0] : Array Value).toList 8 = some ([.nil], [], places) :=
  ⟨[], by kernel_rfl⟩
set_option maxRecDepth 100000 in
theorem lifted (os : Os) (started : os.Started) (H : Type) (enc : TypeId × Value → H) (F : Stop.Interp) :
    ReturnsInHanded {} Tryd.checked os 3 .any ((Rows.OpenSpec.upto Rows.digestComesSpec).preRow enc Tryd.prog Tryd.f3 Rows.digestComesUptoRow.domain false Rows.digestComesUptoRow.laid) (((Rows.OpenSpec.upto Rows.digestComesSpec).at F).post enc Tryd.prog Tryd.f3 false true false false) := by
  obtain ⟨places, hx⟩ := reads os enc
  refine returnsInHanded_of_row (C := Tryd.checked) (s := Rows.OpenSpec.upto Rows.digestComesSpec) own started (by kernel_rfl) Tryd.func3
    (witness_row_atRef (enc := enc) (C := Tryd.checked) false (laidWorld os) #[.slice none 0 0] rfl (by kernel_rfl) (by kernel_rfl) (by kernel_rfl)
      (OpenSpec.preRow_of_cond 8 hx (by kernel_rfl) (fun k hk => by cases hk; kernel_rfl) (by kernel_rfl) (laidWorld_met os _))) ?_
  intro W base args ds gs before hval0 hW hcnd hcond hsz0 hL hsh _
  have hk0 := hcond _ rfl
  clear hcond
  have hval : ∀ (j : Nat) t v, Tryd.f3.params[j]? = some t → args[j]? = some v → Value.okWide Tryd.prog W .any base t v := hval0
  have hW' := hW
  obtain ⟨p, q, hA0, hV, rfl, hfz, hnd⟩ := hW
  have hA : DataW.TrodAll enc Tryd.prog W 0 (fun _ => true) true Tryd.f3.params.toList args.toList ds p := hA0
  rw [Tryd.params3] at hA hval
  obtain ⟨v0, vs0, d0, ds0, p0, q0, hargs, rfl, rfl, h0, r0⟩ := trodAll_cons hA
  obtain ⟨rfl, rfl, rfl⟩ := trodAll_nil r0
  obtain rfl : args = #[v0] := by cases args; simp_all
  obtain ⟨rfl, rfl⟩ := trodVars_none hV
  simp only [List.append_nil] at hk0
  have hbulk := of_decide_eq_true hk0
  simp only [Rows.uptoBulkAll] at hbulk
  have k0 := h0
  have lt0 : ∀ x ∈ p0, x.block < W.heap.size := by obtain ⟨m, hm⟩ := k0; exact DataW.trod_lt m _ _ _ hm
  obtain ⟨A0, l0, c0, rfl, lc0, cm0, rd0, ok0, dd0⟩ := open_list (enc := enc) (OpenE.string Tryd.underlying9 (by kernel_rfl)) Tryd.underlying22 (hval 0 22 v0 rfl rfl) h0
  have bk0 := bulk_list (enc := enc) (OpenE.string Tryd.underlying9 (by kernel_rfl)) dd0
  have b0 : (l0.map (fun s => s.length + 1)).sum ≤ 1048576 := by (try simp only [Rows.uptoBulk] at hbulk); omega
  clear hA0 hval0
  refine (walkL l0 A0 c0 lc0 b0 ok0 W rd0 hL hsh).mono fun e W' ⟨he, bel⟩ => ?_
  subst he
  exact ⟨_, rfl, _, _, _, [], _, [], hW', trodAll_mk1 (shut_bool Tryd.underlying4 _), (trodAll_cons_mk (Below.trod laidOut (by kernel_rfl) (of_decide_eq_true (by kernel_rfl)) k0 bel lt0) trodAll_mk0), rfl, bel.frame _, fun h => by cases h⟩

/-- The statement. -/
theorem proved : Rows.DigestComesUptoSaid :=
  OpenClaim.holds_of_cond 3 Tryd.f3 rfl rfl rfl rfl rfl rfl rfl ⟨rfl, rfl, rfl, rfl, rfl⟩ rfl rfl rfl rfl rfl (by kernel_rfl) Tryd.func3 (by kernel_rfl)
    (of_decide_eq_true (by kernel_rfl)) (by unfold Func.isWrapper; first | (rw [if_pos (by decide +kernel)]; kernel_rfl) | (rw [if_neg (by decide +kernel)]; exact ⟨rfl, rfl⟩))
    (fun os started H enc _ F => by rw [OpenClaim.pre_eq_preRow]; exact lifted os started H enc F)
#print axioms proved

/-- The card: the row, its listed variables tied to the program's text. -/
theorem card : Rows.DigestComesUptoCardSaid :=
  Claim7.holds_tied_plain_at .later [] _ _ _ _
    proved (fun _ h => by cases h) (by kernel_rfl) (fun _ h => by cases h) digestComesUpto_row_tie rfl ⟨rfl, rfl⟩ (by kernel_rfl) rfl
    (fun f fn hf hfn => by
      obtain rfl : f = 3 := Option.some.inj ((show Tryd.prog.funcNamed "larder/larderlaw.DigestComes" = some 3 by kernel_rfl).symm.trans hf) |>.symm
      obtain rfl : fn = Tryd.f3 := (Option.some.inj (Tryd.func3.symm.trans hfn)).symm
      exact ⟨by kernel_rfl, fun j t ht => by
        rw [Tryd.params3] at ht
        have hm : t ∈ [22] := by simpa using Array.mem_of_getElem? ht
        have hall : ([22].all fun u => !Tryd.prog.wantsStandIn u) = true := by kernel_rfl
        exact (show Tryd.prog.wantsStandIn t = false by simpa using List.all_eq_true.1 hall t hm)⟩)
    (by kernel_rfl)
#print axioms card
end Go.Proofs.YtbchkaoocobpfaaDoor.digestComes
