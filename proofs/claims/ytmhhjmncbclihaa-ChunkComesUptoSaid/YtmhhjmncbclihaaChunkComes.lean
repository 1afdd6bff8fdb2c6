/- ChunkComes: for every list of texts and every list of ends, of bulk at most 1048576, a cutter that takes the texts one by one answers as the reference does. -/
import Derived.Test.YtmhhjmncbclihaaRows
import Derived.Test.YtmhhjmncbclihaaFrame
import Derived.Lib.SmallJoins
import Derived.Test.YtmhhjmncbclihaaWCkc
import Derived.Test.YtmhhjmncbclihaaOpenB
namespace Go.Proofs.Ytmhhjmncbclihaa.chunkComes
open Go.RowKit Go.Larder Go.ChangeShapes Go.WideShapes Go.ChangeAt
open Go.ChangeMaps (open_string shut_string)
open Go.Joins (open_agg2 open_agg3)
set_option linter.unusedVariables false
set_option linter.unusedSimpArgs false

theorem walkL (l : List (List UInt8)) (A : Option Addr) (c : Nat) (lc : l.length ≤ c) (hb : (l.map (fun s => s.length + 1)).sum ≤ 1048576) (ok : ∀ x ∈ l, True) (ends : List Bool) (A' : Option Addr) (c' : Nat) (lc' : ends.length ≤ c') (hb' : (ends.map (fun _ => 1)).sum ≤ 1048576) (ok' : ∀ x ∈ ends, True) (w : World) (hr : ReadL encL w w.heap.size A l) (hr' : ReadL encBl w w.heap.size A' ends) :
    Calls Try.prog 3 #[.slice A l.length c, .slice A' ends.length c'] w fun e w' => e = .returned (.bool true) ∧ Below w.heap.size w w' :=
  w_ChunkComes l hb ends (by
    have : ∀ m : List Bool, (m.map (fun _ => 1)).sum = m.length := fun m => by induction m with | nil => rfl | cons a m ih => simp [ih]; omega
    rw [this] at hb'; exact hb') A A' c c' w hr hr'

theorem own : ownKnob Try.prog.godebug = none := by kernel_rfl
theorem laidOut : laidOutB Try.prog = true := by kernel_rfl
set_option maxRecDepth 100000 in
theorem lifted (os : Os) (started : os.Started) (H : Type) (enc : TypeId × Value → H) (F : Stop.Interp) :
    ReturnsInHanded {} Try.checked os 3 .any ((Rows.OpenSpec.upto Rows.chunkComesSpec).pre6 enc Try.prog Try.f3 Rows.chunkComesUptoRow.domain false) (((Rows.OpenSpec.upto Rows.chunkComesSpec).at F).post enc Try.prog Try.f3 false true false false) := by
  refine cond_shaped (C := Try.checked) (s := Rows.OpenSpec.upto Rows.chunkComesSpec) (k := Rows.uptoSmall) rfl own started (by kernel_rfl) Try.func3
    (OpenSpec.witness (enc := enc) (C := Try.checked) (s := Rows.OpenSpec.upto Rows.chunkComesSpec) (k := Rows.uptoSmall) rfl false ⟨#[], #[.slice none 0 0, .slice none 0 0], []⟩ 8 (by kernel_rfl) (by kernel_rfl) (by kernel_rfl)
      (x := ([.nil, .nil], [], [])) (by kernel_rfl) rfl (by kernel_rfl)) ?_
  intro W base args ds gs before hval0 hW hcnd hk0 hsh _
  have hval : ∀ (j : Nat) t v, Try.f3.params[j]? = some t → args[j]? = some v → Value.okWide Try.prog W .any base t v := hval0
  have hW' := hW
  obtain ⟨p, q, hA0, hV, rfl, hfz, hnd⟩ := hW
  have hA : DataW.TrodAll enc Try.prog W 0 (fun _ => true) true Try.f3.params.toList args.toList ds p := hA0
  rw [Try.params3] at hA hval
  obtain ⟨v0, vs0, d0, ds0, p0, q0, hargs, rfl, rfl, h0, r0⟩ := trodAll_cons hA
  obtain ⟨v1, vs1, d1, ds1, p1, q1, rfl, rfl, rfl, h1, r1⟩ := trodAll_cons r0
  obtain ⟨rfl, rfl, rfl⟩ := trodAll_nil r1
  obtain rfl : args = #[v0, v1] := by cases args; simp_all
  obtain ⟨rfl, rfl⟩ := trodVars_none hV
  simp only [List.append_nil] at hk0
  have hbulk := of_decide_eq_true hk0
  simp only [Rows.uptoBulkAll] at hbulk
  have k0 := h0
  have lt0 : ∀ x ∈ p0, x.block < W.heap.size := by obtain ⟨m, hm⟩ := k0; exact DataW.trod_lt m _ _ _ hm
  obtain ⟨A0, l0, c0, rfl, lc0, cm0, rd0, ok0, dd0⟩ := open_list (enc := enc) (OpenE.string Try.underlying9 (by kernel_rfl)) Try.underlying22 (hval 0 22 v0 rfl rfl) h0
  have bk0 := bulk_list (enc := enc) (OpenE.string Try.underlying9 (by kernel_rfl)) dd0
  have b0 : (l0.map (fun s => s.length + 1)).sum ≤ 1048576 := by (try simp only [Rows.uptoBulk] at hbulk); omega
  have k1 := h1
  have lt1 : ∀ x ∈ p1, x.block < W.heap.size := by obtain ⟨m, hm⟩ := k1; exact DataW.trod_lt m _ _ _ hm
  obtain ⟨A1, l1, c1, rfl, lc1, cm1, rd1, ok1, dd1⟩ := open_list (enc := enc) (OpenE.bools Try.underlying4 (by kernel_rfl)) Try.underlying23 (hval 1 23 v1 rfl rfl) h1
  have bk1 := bulk_list (enc := enc) (OpenE.bools Try.underlying4 (by kernel_rfl)) dd1
  have b1 : (l1.map (fun _ => 1)).sum ≤ 1048576 := by (try simp only [Rows.uptoBulk] at hbulk); omega
  clear hA0 hval0
  refine (walkL l0 A0 c0 lc0 b0 ok0 l1 A1 c1 lc1 b1 ok1 W rd0 rd1).mono fun e W' ⟨he, bel⟩ => ?_
  subst he
  exact ⟨_, rfl, _, _, _, [], _, [], hW', trodAll_mk1 (shut_bool Try.underlying4 _), (trodAll_cons_mk (Below.trod laidOut (by kernel_rfl) (of_decide_eq_true (by kernel_rfl)) k0 bel lt0) (trodAll_cons_mk (Below.trod laidOut (by kernel_rfl) (of_decide_eq_true (by kernel_rfl)) k1 bel lt1) trodAll_mk0)), rfl, bel.frame _, fun h => by cases h⟩

/-- The statement. -/
theorem proved : Rows.ChunkComesUptoSaid :=
  OpenClaim.holds_of_cond 3 Try.f3 rfl rfl rfl rfl rfl rfl rfl ⟨rfl, rfl, rfl, rfl, rfl⟩ rfl rfl rfl rfl rfl (by kernel_rfl) Try.func3 (by kernel_rfl)
    (of_decide_eq_true (by kernel_rfl)) (by unfold Func.isWrapper; first | (rw [if_pos (by decide +kernel)]; kernel_rfl) | (rw [if_neg (by decide +kernel)]; exact ⟨rfl, rfl⟩))
    (fun os started H enc _ F => lifted os started H enc F)
#print axioms proved
end Go.Proofs.Ytmhhjmncbclihaa.chunkComes
