/- FieldGets: for every list of fields and name, together of bulk at most 1048576, field.Get answers as the reference does. -/
import Derived.Test.YtiaboojdplcaoaaRows
import Derived.Test.YtiaboojdplcaoaaFrame
import Derived.Test.YtiaboojdplcaoaaWGet
import Derived.Test.YtiaboojdplcaoaaOpen
namespace Go.Proofs.Ytiaboojdplcaoaa.fieldGets
open Go.RowKit Go.Larder Go.ChangeShapes Go.WideShapes Go.ChangeAt
open Go.ChangeMaps (open_string shut_string)
set_option linter.unusedVariables false
set_option linter.unusedSimpArgs false

theorem sum_big {l : List Fld} (h : (l.map (fun f => f.1.length + f.2.length + 3)).sum ≤ 1048576) : l.length ≤ 1048576 ∧ ∀ f ∈ l, f.1.length ≤ 1048576 ∧ f.2.length ≤ 1048576 := by
  have h1 : ∀ l : List Fld, l.length ≤ (l.map (fun f => f.1.length + f.2.length + 3)).sum := by
    intro l
    induction l with
    | nil => simp
    | cons f l ih => simp; omega
  have h2 : ∀ l : List Fld, ∀ f ∈ l, f.1.length + f.2.length ≤ (l.map (fun f => f.1.length + f.2.length + 3)).sum := by
    intro l
    induction l with
    | nil => simp
    | cons g l ih =>
      intro f hf
      rcases List.mem_cons.1 hf with rfl | hf
      · simp; omega
      · have := ih f hf; simp; omega
  exact ⟨by have := h1 l; omega, fun f hf => by have := h2 l f hf; omega⟩

theorem walkL (l : List Fld) (A : Option Addr) (c : Nat) (hlc : l.length ≤ c) (hb : (l.map (fun f => f.1.length + f.2.length + 3)).sum ≤ 1048576) (_ : ∀ x ∈ l, True)
    (nm : List UInt8) (hnm : nm.length ≤ 1048576) (w : World) (hr : ReadL encF w w.heap.size A l) :
    Calls Try.prog 5 #[.slice A l.length c, S nm] w fun e w' => e = .returned (.bool true) ∧ Below w.heap.size w w' := by
  obtain ⟨hl, hx⟩ := sum_big hb
  have hj : (Lib.join (valsL (lowL nm) l) sepL).length ≤ 140737488355328 := by
    have h1 := join_len_le (valsL (lowL nm) l)
    have h2 := vals_len_le (lowL nm) l
    omega
  have hgo := getGo_all (lowL nm) l
  have hgetR := fun w hr => w_GetR nm hnm l (fun f hf => (hx f hf).1) hl hb A c w hr
  rw [hgo] at hgetR
  have hget := fun w hr => w_Get nm hnm l (fun f hf => (hx f hf).1) hl hj A c w hr
  clear hgo
  generalize Lib.join (valsL (lowL nm) l) sepL = a at hget hgetR hj
  generalize (!(valsL (lowL nm) l).isEmpty) = is at hget hgetR
  go_enter Try.func5, Try.ntmps5
  go_wp2_with fail
  refine (hget _ hr).mono ?_
  rintro e w1 ⟨rfl, hb1⟩
  have hr1 := (hr.below hb1 (Nat.le_refl _)).more hb1.size
  go_wp2_with fail
  refine (hgetR _ hr1).mono ?_
  rintro e w2 ⟨rfl, hb2⟩
  go_wp2_with fail
  go_ret
  exact ⟨by simp, hb1.trans (hb2.mono hb1.size)⟩

theorem own : ownKnob Try.prog.godebug = none := by kernel_rfl
theorem laidOut : laidOutB Try.prog = true := by kernel_rfl
set_option maxRecDepth 100000 in
theorem lifted (os : Os) (started : os.Started) (H : Type) (enc : TypeId × Value → H) (F : Stop.Interp) :
    ReturnsInHanded {} Try.checked os 5 .any ((Rows.OpenSpec.upto Rows.fieldGetsSpec).pre6 enc Try.prog Try.f5 Rows.fieldGetsUptoRow.domain false) (((Rows.OpenSpec.upto Rows.fieldGetsSpec).at F).post enc Try.prog Try.f5 false true false false) := by
  refine cond_shaped (C := Try.checked) (s := Rows.OpenSpec.upto Rows.fieldGetsSpec) (k := Rows.uptoSmall) rfl own started (by kernel_rfl) Try.func5
    (OpenSpec.witness (enc := enc) (C := Try.checked) (s := Rows.OpenSpec.upto Rows.fieldGetsSpec) (k := Rows.uptoSmall) rfl false ⟨#[], #[.slice none 0 0, .string ByteArray.empty], []⟩ 8 (by kernel_rfl) (by kernel_rfl) (by kernel_rfl)
      (x := ([.nil, .lit (.string [])], [], [])) (by kernel_rfl) rfl (by kernel_rfl)) ?_
  intro W base args ds gs before hval0 hW hcnd hk0 hsh _
  have hval : ∀ (j : Nat) t v, Try.f5.params[j]? = some t → args[j]? = some v → Value.okWide Try.prog W .any base t v := hval0
  have hW' := hW
  obtain ⟨p, q, hA0, hV, rfl, hfz, hnd⟩ := hW
  have hA : DataW.TrodAll enc Try.prog W 0 (fun _ => true) true Try.f5.params.toList args.toList ds p := hA0
  rw [Try.params5] at hA hval
  obtain ⟨v0, vs0, d0, ds0, p0, q0, hargs, rfl, rfl, h0, r0⟩ := trodAll_cons hA
  obtain ⟨v1, vs1, d1, ds1, p1, q1, rfl, rfl, rfl, h1, r1⟩ := trodAll_cons r0
  obtain ⟨rfl, rfl, rfl⟩ := trodAll_nil r1
  obtain rfl : args = #[v0, v1] := by cases args; simp_all
  obtain ⟨rfl, rfl⟩ := trodVars_none hV
  simp only [List.append_nil] at hk0
  have hbulk := of_decide_eq_true hk0
  simp only [Rows.uptoBulkAll] at hbulk
  have k0 := h0
  have lt0 : ∀ x ∈ p0, x.block < W.heap.size := by obtain ⟨m, hm⟩ := k0; exact DataW.trod_lt m _ _ _ hm
  obtain ⟨A0, l0, c0, rfl, lc0, cm0, rd0, ok0, dd0⟩ := open_list (enc := enc) (OpenE.texts (f0 := _) (f1 := _) Try.underlying47 (by kernel_rfl) Try.underlying9 Try.underlying9 rfl rfl (by kernel_rfl) (by kernel_rfl)) Try.underlying28 (hval 0 28 v0 rfl rfl) h0
  have bk0 := bulk_list (enc := enc) (OpenE.texts (f0 := _) (f1 := _) Try.underlying47 (by kernel_rfl) Try.underlying9 Try.underlying9 rfl rfl (by kernel_rfl) (by kernel_rfl)) dd0
  have b0 : (l0.map (fun f => f.1.length + f.2.length + 3)).sum ≤ 1048576 := by (try simp only [Rows.uptoBulk] at hbulk); omega
  have k1 := h1
  have lt1 : ∀ x ∈ p1, x.block < W.heap.size := by obtain ⟨m, hm⟩ := k1; exact DataW.trod_lt m _ _ _ hm
  obtain ⟨s1, rfl, rfl, rfl, w1⟩ := open_string Try.underlying9 (hval 1 9 v1 rfl rfl) h1
  obtain ⟨⟨l1⟩⟩ := s1
  have b1 : l1.length ≤ 1048576 := by simp only [Rows.uptoBulk] at hbulk; omega
  clear hA0 hval0
  refine (walkL l0 A0 c0 lc0 b0 ok0 l1 b1 W rd0).mono fun e W' ⟨he, bel⟩ => ?_
  subst he
  exact ⟨_, rfl, _, _, _, [], _, [], hW', trodAll_mk1 (shut_bool Try.underlying4 _), (trodAll_cons_mk (Below.trod laidOut (by kernel_rfl) (of_decide_eq_true (by kernel_rfl)) k0 bel lt0) (trodAll_cons_mk (Below.trod laidOut (by kernel_rfl) (of_decide_eq_true (by kernel_rfl)) k1 bel lt1) trodAll_mk0)), rfl, bel.frame _, fun h => by cases h⟩

/-- The statement. -/
theorem proved : Rows.FieldGetsUptoSaid :=
  OpenClaim.holds_of_cond 5 Try.f5 rfl rfl rfl rfl rfl rfl rfl ⟨rfl, rfl, rfl, rfl, rfl⟩ rfl rfl rfl rfl rfl (by kernel_rfl) Try.func5 (by kernel_rfl)
    (of_decide_eq_true (by kernel_rfl)) (by unfold Func.isWrapper; first | (rw [if_pos (by decide +kernel)]; kernel_rfl) | (rw [if_neg (by decide +kernel)]; exact ⟨rfl, rfl⟩))
    (fun os started H enc _ F => lifted os started H enc F)
#print axioms proved
end Go.Proofs.Ytiaboojdplcaoaa.fieldGets
