/- VarySays: for every three lists of fields of bulk at most 1048576, Names and Match answer as the reference does. -/
import Derived.Test.YtmhhjmncbclihaaRows
import Derived.Test.YtmhhjmncbclihaaFrame
import Derived.Lib.SmallJoins
import Derived.Test.YtmhhjmncbclihaaWVaryN
import Derived.Test.YtmhhjmncbclihaaWEq
import Derived.Test.YtmhhjmncbclihaaOpen
namespace Go.Proofs.Ytmhhjmncbclihaa.varySays
open Go.RowKit Go.Larder Go.ChangeShapes Go.WideShapes Go.ChangeAt
open Go.ChangeMaps (open_string shut_string)
open Go.Joins (open_agg2 open_agg3)
set_option linter.unusedVariables false
set_option linter.unusedSimpArgs false

theorem walkL (l : List Fld) (A : Option Addr) (c : Nat) (lc : l.length ≤ c) (hj : (l.map (fun f => f.1.length + f.2.length + 3)).sum ≤ 1048576) (ok : ∀ x ∈ l, True) (a : List Fld) (A1 : Option Addr) (c1 : Nat) (lc1 : a.length ≤ c1) (hja : (a.map (fun f => f.1.length + f.2.length + 3)).sum ≤ 1048576) (ok1 : ∀ x ∈ a, True)
    (b : List Fld) (A2 : Option Addr) (c2 : Nat) (lc2 : b.length ≤ c2) (hjb : (b.map (fun f => f.1.length + f.2.length + 3)).sum ≤ 1048576) (ok2 : ∀ x ∈ b, True) (w : World) (hr : ReadL encF w w.heap.size A l) (hra : ReadL encF w w.heap.size A1 a) (hrb : ReadL encF w w.heap.size A2 b) :
    Calls Try.prog 8 #[.slice A l.length c, .slice A1 a.length c1, .slice A2 b.length c2] w fun e w' => e = .returned (.bool true) ∧ Below w.heap.size w w' := by
  have h1 := w_Names l hj A c w hr
  have R : ∀ {l : List Fld} {A : Option Addr} (W : World), Below w.heap.size w W → ReadL encF w w.heap.size A l → ReadL encF W W.heap.size A l := fun W hW h => (h.below hW (Nat.le_refl _)).more hW.size
  have h2 := fun W hW => w_NamesR l hj A c W (R W hW hr)
  have h3 := fun W hW => w_Match l a b hj hja hjb A c A1 c1 A2 c2 W (R W hW hr) (R W hW hra) (R W hW hrb)
  have h4 := fun W hW => w_MatchR l a b hj hja hjb A c A1 c1 A2 c2 W (R W hW hr) (R W hW hra) (R W hW hrb)
  generalize (matchE l a b).1 = mm at *
  generalize (matchE l a b).2 = me at *
  obtain ⟨r, hrr⟩ : ∃ r, varyE (Lib.join (valsL (lowL varyN) l) sepL) = r := ⟨_, rfl⟩
  rw [hrr] at h1
  simp only [hrr] at h2
  cases r with
  | error n =>
    go_enter Try.func8, Try.ntmps8
    go_wp2_with fail
    refine h1.mono ?_
    intro e w1 p1
    obtain ⟨A3, c3, rfl, hb1⟩ := vyPost_err p1 rfl
    clear p1
    go_wp2_with fail
    refine (h2 _ hb1).mono ?_
    intro e w2 p2
    obtain ⟨A4, c4, rfl, hb2⟩ := vyPost_err p2 rfl
    clear p2
    have hB2 := hb1.trans (hb2.mono hb1.size)
    go_wp2_with fail
    refine (h3 _ hB2).mono ?_
    rintro e w3 ⟨rfl, hb3⟩
    have hB3 := hB2.trans (hb3.mono hB2.size)
    go_wp2_with fail
    refine (h4 _ hB3).mono ?_
    rintro e w4 ⟨rfl, hb4⟩
    have hB4 := hB3.trans (hb4.mono hB3.size)
    have h5 : Calls Try.prog 12 #[.slice A3 0 c3, .slice A4 0 c4] w4 fun e w' => e = .returned (.bool true) ∧ w4 = w' := w_Eq_string [] (by simp) A3 A4 c3 c4 0 0 w4 ReadL.nil ReadL.nil
    go_wp2_with fail
    refine h5.mono ?_
    rintro e w5 ⟨rfl, rfl⟩
    go_wp2_with fail
    go_ret
    exact ⟨by simp, hB4⟩
  | ok p =>
    obtain ⟨ns, st⟩ := p
    obtain ⟨hnl, hnm⟩ := varyE_bound hrr
    clear hnm
    go_enter Try.func8, Try.ntmps8
    go_wp2_with fail
    refine h1.mono ?_
    intro e w1 p1
    obtain ⟨A3, c3, rfl, hr3, hb1⟩ := vyPost_yes p1 rfl
    clear p1
    go_wp2_with fail
    refine (h2 _ hb1).mono ?_
    intro e w2 p2
    obtain ⟨A4, c4, rfl, hr4, hb2⟩ := vyPost_yes p2 rfl
    clear p2
    have hB2 := hb1.trans (hb2.mono hb1.size)
    go_wp2_with fail
    refine (h3 _ hB2).mono ?_
    rintro e w3 ⟨rfl, hb3⟩
    have hB3 := hB2.trans (hb3.mono hB2.size)
    go_wp2_with fail
    refine (h4 _ hB3).mono ?_
    rintro e w4 ⟨rfl, hb4⟩
    have hB4 := hB3.trans (hb4.mono hB3.size)
    have hr3' := ((hr3.below hb2 (Nat.le_refl _)).below (hb3.mono hb2.size) (Nat.le_refl _)).below (hb4.mono (Nat.le_trans hb2.size hb3.size)) (Nat.le_refl _)
    have hr4' := (hr4.below hb3 (Nat.le_refl _)).below (hb4.mono hb3.size) (Nat.le_refl _)
    have h5 := w_Eq_string ns (by omega) A3 A4 c3 c4 w1.heap.size w2.heap.size w4 hr3' hr4'
    go_wp2_with fail
    refine h5.mono ?_
    rintro e w5 ⟨rfl, rfl⟩
    go_wp2_with fail
    go_ret
    exact ⟨by simp, hB4⟩

theorem own : ownKnob Try.prog.godebug = none := by kernel_rfl
theorem laidOut : laidOutB Try.prog = true := by kernel_rfl
set_option maxRecDepth 100000 in
theorem lifted (os : Os) (started : os.Started) (H : Type) (enc : TypeId × Value → H) (F : Stop.Interp) :
    ReturnsInHanded {} Try.checked os 8 .any ((Rows.OpenSpec.upto Rows.varySaysSpec).pre6 enc Try.prog Try.f8 Rows.varySaysUptoRow.domain false) (((Rows.OpenSpec.upto Rows.varySaysSpec).at F).post enc Try.prog Try.f8 false true false false) := by
  refine cond_shaped (C := Try.checked) (s := Rows.OpenSpec.upto Rows.varySaysSpec) (k := Rows.uptoSmall) rfl own started (by kernel_rfl) Try.func8
    (OpenSpec.witness (enc := enc) (C := Try.checked) (s := Rows.OpenSpec.upto Rows.varySaysSpec) (k := Rows.uptoSmall) rfl false ⟨#[], #[.slice none 0 0, .slice none 0 0, .slice none 0 0], []⟩ 8 (by kernel_rfl) (by kernel_rfl) (by kernel_rfl)
      (x := ([.nil, .nil, .nil], [], [])) (by kernel_rfl) rfl (by kernel_rfl)) ?_
  intro W base args ds gs before hval0 hW hcnd hk0 hsh _
  have hval : ∀ (j : Nat) t v, Try.f8.params[j]? = some t → args[j]? = some v → Value.okWide Try.prog W .any base t v := hval0
  have hW' := hW
  obtain ⟨p, q, hA0, hV, rfl, hfz, hnd⟩ := hW
  have hA : DataW.TrodAll enc Try.prog W 0 (fun _ => true) true Try.f8.params.toList args.toList ds p := hA0
  rw [Try.params8] at hA hval
  obtain ⟨v0, vs0, d0, ds0, p0, q0, hargs, rfl, rfl, h0, r0⟩ := trodAll_cons hA
  obtain ⟨v1, vs1, d1, ds1, p1, q1, rfl, rfl, rfl, h1, r1⟩ := trodAll_cons r0
  obtain ⟨v2, vs2, d2, ds2, p2, q2, rfl, rfl, rfl, h2, r2⟩ := trodAll_cons r1
  obtain ⟨rfl, rfl, rfl⟩ := trodAll_nil r2
  obtain rfl : args = #[v0, v1, v2] := by cases args; simp_all
  obtain ⟨rfl, rfl⟩ := trodVars_none hV
  simp only [List.append_nil] at hk0
  have hbulk := of_decide_eq_true hk0
  simp only [Rows.uptoBulkAll] at hbulk
  have k0 := h0
  have lt0 : ∀ x ∈ p0, x.block < W.heap.size := by obtain ⟨m, hm⟩ := k0; exact DataW.trod_lt m _ _ _ hm
  obtain ⟨A0, l0, c0, rfl, lc0, cm0, rd0, ok0, dd0⟩ := open_list (enc := enc) (OpenE.texts (f0 := _) (f1 := _) Try.underlying152 (by kernel_rfl) Try.underlying9 Try.underlying9 rfl rfl (by kernel_rfl) (by kernel_rfl)) Try.underlying41 (hval 0 41 v0 rfl rfl) h0
  have bk0 := bulk_list (enc := enc) (OpenE.texts (f0 := _) (f1 := _) Try.underlying152 (by kernel_rfl) Try.underlying9 Try.underlying9 rfl rfl (by kernel_rfl) (by kernel_rfl)) dd0
  have b0 : (l0.map (fun f => f.1.length + f.2.length + 3)).sum ≤ 1048576 := by (try simp only [Rows.uptoBulk] at hbulk); omega
  have k1 := h1
  have lt1 : ∀ x ∈ p1, x.block < W.heap.size := by obtain ⟨m, hm⟩ := k1; exact DataW.trod_lt m _ _ _ hm
  obtain ⟨A1, l1, c1, rfl, lc1, cm1, rd1, ok1, dd1⟩ := open_list (enc := enc) (OpenE.texts (f0 := _) (f1 := _) Try.underlying152 (by kernel_rfl) Try.underlying9 Try.underlying9 rfl rfl (by kernel_rfl) (by kernel_rfl)) Try.underlying41 (hval 1 41 v1 rfl rfl) h1
  have bk1 := bulk_list (enc := enc) (OpenE.texts (f0 := _) (f1 := _) Try.underlying152 (by kernel_rfl) Try.underlying9 Try.underlying9 rfl rfl (by kernel_rfl) (by kernel_rfl)) dd1
  have b1 : (l1.map (fun f => f.1.length + f.2.length + 3)).sum ≤ 1048576 := by (try simp only [Rows.uptoBulk] at hbulk); omega
  have k2 := h2
  have lt2 : ∀ x ∈ p2, x.block < W.heap.size := by obtain ⟨m, hm⟩ := k2; exact DataW.trod_lt m _ _ _ hm
  obtain ⟨A2, l2, c2, rfl, lc2, cm2, rd2, ok2, dd2⟩ := open_list (enc := enc) (OpenE.texts (f0 := _) (f1 := _) Try.underlying152 (by kernel_rfl) Try.underlying9 Try.underlying9 rfl rfl (by kernel_rfl) (by kernel_rfl)) Try.underlying41 (hval 2 41 v2 rfl rfl) h2
  have bk2 := bulk_list (enc := enc) (OpenE.texts (f0 := _) (f1 := _) Try.underlying152 (by kernel_rfl) Try.underlying9 Try.underlying9 rfl rfl (by kernel_rfl) (by kernel_rfl)) dd2
  have b2 : (l2.map (fun f => f.1.length + f.2.length + 3)).sum ≤ 1048576 := by (try simp only [Rows.uptoBulk] at hbulk); omega
  clear hA0 hval0
  refine (walkL l0 A0 c0 lc0 b0 ok0 l1 A1 c1 lc1 b1 ok1 l2 A2 c2 lc2 b2 ok2 W rd0 rd1 rd2).mono fun e W' ⟨he, bel⟩ => ?_
  subst he
  exact ⟨_, rfl, _, _, _, [], _, [], hW', trodAll_mk1 (shut_bool Try.underlying4 _), (trodAll_cons_mk (Below.trod laidOut (by kernel_rfl) (of_decide_eq_true (by kernel_rfl)) k0 bel lt0) (trodAll_cons_mk (Below.trod laidOut (by kernel_rfl) (of_decide_eq_true (by kernel_rfl)) k1 bel lt1) (trodAll_cons_mk (Below.trod laidOut (by kernel_rfl) (of_decide_eq_true (by kernel_rfl)) k2 bel lt2) trodAll_mk0))), rfl, bel.frame _, fun h => by cases h⟩

/-- The statement. -/
theorem proved : Rows.VarySaysUptoSaid :=
  OpenClaim.holds_of_cond 8 Try.f8 rfl rfl rfl rfl rfl rfl rfl ⟨rfl, rfl, rfl, rfl, rfl⟩ rfl rfl rfl rfl rfl (by kernel_rfl) Try.func8 (by kernel_rfl)
    (of_decide_eq_true (by kernel_rfl)) (by unfold Func.isWrapper; first | (rw [if_pos (by decide +kernel)]; kernel_rfl) | (rw [if_neg (by decide +kernel)]; exact ⟨rfl, rfl⟩))
    (fun os started H enc _ F => lifted os started H enc F)
#print axioms proved
end Go.Proofs.Ytmhhjmncbclihaa.varySays
