/- PolicyStores: for every request and response, of bulk at most 1048576 together, MayStore answers as the reference does. -/
import Derived.Test.YtmhhjmncbclihaaRows
import Derived.Test.YtmhhjmncbclihaaFrame
import Derived.Lib.SmallJoins
import Derived.Test.YtmhhjmncbclihaaWPst
import Derived.Test.YtmhhjmncbclihaaOpenM
namespace Go.Proofs.Ytmhhjmncbclihaa.policyStores
open Go.RowKit Go.Larder Go.ChangeShapes Go.WideShapes Go.ChangeAt
open Go.ChangeMaps (open_string shut_string)
open Go.Joins (open_agg2 open_agg3)
set_option linter.unusedVariables false
set_option linter.unusedSimpArgs false

theorem walkL (m : List UInt8) (hm : m.length ≤ 1048576) (tg : List UInt8) (htg : tg.length ≤ 1048576) (A : Option Addr) (l : List Fld) (c : Nat) (hj : (l.map (fun f => f.1.length + f.2.length + 3)).sum ≤ 1048576) (bq : List UInt8) (hbq : bq.length ≤ 1048576)
    (code : Int) (hcode : -9223372036854775808 ≤ code ∧ code ≤ 9223372036854775807) (rs : List UInt8) (hrs : rs.length ≤ 1048576) (A2 : Option Addr) (l2 : List Fld) (c2 : Nat) (hj2 : (l2.map (fun f => f.1.length + f.2.length + 3)).sum ≤ 1048576) (bp : List UInt8) (hbp : bp.length ≤ 1048576) (w : World) (hr : ReadL encF w w.heap.size A l) (hr2 : ReadL encF w w.heap.size A2 l2) :
    Calls Try.prog 9 #[.agg #[S m, S tg, .slice A l.length c, S bq], .agg #[.int .i64 code, S rs, .slice A2 l2.length c2, S bp]] w fun e w' => e = .returned (.bool true) ∧ Below w.heap.size w w' := by
  have hm1 := fun (W : World) (hW : Below w.heap.size w W) => w_MayStore m hm tg A l c hj bq code rs A2 l2 c2 hj2 bp W ((hr.below hW (Nat.le_refl _)).more hW.size) ((hr2.below hW (Nat.le_refl _)).more hW.size)
  have hm2 := fun (W : World) (hW : Below w.heap.size w W) => w_MayStoreR m hm tg A l c hj bq code rs A2 l2 c2 hj2 bp W ((hr.below hW (Nat.le_refl _)).more hW.size) ((hr2.below hW (Nat.le_refl _)).more hW.size)
  rw [someD_np] at hm1
  generalize (mayB (m == [71, 69, 84]) (codeB code) (someD [[110, 111, 45, 115, 116, 111, 114, 101]] (dirsE l)) (someD [[110, 111, 45, 115, 116, 111, 114, 101]] (dirsE l2) || someD [[112, 114, 105, 118, 97, 116, 101]] (dirsE l2)) (thereB [[65, 117, 116, 104, 111, 114, 105, 122, 97, 116, 105, 111, 110]] l) (someD [[109, 117, 115, 116, 45, 114, 101, 118, 97, 108, 105, 100, 97, 116, 101], [112, 117, 98, 108, 105, 99], [115, 45, 109, 97, 120, 97, 103, 101]] (dirsE l2)) (badB (varyE (Lib.join (valsL (lowL varyN) l2) sepL))) (someD [[112, 117, 98, 108, 105, 99], [109, 97, 120, 45, 97, 103, 101], [115, 45, 109, 97, 120, 97, 103, 101]] (dirsE l2)) (thereB [[69, 120, 112, 105, 114, 101, 115], [76, 97, 115, 116, 45, 77, 111, 100, 105, 102, 105, 101, 100], [69, 84, 97, 103]] l2)) = v at *
  have bq0 := (BoxAt.new w [S m, S tg, .slice A l.length c, S bq] 43).alloc (.cells #[.int .i64 code, S rs, .slice A2 l2.length c2, S bp] 45)
  have br0 := BoxAt.new (w.alloc (.cells #[S m, S tg, .slice A l.length c, S bq] 43)) [.int .i64 code, S rs, .slice A2 l2.length c2, S bp] 45
  rw [World.size_alloc] at br0
  have hB0 : Below w.heap.size w ((w.alloc (.cells #[S m, S tg, .slice A l.length c, S bq] 43)).alloc (.cells #[.int .i64 code, S rs, .slice A2 l2.length c2, S bp] 45)) := ((Below.refl _ _).alloc (Nat.le_refl _) _).alloc (by simp) _
  go_enter Try.func9, Try.ntmps9
  go_wp2_with fail
  generalize hW0 : ((w.alloc (.cells #[S m, S tg, .slice A l.length c, S bq] 43)).alloc (.cells #[.int .i64 code, S rs, .slice A2 l2.length c2, S bp] 45)) = w0 at *
  have hX0 : Below w0.heap.size w0 w0.drew := (Below.refl _ _).drew
  have u0F := And.intro (bq0.cell (j := 0) rfl) (And.intro (bq0.cell (j := 1) rfl) (And.intro (bq0.cell (j := 2) rfl) (And.intro (bq0.cell (j := 3) rfl) (And.intro (br0.cell (j := 0) rfl) (And.intro (br0.cell (j := 1) rfl) (And.intro (br0.cell (j := 2) rfl) (br0.cell (j := 3) rfl)))))))
  go_region_held3 (fun W => W.cell? ⟨w.heap.size, 0, none⟩ = some (S m) ∧ W.cell? ⟨w.heap.size, 1, none⟩ = some (S tg) ∧ W.cell? ⟨w.heap.size, 2, none⟩ = some (.slice A l.length c) ∧ W.cell? ⟨w.heap.size, 3, none⟩ = some (S bq) ∧ W.cell? ⟨w.heap.size + 1, 0, none⟩ = some (.int .i64 code) ∧ W.cell? ⟨w.heap.size + 1, 1, none⟩ = some (S rs) ∧ W.cell? ⟨w.heap.size + 1, 2, none⟩ = some (.slice A2 l2.length c2) ∧ W.cell? ⟨w.heap.size + 1, 3, none⟩ = some (S bp)) ((first | exact u0F | exact u3F | exact u4F)) ((first
    | (go_at_call 44; first
      | ((with_reducible refine Calls.mono (hm1 w0.drew (hB0.trans (hX0.mono hB0.size))) ?_); rintro e w3 ⟨rfl, hb3⟩; have bq3 := bq0.drew.keep hb3; have br3 := br0.drew.keep hb3; have hb3 : Below w0.heap.size w0 w3 := Below.trans hX0 hb3; have u3F := And.intro (bq3.cell (j := 0) rfl) (And.intro (bq3.cell (j := 1) rfl) (And.intro (bq3.cell (j := 2) rfl) (And.intro (bq3.cell (j := 3) rfl) (And.intro (br3.cell (j := 0) rfl) (And.intro (br3.cell (j := 1) rfl) (And.intro (br3.cell (j := 2) rfl) (br3.cell (j := 3) rfl))))))))
      | ((with_reducible refine Calls.mono (hm1 w4 (hB0.trans (Below.mono hb4 hB0.size))) ?_); rintro e w3 ⟨rfl, hb3⟩; have bq3 := bq4.keep hb3; have br3 := br4.keep hb3; have hb3 : Below w0.heap.size w0 w3 := Below.trans hb4 (hb3.mono (Below.size hb4)); have u3F := And.intro (bq3.cell (j := 0) rfl) (And.intro (bq3.cell (j := 1) rfl) (And.intro (bq3.cell (j := 2) rfl) (And.intro (bq3.cell (j := 3) rfl) (And.intro (br3.cell (j := 0) rfl) (And.intro (br3.cell (j := 1) rfl) (And.intro (br3.cell (j := 2) rfl) (br3.cell (j := 3) rfl)))))))))
    | (go_at_call 45; first
      | ((with_reducible refine Calls.mono (hm2 w0.drew (hB0.trans (hX0.mono hB0.size))) ?_); rintro e w4 ⟨rfl, hb4⟩; have bq4 := bq0.drew.keep hb4; have br4 := br0.drew.keep hb4; have hb4 : Below w0.heap.size w0 w4 := Below.trans hX0 hb4; have u4F := And.intro (bq4.cell (j := 0) rfl) (And.intro (bq4.cell (j := 1) rfl) (And.intro (bq4.cell (j := 2) rfl) (And.intro (bq4.cell (j := 3) rfl) (And.intro (br4.cell (j := 0) rfl) (And.intro (br4.cell (j := 1) rfl) (And.intro (br4.cell (j := 2) rfl) (br4.cell (j := 3) rfl))))))))
      | ((with_reducible refine Calls.mono (hm2 w3 (hB0.trans (Below.mono hb3 hB0.size))) ?_); rintro e w4 ⟨rfl, hb4⟩; have bq4 := bq3.keep hb4; have br4 := br3.keep hb4; have hb4 : Below w0.heap.size w0 w4 := Below.trans hb3 (hb4.mono (Below.size hb3)); have u4F := And.intro (bq4.cell (j := 0) rfl) (And.intro (bq4.cell (j := 1) rfl) (And.intro (bq4.cell (j := 2) rfl) (And.intro (bq4.cell (j := 3) rfl) (And.intro (br4.cell (j := 0) rfl) (And.intro (br4.cell (j := 1) rfl) (And.intro (br4.cell (j := 2) rfl) (br4.cell (j := 3) rfl)))))))))))
  all_goals go_wp2_with fail
  all_goals go_ret
  all_goals first | exact ⟨by simp, hB0.trans (hb4.mono hB0.size)⟩ | exact ⟨by simp, hB0.trans (hb3.mono hB0.size)⟩

theorem own : ownKnob Try.prog.godebug = none := by kernel_rfl
theorem laidOut : laidOutB Try.prog = true := by kernel_rfl
set_option maxRecDepth 100000 in
theorem lifted (os : Os) (started : os.Started) (H : Type) (enc : TypeId × Value → H) (F : Stop.Interp) :
    ReturnsInHanded {} Try.checked os 9 .any ((Rows.OpenSpec.upto Rows.policyStoresSpec).pre6 enc Try.prog Try.f9 Rows.policyStoresUptoRow.domain false) (((Rows.OpenSpec.upto Rows.policyStoresSpec).at F).post enc Try.prog Try.f9 false true false false) := by
  refine cond_shaped (C := Try.checked) (s := Rows.OpenSpec.upto Rows.policyStoresSpec) (k := Rows.uptoSmall) rfl own started (by kernel_rfl) Try.func9
    (OpenSpec.witness (enc := enc) (C := Try.checked) (s := Rows.OpenSpec.upto Rows.policyStoresSpec) (k := Rows.uptoSmall) rfl false ⟨#[], #[.agg #[.string ByteArray.empty, .string ByteArray.empty, .slice none 0 0, .string ByteArray.empty], .agg #[.int .i64 0, .string ByteArray.empty, .slice none 0 0, .string ByteArray.empty]], []⟩ 8 (by kernel_rfl) (by kernel_rfl) (by kernel_rfl)
      (x := ([.agg [.lit (.string []), .lit (.string []), .nil, .lit (.string [])], .agg [.lit (.int .i64 0), .lit (.string []), .nil, .lit (.string [])]], [], [])) (by kernel_rfl) rfl (by kernel_rfl)) ?_
  intro W base args ds gs before hval0 hW hcnd hk0 hsh _
  have hval : ∀ (j : Nat) t v, Try.f9.params[j]? = some t → args[j]? = some v → Value.okWide Try.prog W .any base t v := hval0
  have hW' := hW
  obtain ⟨p, q, hA0, hV, rfl, hfz, hnd⟩ := hW
  have hA : DataW.TrodAll enc Try.prog W 0 (fun _ => true) true Try.f9.params.toList args.toList ds p := hA0
  rw [Try.params9] at hA hval
  obtain ⟨v0, vs0, d0, ds0, p0, q0, hargs, rfl, rfl, h0, r0⟩ := trodAll_cons hA
  obtain ⟨v1, vs1, d1, ds1, p1, q1, rfl, rfl, rfl, h1, r1⟩ := trodAll_cons r0
  obtain ⟨rfl, rfl, rfl⟩ := trodAll_nil r1
  obtain rfl : args = #[v0, v1] := by cases args; simp_all
  obtain ⟨rfl, rfl⟩ := trodVars_none hV
  simp only [List.append_nil] at hk0
  have hbulk := of_decide_eq_true hk0
  simp only [Rows.uptoBulkAll] at hbulk
  have k0 := h0
  have lt0 : ∀ x ∈ p0, x.block < W.heap.size := by obtain ⟨m, hm⟩ := k0; exact DataW.trod_lt m _ _ _ hm
  obtain ⟨m0, t0, A0, l0, c0, b0, rfl, rd0, bm0, bt0, bf0, bb0⟩ := open_req (hval 0 43 v0 rfl rfl) h0
  have bm0' : m0.length ≤ 1048576 := by omega
  have bt0' : t0.length ≤ 1048576 := by omega
  have bf0' : (l0.map (fun f => f.1.length + f.2.length + 3)).sum ≤ 1048576 := by omega
  have bb0' : b0.length ≤ 1048576 := by omega
  have k1 := h1
  have lt1 : ∀ x ∈ p1, x.block < W.heap.size := by obtain ⟨m, hm⟩ := k1; exact DataW.trod_lt m _ _ _ hm
  obtain ⟨m1, t1, A1, l1, c1, b1, rfl, rd1, bm1, bt1, bf1, bb1⟩ := open_resp (hval 1 45 v1 rfl rfl) h1
  have bt1' : t1.length ≤ 1048576 := by omega
  have bf1' : (l1.map (fun f => f.1.length + f.2.length + 3)).sum ≤ 1048576 := by omega
  have bb1' : b1.length ≤ 1048576 := by omega
  clear hA0 hval0
  refine (walkL m0 bm0' t0 bt0' A0 l0 c0 bf0' b0 bb0' m1 bm1 t1 bt1' A1 l1 c1 bf1' b1 bb1' W rd0 rd1).mono fun e W' ⟨he, bel⟩ => ?_
  subst he
  exact ⟨_, rfl, _, _, _, [], _, [], hW', trodAll_mk1 (shut_bool Try.underlying4 _), (trodAll_cons_mk (Below.trod laidOut (by kernel_rfl) (of_decide_eq_true (by kernel_rfl)) k0 bel lt0) (trodAll_cons_mk (Below.trod laidOut (by kernel_rfl) (of_decide_eq_true (by kernel_rfl)) k1 bel lt1) trodAll_mk0)), rfl, bel.frame _, fun h => by cases h⟩

/-- The statement. -/
theorem proved : Rows.PolicyStoresUptoSaid :=
  OpenClaim.holds_of_cond 9 Try.f9 rfl rfl rfl rfl rfl rfl rfl ⟨rfl, rfl, rfl, rfl, rfl⟩ rfl rfl rfl rfl rfl (by kernel_rfl) Try.func9 (by kernel_rfl)
    (of_decide_eq_true (by kernel_rfl)) (by unfold Func.isWrapper; first | (rw [if_pos (by decide +kernel)]; kernel_rfl) | (rw [if_neg (by decide +kernel)]; exact ⟨rfl, rfl⟩))
    (fun os started H enc _ F => lifted os started H enc F)
#print axioms proved
end Go.Proofs.Ytmhhjmncbclihaa.policyStores
