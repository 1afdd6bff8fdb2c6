/- Walks: the reference's meets, Eval. -/
import Derived.Test.YtcoghpokkhjhgaaGreatDoorWCondE
import Derived.Test.YtcoghpokkhjhgaaGreatDoorWTlR
namespace Go.Proofs.YtcoghpokkhjhgaaGreatDoor
open Go.RowKit Go.Larder
set_option linter.unusedVariables false
set_option linter.unusedSimpArgs false
def metOf (weak : Bool) (o x : Tg) : Bool := (x.2 == o.2) && (weak || (!x.1 && !o.1))
theorem metOf_strong (o : Tg) : metOf false o = metStrong o := by
  funext x
  unfold metOf metStrong
  cases (x.2 == o.2) <;> cases x.1 <;> cases o.1 <;> rfl
theorem metOf_weak (o : Tg) : metOf true o = metWeak o := by
  funext x
  unfold metOf metWeak
  simp
set_option maxHeartbeats 8000000 in
set_option maxRecDepth 100000 in
theorem w_meetsR (weak : Bool) (nm : List UInt8) (hnm : nm.length ≤ 1000) (l : List Fld) (hj : (l.map (fun f => f.1.length + f.2.length + 3)).sum ≤ 1048576) (A : Option Addr) (c : Nat) (there : Bool) (tag : List UInt8) (htag : tag.length ≤ 140737488351232) (w : World) (hr : ReadL encF w w.heap.size A l) (tagged : Bool) (o : Tg) (ho : parseTR tag = if tagged then some o else none) (ho2 : tagged = false → o = (false, [])) :
    Calls Tryz.prog 14 #[.slice A l.length c, S nm, .bool there, S tag, .bool weak] w fun e w' => e = .returned (.tuple #[.bool (meetsE nm l there tagged (metOf weak o)).1, .bool (meetsE nm l there tagged (metOf weak o)).2]) ∧ Below w.heap.size w w' := by
  have hpt := fun W => w_tparseR tag htag W
  have hpt2 : ∀ W, Calls Tryz.prog 37 #[S tag] W fun e w' => (∃ en : Int, e = .returned (.tuple #[.agg #[.bool o.1, S o.2], .int .i64 en]) ∧ (en == 0) = tagged) ∧ Below W.heap.size W w' := by
    intro W
    refine (hpt W).mono ?_
    intro e w' hp
    unfold TPost at hp
    rw [ho] at hp
    cases tagged
    · rw [ho2 rfl]
      exact ⟨⟨3, hp.1, rfl⟩, hp.2⟩
    · exact ⟨⟨0, hp.1, rfl⟩, hp.2⟩
  clear hpt ho ho2
  have hg := w_GetRS nm hnm l hj A c w hr
  have hjl := join_ok (nm := lowL nm) hj
  unfold meetsE
  generalize Lib.join (valsL (lowL nm) l) sepL = s at *
  generalize (valsL (lowL nm) l).isEmpty = em at *
  have hls := fun W => w_TagListR s (by omega) W
  have hll := tlE_len s (by omega)
  generalize tlE s = x at *
  obtain ⟨lst, star, en⟩ := x
  obtain ⟨o1, o2⟩ := o
  simp only at hls hll hpt2 ⊢
  obtain ⟨B, hBe⟩ : ∃ B, lst.any (metOf weak (o1, o2)) = B := ⟨_, rfl⟩
  rw [hBe]
  have HB := Lib.hid hBe
  clear hBe
  go_enter Tryz.func14, Tryz.ntmps14
  go_wp2_with fail
  refine hg.mono ?_
  rintro e w1 ⟨rfl, hb1⟩
  clear hg hj hr
  go_wp2_with fail
  refine (hls _).mono ?_
  rintro e w2 ⟨A2, c2, rfl, hr2, hb2⟩
  have hB2 := hb1.trans (hb2.mono hb1.size)
  simp only at hr2
  clear hb1 hb2 hls
  cases em
  · by_cases hen : en = 0
    · subst hen
      cases star
      · go_wp2_with fail
        refine (hpt2 _).mono ?_
        rintro e w3 ⟨⟨en2, rfl, hen2⟩, hb3⟩
        have hr3 := (hr2.below hb3 (Nat.le_refl _)).more hb3.size
        have hB3 := hB2.trans (hb3.mono hB2.size)
        have bx3 := BoxAt.new w3 [.bool o1, S o2] 34
        have hbb : Below w3.heap.size w3 (w3.alloc (.cells #[.bool o1, S o2] 34)) := (Below.refl _ _).alloc (Nat.le_refl _) _
        have hr4 := (hr3.below hbb (Nat.le_refl _)).more hbb.size
        have hB4 := hB3.trans (hbb.mono hB3.size)
        have hlt : w3.heap.size < (w3.alloc (.cells #[.bool o1, S o2] 34)).heap.size := by simp
        change BoxAt (w3.alloc (.cells #[.bool o1, S o2] 34)) _ _ _ at bx3
        have Hen := Lib.hid hen2
        clear hpt2 hr2 hb3 hr3 hB3 hbb hB2 hen2
        go_wp2_with fail
        generalize hg4 : w3.heap.size = g4 at *
        generalize hW4 : w3.alloc (.cells #[.bool o1, S o2] 34) = w4 at *
        clear hg4 hW4
        go_loopw [18, 48] (fun m' i' wr => ∃ (k : Nat) (mb : Bool), i' = .int .i64 k ∧ k ≤ lst.length ∧ m' = .bool mb ∧ Hid ((there && (tagged && (lst.take k).any (metOf weak (o1, o2)))) = mb) ∧ Below w4.heap.size w4 wr) (fun _ i' _ => lst.length - (intOf i').toNat)
        case atStart => exact ⟨0, false, rfl, by omega, rfl, Lib.hid (by simp), Below.refl _ _⟩
        case round =>
          obtain ⟨k, mb, rfl, hk, rfl, hmb, hbel⟩ := hrel
          have hbs := hbel.size
          by_cases hlt2 : k < lst.length
          · obtain ⟨⟨x1, x2⟩, hx, -⟩ := drop_step hlt2
            obtain ⟨g, off, hA, hgb, hc0, hc1⟩ := (hr4.below hbel (Nat.le_refl _)).at_T hx
            subst hA
            have hstep : (lst.take (k + 1)).any (metOf weak (o1, o2)) = ((lst.take k).any (metOf weak (o1, o2)) || metOf weak (o1, o2) (x1, x2)) := by
              rw [List.take_add_one, hx, List.any_append]; simp
            have Hstep := Lib.hid hstep
            clear hstep hx
            simp only at hc0 hc1
            have bxr := bx3.kept hbel hlt
            have bxa := bxr.alloc (.cells #[.bool x1, S x2] 34)
            have q0 := bxa.cell (j := 0) rfl
            have q1 := bxa.cell (j := 1) rfl
            have hbA : Below w4.heap.size w4 (wr.alloc (.cells #[.bool x1, S x2] 34)) := hbel.alloc hbs _
            generalize (lst.take k).any (metOf weak (o1, o2)) = pb at *
            have hmo : metOf weak (o1, o2) (x1, x2) = ((x2 == o2) && (weak || (!x1 && !o1))) := rfl
            have Hmo := Lib.hid hmo
            clear hmo bxr bxa
            cases mb
            · cases tagged
              · have hen3 := Hen.out
                go_wp2_with fail
                go_roundw
                case rel => exact ⟨k + 1, _, by go_num, by omega, rfl, Lib.hid (by simp), hbA⟩
                case measure => simp [intOf]; omega
              · cases there
                · have hen3 := Hen.out
                  go_wp2_with fail
                  go_roundw
                  case rel => exact ⟨k + 1, _, by go_num, by omega, rfl, Lib.hid (by simp), hbA⟩
                  case measure => simp [intOf]; omega
                · cases hx2 : (x2 == o2)
                  · have hen3 := Hen.out
                    go_wp2_with fail
                    go_roundw
                    case rel => exact ⟨k + 1, _, by go_num, by omega, rfl, Lib.hid (by have hc := hmb.out; rw [Hstep.out, Hmo.out]; simp at hc; simp [hc, hx2]), hbA⟩
                    case measure => simp [intOf]; omega
                  · cases weak <;> cases x1 <;> cases o1
                    all_goals
                      have hen3 := Hen.out
                      go_wp2_with fail
                      go_roundw
                      case rel => exact ⟨k + 1, _, by go_num, by omega, rfl, Lib.hid (by have hc := hmb.out; rw [Hstep.out, Hmo.out]; simp at hc; simp [hc, hx2]), hbA⟩
                      case measure => simp [intOf]; omega
            · go_wp2_with fail
              go_roundw
              case rel => exact ⟨k + 1, _, by go_num, by omega, rfl, Lib.hid (by have hc := hmb.out; rw [Hstep.out]; simp only [Bool.and_eq_true] at hc; simp [hc.1, hc.2.1, hc.2.2]), hbA⟩
              case measure => simp [intOf]; omega
          · obtain rfl : k = lst.length := by omega
            have hfin := hmb.out
            rw [List.take_length, HB.out] at hfin
            have Hfin := Lib.hid hfin
            clear hfin hmb
            go_wp2_with fail
            go_ret2
            exact ⟨by simp [Hfin.out], hB4.trans (hbel.mono hB4.size)⟩
      · go_wp2_with fail
        go_ret2
        exact ⟨by simp, hB2⟩
    · have hen2 : (en == 0) = false := by simpa using hen
      go_wp2_with fail
      go_ret2
      exact ⟨by simp [hen], hB2⟩
  · go_wp2_with fail
    go_ret2
    exact ⟨rfl, hB2⟩
end Go.Proofs.YtcoghpokkhjhgaaGreatDoor
