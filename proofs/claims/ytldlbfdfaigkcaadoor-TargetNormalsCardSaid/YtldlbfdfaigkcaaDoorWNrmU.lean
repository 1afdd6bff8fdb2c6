/- Walk: the reference's unescaped, with what was escaped. -/
import Derived.Test.YtldlbfdfaigkcaaDoorWTgt3
import Derived.Test.YtldlbfdfaigkcaaDoorSpecNrm
namespace Go.Proofs.YtldlbfdfaigkcaaDoor
open Go.RowKit Go.Larder
set_option linter.unusedVariables false
set_option linter.unusedSimpArgs false
def UnPostN (w : World) (r : Option (List EB)) (e : Ending) (w' : World) : Prop :=
  (match r with
    | none => e = .returned (.tuple #[S [], .slice none 0 0, .bool false])
    | some ps => ∃ A c, e = .returned (.tuple #[S (ps.map Prod.fst), .slice A ps.length c, .bool true]) ∧ OwnL encO w' w.heap.size 4 A c (ps.map Prod.snd)) ∧ Below w.heap.size w w'

set_option maxHeartbeats 4000000 in
set_option maxRecDepth 100000 in
theorem w_unescapedN (l : List UInt8) (hl : l.length ≤ 200) (w : World) :
    Calls Tryd.prog 72 #[S l] w (UnPostN w (unP l [])) := by
  obtain ⟨R, hR⟩ : ∃ R, R = unP l [] := ⟨_, rfl⟩
  rw [← hR]
  have HR := Lib.hid hR
  clear hR
  go_enter Tryd.func72, Tryd.ntmps72
  go_wp2_with fail
  go_loopw [0, 5, 6] (fun s o ws wr => ∃ (rest acc : List UInt8) (bs : List Bool) (ps : List EB) (A : Option Addr) (c : Nat), s = S rest ∧ o = S acc ∧ ws = .slice A bs.length c ∧ rest.length + acc.length ≤ 200 ∧ bs.length = acc.length ∧ OwnL encO wr w.heap.size 4 A c bs ∧ Below w.heap.size w wr ∧ Hid (acc = ps.map Prod.fst ∧ bs = ps.map Prod.snd) ∧ unP rest ps = unP l []) (fun s _ _ _ => lenOf s)
  case atStart => exact ⟨l, [], [], [], none, 0, rfl, rfl, rfl, by simpa using hl, rfl, OwnL.nil _ _ _, Below.refl _ _, Lib.hid ⟨rfl, rfl⟩, rfl⟩
  case round =>
    obtain ⟨rest, acc, bs, ps, A, c, rfl, rfl, rfl, hlen, hbl, hown, hbel, hps, heq⟩ := hrel
    have hbs := hbel.size
    have hbl1 : bs.length ≤ 200 := by omega
    have Hbl := Lib.hid hbl
    clear hbl
    rcases rest with _ | ⟨x, r⟩
    · rw [unP_nil] at heq
      have HR2 := Lib.hid (show R = some ps from by rw [HR.out]; exact heq.symm)
      clear heq
      go_wp2_with fail
      go_ret3
      rw [HR2.out]
      exact ⟨⟨A, c, by rw [hps.out.1, hps.out.2, List.length_map]; rfl, by rw [← hps.out.2]; exact hown⟩, hbel⟩
    · by_cases h37 : x = 37
      · subst h37
        by_cases hsh : r.length < 2
        · rw [unP_short hsh] at heq
          have HR2 := Lib.hid (show R = none from by rw [HR.out]; exact heq.symm)
          clear heq
          have a1 : ((r.length : Int) + 1) < 3 := by omega
          have a2 : r.length + 1 < 3 := by omega
          go_wp2_with fail
          go_ret3
          rw [HR2.out]
          exact ⟨rfl, hbel⟩
        · rcases r with _ | ⟨a, _ | ⟨b, r⟩⟩
          · simp at hsh
          · simp at hsh
          · simp only [List.length_cons] at hlen
            have hall := all2 (a := a) (b := b) (t := hexTab)
            rw [hexv_tab, hexv_tab] at hall
            have a1 : ¬ ((r.length : Int) + 1 + 1 + 1) < 3 := by omega
            have a2 : ¬ r.length + 1 + 1 + 1 < 3 := by omega
            have a3 : 3 ≤ r.length + 1 + 1 + 1 := by omega
            have n2 : acc.length + 1 ≤ 9223372036854775807 := by omega
            have n3 : acc.length < 9223372036854775807 := by omega
            have hrun : ∀ (b : UInt8) (w : World), (Op.stringOp .add ⟨acc.toArray⟩ ⟨#[b]⟩).run Tryd.prog w = .ok (.string ⟨(acc ++ [b]).toArray⟩) w := fun b w => cat1 acc b (by omega) w
            by_cases hh : 0 ≤ hexv a ∧ 0 ≤ hexv b
            · have hall2 : [a, b].all (inTab hexTab) = true := by rw [hall]; simp [hh.1, hh.2]
              obtain ⟨n, hn, hnv, hby⟩ := byteOf_eq hh.1 hh.2
              rw [unP_esc hh.1 hh.2, hby] at heq
              have i1 := hexv_low a hh.1
              have i2 := hexv_low b hh.2
              have l1 := hexv_lt a
              have l2 := hexv_lt b
              have hh1 := hh.1
              have hh2 := hh.2
              have v1 : IntKind.i64.wrap (16 * hexv a) = 16 * hexv a := IntWalk.i64_in _ ⟨by omega, by omega⟩
              have v2 : IntKind.i64.wrap (16 * hexv a + hexv b) = (n : Int) := by rw [hnv]; exact IntWalk.i64_in _ ⟨by omega, by omega⟩
              have hlow : lowL [a, b] = [lowB a, lowB b] := rfl
              have hallw := w_allOf [a, b] hexTab (by simp)
              rw [hall2] at hallw
              have hloww := w_LowerR [a, b] (by simp)
              rw [hlow] at hloww
              have hchr := fun w => w_chr n hn w
              clear hby hnv
              generalize UInt8.ofNat n = bt at heq hchr
              have Heq := Lib.hid heq
              clear heq hall
              have c1 : (⟨#[bt]⟩ : ByteArray).size = 1 := rfl
              go_wp2_with (first
                | (go_at_call 82; refine (hallw _).mono ?_; rintro e w' ⟨rfl, rfl⟩)
                | (go_at_call 53; refine (hloww _).mono ?_; rintro e w' ⟨rfl, rfl⟩))
              go_region_with (go_at_call 101; refine (c1_IndexByte hexL _ _).mono ?_; rintro e w' ⟨rfl, rfl⟩)
              all_goals go_wp2_with fail
              all_goals
                go_region_held3 (fun w' => Below w.heap.size w w') ((first | assumption | (refine chainAW ?_ _; first | assumption | (simp_all; done)) | (refine Below.drew (chainAW ?_ _); first | assumption | (simp_all; done)) | go_grown))
                  (first
                    | (go_at_call 119; refine (hchr _).mono ?_; rintro e w7 ⟨rfl, hb7⟩; have hK7 : Below w.heap.size w w7 := chainW (by first | assumption | exact chainAW (by assumption) _ | go_grown) hb7; (try have hown7 : OwnL encO w7 w.heap.size 4 A c bs := OwnL.below (by first | exact hown | exact hown.alloc _ | exact OwnL.alloc (w := wr.drew) hown _ | exact OwnL.alloc (w := wr.drew.drew) hown _) hb7 (Nat.le_refl _)))
                    | (refine step_app_sl (l := bs) encO sl_bool [true] (by rfl) _ _ (by rfl) (by rfl) (by first | exact hown | exact hown.alloc _ | exact OwnL.alloc (w := wr.drew) hown _ | exact OwnL.alloc (w := wr.drew.drew) hown _ | exact hown7 | exact hown7.alloc _) (by rfl) (by first | exact ReadL.lit (E := encO) _ #[.bool true] _ [true] rfl | exact (show ReadL encO (wr.alloc (.cells #[.bool true] 4)).drew.drew (wr.heap.size + 1) _ [true] from ReadL.lit (E := encO) wr #[.bool true] _ [true] rfl).below hb7 (by show wr.heap.size + 1 ≤ (wr.heap.push _).size; simp)) (by simp; omega) (by simp [maxLen]; omega) (by first | (simp; omega) | (have := hK7.size; simp; omega) | (have := hK7.size; omega)) ?_; intro A4 c4 w4 ho4 hb4; have hK4 : Below w.heap.size w w4 := Below.trans (by first | assumption | exact chainAW (by assumption) _ | go_grown) hb4))
              all_goals go_wp2
              all_goals exact ⟨⟨r, acc ++ [bt], bs ++ [true], ps ++ [(bt, true)], A4, c4, by first | rfl | (simp; done), by first | rfl | (simp; done), by simp, by simp; omega, by simp [Hbl.out], by first | exact ho4 | exact ho4.below hb7 (Nat.le_refl _), by first | exact hK4 | exact hK7 | go_grown, Lib.hid ⟨by rw [hps.out.1]; simp, by rw [hps.out.2]; simp⟩, Heq.out⟩, by simp [lenOf, ba_size]; omega⟩
            · have hall2 : [a, b].all (inTab hexTab) = false := by
                rw [hall]
                rw [Bool.eq_false_iff]
                intro h
                simp at h
                exact hh h
              rw [unP_bad hh] at heq
              have HR2 := Lib.hid (show R = none from by rw [HR.out]; exact heq.symm)
              have hallw := w_allOf [a, b] hexTab (by simp)
              rw [hall2] at hallw
              clear heq hall
              go_wp2_with (go_at_call 82; refine (hallw _).mono ?_; rintro e w' ⟨rfl, rfl⟩)
              go_ret3
              rw [HR2.out]
              exact ⟨rfl, hbel⟩
      · rw [unP_plain h37] at heq
        have h37b : ¬ (x.toNat : Int) = 37 := by
          intro h
          exact h37 (UInt8.toNat_inj.1 (by show x.toNat = 37; omega))
        have h37c : ((x.toNat : Int) == 37) = false := by simpa using h37b
        have Heq := Lib.hid heq
        clear heq
        simp only [List.length_cons] at hlen
        have n2 : acc.length + 1 ≤ 9223372036854775807 := by omega
        have n3 : acc.length < 9223372036854775807 := by omega
        have hrun : ∀ (b : UInt8) (w : World), (Op.stringOp .add ⟨acc.toArray⟩ ⟨#[b]⟩).run Tryd.prog w = .ok (.string ⟨(acc ++ [b]).toArray⟩) w := fun b w => cat1 acc b (by omega) w
        have p1 : (1 : Int) ≤ (r.length : Int) + 1 := by omega
        have p2 : (0 : Int) ≤ (r.length : Int) := by omega
        have p3 : 1 ≤ r.length + 1 := by omega
        go_wp2_with fail
        go_region_held3 (fun _ => True) (trivial)
          ((refine step_app_sl (l := bs) encO sl_bool [false] (by rfl) _ _ (by rfl) (by rfl) (by first | exact hown | exact hown.alloc _) (by rfl) (by first | exact ReadL.lit _ _ _ _ rfl) (by simp; omega) (by simp [maxLen]; omega) (by first | (simp; omega) | (show w.heap.size ≤ (wr.heap.push _).size; simp; omega)) ?_; intro A4 c4 w4 ho4 hb4))
        all_goals go_wp2
        all_goals exact ⟨⟨r, acc ++ [x], bs ++ [false], ps ++ [(x, false)], A4, c4, rfl, rfl, by simp, by simp; omega, by simp [Hbl.out], ho4, Below.trans (by go_grown) hb4, Lib.hid ⟨by rw [hps.out.1]; simp, by rw [hps.out.2]; simp⟩, Heq.out⟩, by simp [lenOf, ba_size]⟩

end Go.Proofs.YtldlbfdfaigkcaaDoor
