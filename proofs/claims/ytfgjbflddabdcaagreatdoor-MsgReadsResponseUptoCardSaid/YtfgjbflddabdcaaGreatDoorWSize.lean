/- Walk: body.size. -/
import Derived.Test.YtfgjbflddabdcaaGreatDoorWSplit
import Derived.Test.YtfgjbflddabdcaaGreatDoorWAtoi
import Derived.Test.YtfgjbflddabdcaaGreatDoorWItoa
import Derived.Test.YtfgjbflddabdcaaGreatDoorSpecs
import Derived.Deep.RegionHeld3
import Derived.Deep.QuietTactic
import Derived.BigQuiet
namespace Go.Proofs.YtfgjbflddabdcaaGreatDoor
open Go.RowKit Go.Larder
set_option linter.unusedVariables false
set_option linter.unusedSimpArgs false
theorem sizeB_err {v : List UInt8} {n : Int} (h : splitE v = .error n) : sizeB v = (0, 10) := by unfold sizeB; rw [h]
theorem sizeB_ok {v : List UInt8} {l : List (List UInt8)} (h : splitE v = .ok l) : sizeB v = sizeL l := by unfold sizeB; rw [h]
theorem sizeL_ne {t : List UInt8} {r : List (List UInt8)} (h : r.all (· == t) = false) : sizeL (t :: r) = (0, 10) := by simp [sizeL, h]
theorem sizeL_eq {t : List UInt8} {r : List (List UInt8)} (h : r.all (· == t) = true) : sizeL (t :: r) = if 0 ≤ cnt t 9999 then (if 5000 < cnt t 9999 then (0, 2) else (cnt t 9999, 0)) else (0, 10) := by
  simp [sizeL, h]
theorem atoi_yes {t : List UInt8} (h : 0 ≤ cnt t 9999) : Lib.atoiAll t = .ok (cnt t 9999) := by
  obtain ⟨h1, h2⟩ := cnt_yes h
  have := atoiAll_dec (n := (cnt t 9999).toNat) (by omega)
  rw [h1] at this
  rw [this, Int.toNat_of_nonneg h]
theorem atoi_no {t : List UInt8} {v : Int} (h : ¬ 0 ≤ cnt t 9999) (h0 : 0 ≤ v) (h4 : t.length ≤ 4) (hd : Lib.decDigits v.toNat = t) : False := by
  have h1 : v.toNat ≤ 9999 := dec_len4 (by rw [hd]; exact h4)
  have := cnt_dec (n := v.toNat) (m := 9999) (by omega) (by omega)
  rw [hd] at this
  omega
set_option maxHeartbeats 4000000 in
set_option maxRecDepth 100000 in
theorem w_size (v : List UInt8) (hv : v.length ≤ 140737488351232) (w : World) (hE : EV w) (hP : PW w) :
    Calls Tryz.prog 63 #[S v] w fun e w' => e = .returned (.tuple #[.int .i64 (sizeB v).1, .int .i64 (sizeB v).2]) ∧ Below w.heap.size w w' := by
  have hsp := wt_Split v hv w
  obtain ⟨R, hR⟩ : ∃ R, sizeB v = R := ⟨_, rfl⟩
  rw [hR]
  cases hs : splitE v with
  | error n =>
    rw [sizeB_err hs] at hR
    subst hR
    go_enter Tryz.func63, Tryz.ntmps63
    go_wp2_with fail
    refine hsp.mono ?_
    intro e w1 hpost
    obtain ⟨rfl, hb1⟩ := hpost.err hs
    have hn : n = 2 ∨ n = 3 := by
      unfold splitE at hs
      split at hs
      · injection hs with hs; exact .inl hs.symm
      · revert hs
        cases hc : cutE 44 v with
        | error k => intro hs; simp only at hs; injection hs with hs; subst hs; exact .inr (cutE_err 44 v _ hc)
        | ok l => intro hs; simp only at hs; split at hs <;> (first | (injection hs with hs; exact .inl hs.symm) | cases hs)
    clear hpost hsp hs
    rcases hn with rfl | rfl
    all_goals
      go_wp2_with fail
      go_ret2
      exact ⟨rfl, hb1⟩
  | ok l =>
    have hl20 := splitE_ok hs
    have htx := splitE_text hs
    rw [sizeB_ok hs] at hR
    go_enter Tryz.func63, Tryz.ntmps63
    go_wp2_with fail
    refine hsp.mono ?_
    intro e w1 hpost
    obtain ⟨A, c, rfl, ho1, hb1⟩ := hpost.ok_ hs
    have hr1 := ho1.read
    clear hpost hsp hs ho1
    rcases l with _ | ⟨t, r⟩
    · subst hR
      go_wp2_with fail
      go_ret2
      exact ⟨rfl, hb1⟩
    · have htl := htx t (by simp)
      obtain ⟨g, off, rfl, hgb, hc0⟩ := hr1.at_S (k := 0) (x := t) rfl
      rw [Nat.add_zero] at hc0
      obtain ⟨L, hL⟩ : ∃ L, t :: r = L := ⟨_, rfl⟩
      have hLl : L.length = r.length + 1 := by rw [← hL]; rfl
      have hL1 : L.length ≤ r.length + 1 := Nat.le_of_eq hLl
      have hL2 : r.length + 1 ≤ L.length := Nat.le_of_eq hLl.symm
      rw [hL] at hr1 hl20
      have HL := Lib.hid hL
      have HR := Lib.hid hR
      clear hR htx hL hLl
      go_wp2_with fail
      rw [show (r.length + 1) = L.length from by omega]
      have hneg : ((L.length : Int) == 0) = false := by
        have : ¬ (L.length : Int) = 0 := by omega
        simpa using this
      go_loopw [24] (fun i' wr => ∃ k : Nat, i' = .int .i64 k ∧ k ≤ L.length ∧ Hid ((L.take k).all (· == t) = true) ∧ wr = w1) (fun i' _ => L.length - (intOf i').toNat)
      case atStart => exact ⟨0, rfl, by omega, Lib.hid rfl, by trivial⟩
      case round =>
        obtain ⟨k, rfl, hk, hall, rfl⟩ := hrel
        by_cases hlt : k < L.length
        · obtain ⟨x, hx, hxs⟩ := drop_step hlt
          have hck : wr.cell? ⟨g, off + k, none⟩ = some (S x) := by
            obtain ⟨g', off', hA', _, hc'⟩ := hr1.at_S hx
            injection hA' with hA'
            injection hA' with e1 e2
            subst e1 e2
            exact hc'
          have hsn : (L.take (k + 1)).all (· == t) = ((L.take k).all (· == t) && (x == t)) := by rw [List.take_add_one, hx]; simp
          rw [hall.out] at hsn
          cases hxt : (x == t)
          · have hrall : r.all (· == t) = false := by
              have h1 : L.all (· == t) = false := by
                rw [Bool.eq_false_iff]
                intro h
                have := List.all_eq_true.1 h x (List.mem_of_getElem? hx)
                rw [hxt] at this; cases this
              rw [← HL.out, List.all_cons] at h1
              simpa using h1
            have HR2 := Lib.hid (show R = (0, 10) from by rw [← HR.out]; exact sizeL_ne hrall)
            have hxe : ¬ x = t := by simpa using hxt
            clear hsn hxs hx hall
            go_wp2_with fail
            go_ret2
            rw [HR2.out]
            exact ⟨rfl, hb1⟩
          · have hxe : x = t := by simpa using hxt
            rw [hxt] at hsn
            have Hn := Lib.hid (show (L.take (k + 1)).all (· == t) = true from hsn)
            subst hxe
            clear hsn hxs hx hall hxt
            go_wp2_with fail
            go_roundw
            case rel => exact ⟨k + 1, by go_num, by omega, Hn, by trivial⟩
            case measure => simp [intOf]; omega
        · obtain rfl : k = L.length := by omega
          have hLall := hall.out
          rw [List.take_length, ← HL.out, List.all_cons] at hLall
          have hrall : r.all (· == t) = true := by simpa using hLall
          have hR3 := HR.out
          rw [sizeL_eq hrall] at hR3
          have HR3 := Lib.hid hR3
          have hP1 := hP.keep hb1
          have hE1 : EV wr := hE.keep hb1
          have hat := w_Atoi t (by omega) wr hE1
          clear hall HR HL hLall hR3 hE hP hrall
          go_wp2_with fail
          refine hat.mono ?_
          rintro e w2 ⟨ho, hb2⟩
          have hP2 := hP1.keep hb2
          have hc2 : w2.cell? ⟨g, off, none⟩ = some (S t) := (hb2.cell (p := ⟨g, off, none⟩) hgb).trans hc0
          have hbw2 := hb1.trans (hb2.mono hb1.size)
          have hs2 := hb2.size
          have hp0 : 0 < L.length := by omega
          have hp1 : (0 : Int) < (L.length : Int) := by omega
          have hp2 : (0 : Int) ≤ (L.length : Int) := by omega
          clear hat hP1 hE1
          have hneI : ∀ (t' : TypeId) (p : Value), True := fun _ _ => trivial
          rcases ho with ⟨v0, hat, rfl⟩ | ⟨v0, t', p, ⟨hv0, hv1⟩, hno, rfl⟩
          · have hvb := Lib.atoiAll_bounds hat
            obtain ⟨hv0, hv1⟩ := hvb
            by_cases hcp : 0 ≤ cnt t 9999
            · have hay := atoi_yes hcp
              rw [hay] at hat
              injection hat with hat
              obtain ⟨hd1, hd2⟩ := cnt_yes hcp
              have hR4 := HR3.out
              rw [if_pos hcp, hat] at hR4
              rw [hat] at hd1 hd2 hcp
              have ht4 : t.length ≤ 4 := by rw [← hd1]; exact dec_len4' (by omega)
              have hit := fun w hP => w_Itoa v0 (by omega) w hP
              rw [itoa_nn hcp] at hit
              have hit2 : ∀ w, PW w → Calls Tryz.prog 42 #[.int .i64 v0] w fun e w' => e = .returned (S t) ∧ Below w.heap.size w w' := fun w hP => by
                have := hit w hP
                rw [hd1] at this
                exact this
              have a1 : ¬ v0 < 0 := by omega
              have a2 : ¬ 4 < t.length := by omega
              have a3 : ¬ (4 : Int) < (t.length : Int) := by omega
              have b1 : decide (v0 < 0) = false := decide_eq_false a1
              have b2 : decide (4 < t.length) = false := decide_eq_false a2
              have b3 : decide ((4 : Int) < (t.length : Int)) = false := decide_eq_false a3
              have HR4 := Lib.hid hR4
              clear hat hay hd1 hit HR3 hR4
              by_cases hbig : 5000 < v0
              · have HR5 := Lib.hid (show R = (0, 2) from by rw [← HR4.out, if_pos hbig])
                go_wp2_with fail
                have kd : w2.drew.cell? ⟨g, off, none⟩ = some (S t) := hc2
                go_region_held3 (fun w' => w'.cell? ⟨g, off, none⟩ = some (S t)) ((first | exact kd | exact hc2 | exact hc3 | assumption)) ((go_at_call 42; refine Calls.mono (hit2 w2.drew hP2) ?_; rintro e w3 ⟨rfl, hb3⟩; have hc3 : w3.cell? ⟨g, off, none⟩ = some (S t) := (hb3.cell (p := ⟨g, off, none⟩) (by show g < w2.heap.size; omega)).trans hc2))
                all_goals
                  go_wp2_with fail
                  go_ret2
                  rw [HR5.out]
                  exact ⟨rfl, hbw2.drew.trans (hb3.mono hbw2.size)⟩
              · have HR5 := Lib.hid (show R = (v0, 0) from by rw [← HR4.out, if_neg hbig])
                go_wp2_with fail
                have kd : w2.drew.cell? ⟨g, off, none⟩ = some (S t) := hc2
                go_region_held3 (fun w' => w'.cell? ⟨g, off, none⟩ = some (S t)) ((first | exact kd | exact hc2 | exact hc3 | assumption)) ((go_at_call 42; refine Calls.mono (hit2 w2.drew hP2) ?_; rintro e w3 ⟨rfl, hb3⟩; have hc3 : w3.cell? ⟨g, off, none⟩ = some (S t) := (hb3.cell (p := ⟨g, off, none⟩) (by show g < w2.heap.size; omega)).trans hc2))
                all_goals
                  go_wp2_with fail
                  go_ret2
                  rw [HR5.out]
                  exact ⟨rfl, hbw2.drew.trans (hb3.mono hbw2.size)⟩
            · have HR5 := Lib.hid (show R = (0, 10) from by rw [← HR3.out, if_neg hcp])
              have hno4 := fun h0 h4 hd => atoi_no (v := v0) hcp h0 h4 hd
              clear HR3 hat
              by_cases hneg0 : v0 < 0
              · have b1 : decide (v0 < 0) = true := decide_eq_true hneg0
                go_wp2_with fail
                go_quiet (fail)
                all_goals
                  go_wp2_with fail
                  go_ret2
                  rw [HR5.out]
                  exact ⟨rfl, ⟨hbw2.os, hbw2.tape, hbw2.output, hbw2.size, hbw2.block⟩⟩
              · have b1 : decide (v0 < 0) = false := decide_eq_false hneg0
                by_cases h4 : 4 < t.length
                · have a3 : (4 : Int) < (t.length : Int) := by omega
                  have b2 : decide (4 < t.length) = true := decide_eq_true h4
                  have b3 : decide ((4 : Int) < (t.length : Int)) = true := decide_eq_true a3
                  go_wp2_with fail
                  go_quiet (fail)
                  all_goals
                    go_wp2_with fail
                    go_ret2
                    rw [HR5.out]
                    exact ⟨rfl, ⟨hbw2.os, hbw2.tape, hbw2.output, hbw2.size, hbw2.block⟩⟩
                · have a3 : ¬ (4 : Int) < (t.length : Int) := by omega
                  have b2 : decide (4 < t.length) = false := decide_eq_false h4
                  have b3 : decide ((4 : Int) < (t.length : Int)) = false := decide_eq_false a3
                  have hit := fun w hP => w_Itoa v0 (by omega) w hP
                  rw [itoa_nn (by omega)] at hit
                  have hdn : (Lib.decDigits v0.toNat == t) = false := by
                    rw [Bool.eq_false_iff]
                    intro h
                    exact hno4 (by omega) (by omega) (by simpa using h : Lib.decDigits v0.toNat = t)
                  have hit2 : ∀ w, PW w → Calls Tryz.prog 42 #[.int .i64 v0] w fun e w' => e = .returned (S (Lib.decDigits v0.toNat)) ∧ Below w.heap.size w w' := hit
                  clear hit hno4
                  generalize Lib.decDigits v0.toNat = D at *
                  have hdn2 : ¬ D = t := by simpa using hdn
                  go_wp2_with fail
                  have kd : w2.drew.cell? ⟨g, off, none⟩ = some (S t) := hc2
                  go_region_held3 (fun w' => w'.cell? ⟨g, off, none⟩ = some (S t)) ((first | exact kd | exact hc2 | exact hc3 | assumption)) ((go_at_call 42; refine Calls.mono (hit2 w2.drew hP2) ?_; rintro e w3 ⟨rfl, hb3⟩; have hc3 : w3.cell? ⟨g, off, none⟩ = some (S t) := (hb3.cell (p := ⟨g, off, none⟩) (by show g < w2.heap.size; omega)).trans hc2))
                  all_goals
                    go_wp2_with fail
                    go_ret2
                    rw [HR5.out]
                    exact ⟨rfl, hbw2.drew.trans (hb3.mono hbw2.size)⟩
          · have hcp : ¬ 0 ≤ cnt t 9999 := fun h => hno _ (atoi_yes h)
            have HR5 := Lib.hid (show R = (0, 10) from by rw [← HR3.out, if_neg hcp])
            clear HR3 hno hcp
            go_wp2_with fail
            go_quiet (fail)
            all_goals
              go_wp2_with fail
              go_ret2
              rw [HR5.out]
              exact ⟨rfl, ⟨hbw2.os, hbw2.tape, hbw2.output, hbw2.size, hbw2.block⟩⟩
end Go.Proofs.YtfgjbflddabdcaaGreatDoor
