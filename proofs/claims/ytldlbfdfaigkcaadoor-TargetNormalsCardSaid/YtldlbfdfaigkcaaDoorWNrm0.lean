/- Walks: each byte of a target, for its one form. -/
import Derived.Test.YtldlbfdfaigkcaaDoorWTgt2
import Derived.Test.YtldlbfdfaigkcaaDoorSpecNrm
namespace Go.Proofs.YtldlbfdfaigkcaaDoor
open Go.RowKit Go.Larder
set_option linter.unusedVariables false
set_option linter.unusedSimpArgs false
theorem w_seeN (ch : UInt8) (b : Bool) (bb : Nat) (ps : List EB) (hl : ps.length ≤ 1000) (w : World) (h : BoxB w bb (emAll ps)) :
    Calls Tryd.prog 68 #[.int .u8 ch.toNat, .bool b, .pointer (some ⟨bb, 0, none⟩)] w fun e w' => e = .returned (.tuple #[]) ∧ BoxB w' bb (emAll (ps ++ [(ch, b)])) ∧ Below bb w w' := by
  have hlen := emAll_len ps
  rw [emAll_snoc]
  generalize emAll ps = acc at *
  have hacc : acc.length ≤ 3000 := by omega
  obtain ⟨A, cp, hc, hf, ho, hb⟩ := h
  have hfr := w_isFree ch
  have key : ∀ w3 A2 c2 m, OwnL encB w3 (bb + 1) 5 A2 c2 (acc ++ m) → Below (bb + 1) w w3 → BoxB (w3.setCell ⟨bb, 0, none⟩ (.slice A2 (acc ++ m).length c2)) bb (acc ++ m) ∧ Below bb w (w3.setCell ⟨bb, 0, none⟩ (.slice A2 (acc ++ m).length c2)) := by
    intro w3 A2 c2 m hown3 hb3
    have k0 : w3.cell? ⟨bb, 0, none⟩ = some (.slice A acc.length cp) := (hb3.cell (p := ⟨bb, 0, none⟩) (by show bb < bb + 1; omega)).trans hc
    have f0 : w3.frozen? ⟨bb, 0, none⟩ = false := (frozen_below hb3 (p := ⟨bb, 0, none⟩) (by show bb < bb + 1; omega)).trans hf
    refine ⟨⟨A2, c2, World.cell?_setCell_same _ _ _ k0, by rw [World.frozen?_setCell]; exact f0, own_set_lt hown3 (by show bb < bb + 1; omega) _, ?_⟩, (show Below bb w w3 from hb3.mono (by omega)).setCell (p := ⟨bb, 0, none⟩) (Nat.le_refl _) _⟩
    have := hb3.size; simp; omega
  cases b
  · rw [emP_plain]
    go_enter Tryd.func68, Tryd.ntmps68
    go_wp2_with (at_builtin
                 refine wpList_app encB sl_u8t [ch] rfl _ _ rfl rfl ho #[.int .u8 ch.toNat] rfl 0 rfl rfl (by omega) (by simp only [maxLen]; omega) (by omega) ?_
                 intro g' c'' w3 hown3 hg3 hb3 hbg
                 have k0 : w3.cell? ⟨bb, 0, none⟩ = some (.slice A acc.length cp) := (hb3.cell (p := ⟨bb, 0, none⟩) (by show bb < bb + 1; omega)).trans hc
                 have f0 : w3.frozen? ⟨bb, 0, none⟩ = false := (frozen_below hb3 (p := ⟨bb, 0, none⟩) (by show bb < bb + 1; omega)).trans hf)
    go_end0
    have := key w3 _ _ _ hown3 hb3
    rw [List.length_append] at this
    exact ⟨rfl, this⟩
  · cases hfc : isFreeB ch
    · rw [emP_esc hfc]
      rw [hfc] at hfr
      clear hfc
      have hek := w_escape ch (bb + 1) A cp acc (by omega)
      have h3 : (escL ch).length = 3 := rfl
      generalize escL ch = el at *
      have H3 := Lib.hid h3
      clear h3
      go_enter Tryd.func68, Tryd.ntmps68
      go_wp2_with (first
        | (go_at_call 69; refine (hfr _).mono ?_; rintro e w' ⟨rfl, rfl⟩)
        | (go_at_call 70; refine (hek _ ho (by omega)).mono ?_; rintro e w3 ⟨⟨A2, c2, rfl, hown3⟩, hb3⟩
           have k0 : w3.cell? ⟨bb, 0, none⟩ = some (.slice A acc.length cp) := (hb3.cell (p := ⟨bb, 0, none⟩) (by show bb < bb + 1; omega)).trans hc
           have f0 : w3.frozen? ⟨bb, 0, none⟩ = false := (frozen_below hb3 (p := ⟨bb, 0, none⟩) (by show bb < bb + 1; omega)).trans hf))
      go_end0
      have := key w3 _ _ _ hown3 hb3
      rw [List.length_append, H3.out] at this
      exact ⟨rfl, this⟩
    · rw [emP_free hfc]
      rw [hfc] at hfr
      clear hfc
      go_enter Tryd.func68, Tryd.ntmps68
      go_wp2_with (first
        | (go_at_call 69; refine (hfr _).mono ?_; rintro e w' ⟨rfl, rfl⟩)
        | (at_builtin
           refine wpList_app encB sl_u8t [ch] rfl _ _ rfl rfl ho #[.int .u8 ch.toNat] rfl 0 rfl rfl (by omega) (by simp only [maxLen]; omega) (by omega) ?_
           intro g' c'' w3 hown3 hg3 hb3 hbg
           have k0 : w3.cell? ⟨bb, 0, none⟩ = some (.slice A acc.length cp) := (hb3.cell (p := ⟨bb, 0, none⟩) (by show bb < bb + 1; omega)).trans hc
           have f0 : w3.frozen? ⟨bb, 0, none⟩ = false := (frozen_below hb3 (p := ⟨bb, 0, none⟩) (by show bb < bb + 1; omega)).trans hf))
      go_end0
      have := key w3 _ _ _ hown3 hb3
      rw [List.length_append] at this
      exact ⟨rfl, this⟩
def EachPostN (bb : Nat) (w : World) (r : Option (List EB)) (e : Ending) (w' : World) : Prop :=
  (match r with
    | none => e = .returned (.bool false)
    | some out => e = .returned (.bool true) ∧ BoxB w' bb (emAll out)) ∧ Below bb w w'

set_option maxHeartbeats 4000000 in
theorem w_eachN (l : List UInt8) (hl : l.length ≤ 200) (bb : Nat) (w : World) (hbox : BoxB w bb []) :
    Calls Tryd.prog 67 #[S l, .func (.func 68) #[] #[.pointer (some ⟨bb, 0, none⟩)]] w (EachPostN bb w (unP l [])) := by
  obtain ⟨R, hR⟩ : ∃ R, R = unP l [] := ⟨_, rfl⟩
  rw [← hR]
  have HR := Lib.hid hR
  clear hR
  go_enter Tryd.func67, Tryd.ntmps67
  go_wp2_with fail
  go_loopw [5] (fun i' wr => ∃ (k : Nat) (acc : List EB), i' = .int .i64 k ∧ k ≤ l.length ∧ acc.length ≤ k ∧ BoxB wr bb (emAll acc) ∧ Below bb w wr ∧ unP (l.drop k) acc = unP l []) (fun i' _ => l.length - (intOf i').toNat)
  case atStart => exact ⟨0, [], rfl, by omega, by simp, hbox, Below.refl _ _, rfl⟩
  case round =>
    obtain ⟨k, acc, rfl, hk, hak, hbx, hbel, heq⟩ := hrel
    by_cases hlt : k < l.length
    · obtain ⟨x, hx, hs⟩ := drop_step hlt
      have hg : ∀ h, l[k]'h = x := fun h => by rw [List.getElem?_eq_getElem h] at hx; exact Option.some.inj hx
      rw [hs] at heq
      by_cases h37 : x = 37
      · subst h37
        by_cases h3 : l.length < k + 3
        · have hsh : (l.drop (k + 1)).length < 2 := by rw [List.length_drop]; omega
          rw [unP_short hsh] at heq
          have HR2 := Lib.hid (show R = none from by rw [HR.out]; exact heq.symm)
          clear heq hs hx
          have a1 : (l.length : Int) < (k : Int) + 3 := by omega
          go_wp2_with fail
          go_ret
          rw [HR2.out]
          exact ⟨rfl, hbel⟩
        · obtain ⟨a, hxa, hsa⟩ := drop_step (l := l) (k := k + 1) (by omega)
          obtain ⟨b, hxb, hsb⟩ := drop_step (l := l) (k := k + 1 + 1) (by omega)
          have hga : ∀ h, l[k + 1]'h = a := fun h => by rw [List.getElem?_eq_getElem h] at hxa; exact Option.some.inj hxa
          have hgb : ∀ h, l[k + 2]'h = b := fun h => by have hxb := hxb; rw [List.getElem?_eq_getElem (by omega)] at hxb; exact Option.some.inj hxb
          have a1 : ¬ (l.length : Int) < (k : Int) + 3 := by omega
          have k1 : k + 1 < l.length := by omega
          have k2 : k + 2 < l.length := by omega
          have v1 : IntKind.i64.wrap ((k : Int) + 1) = (k : Int) + 1 := IntWalk.i64_in _ ⟨by omega, by omega⟩
          have v2 : (0 : Int) ≤ (k : Int) + 1 := by omega
          have v3 : (k : Int) + 1 < (l.length : Int) := by omega
          have v4 : ((k : Int) + 1).toNat = k + 1 := by omega
          have u1 : IntKind.i64.wrap ((k : Int) + 2) = (k : Int) + 2 := IntWalk.i64_in _ ⟨by omega, by omega⟩
          have u2 : (0 : Int) ≤ (k : Int) + 2 := by omega
          have u3 : (k : Int) + 2 < (l.length : Int) := by omega
          have u4 : ((k : Int) + 2).toNat = k + 2 := by omega
          rw [hsa, hsb] at heq
          by_cases hha : 0 ≤ hexv a
          · have n1 : ¬ hexv a < 0 := by omega
            by_cases hhb : 0 ≤ hexv b
            · have n2 : ¬ hexv b < 0 := by omega
              rw [unP_esc hha hhb] at heq
              have Heq := Lib.hid heq
              have e9 := byte_or hha hhb
              have hbxD : BoxB wr.drew bb (emAll acc) := hbx
              have hbelD : Below bb w wr.drew := hbel.drew
              clear heq hs hx hsa hsb hxa hxb
              go_wp2_with (go_at_call 118; refine (w_digit _ _).mono ?_; rintro e w' ⟨rfl, rfl⟩)
              go_region_with (first
                | (go_at_call 118; refine (w_digit _ _).mono ?_; rintro e w' ⟨rfl, rfl⟩)
                | (go_at_call 68; (try rw [e9]); refine (w_seeN (Larder.byteOf a b) true bb acc (by omega) _ hbxD).mono ?_; rintro e w2 ⟨rfl, hbx2, hb2⟩))
              all_goals go_wp2
              all_goals go_roundw
              all_goals first
                | exact ⟨k + 1 + 1 + 1, acc ++ [(Larder.byteOf a b, true)], by go_num, by omega, by simp; omega, hbx2, hbelD.trans hb2, Heq.out⟩
                | (simp [intOf]; omega)
            · have n2 : hexv b < 0 := by omega
              rw [unP_bad (by omega)] at heq
              have HR2 := Lib.hid (show R = none from by rw [HR.out]; exact heq.symm)
              clear heq hs hx hsa hsb hxa hxb
              go_wp2_with (go_at_call 118; refine (w_digit _ _).mono ?_; rintro e w' ⟨rfl, rfl⟩)
              go_ret
              rw [HR2.out]
              exact ⟨rfl, hbel⟩
          · have n1 : hexv a < 0 := by omega
            rw [unP_bad (by omega)] at heq
            have HR2 := Lib.hid (show R = none from by rw [HR.out]; exact heq.symm)
            clear heq hs hx hsa hsb hxa hxb
            go_wp2_with (go_at_call 118; refine (w_digit _ _).mono ?_; rintro e w' ⟨rfl, rfl⟩)
            go_ret
            rw [HR2.out]
            exact ⟨rfl, hbel⟩
      · rw [unP_plain h37] at heq
        have h37b : ¬ (x.toNat : Int) = 37 := by
          intro h
          exact h37 (UInt8.toNat_inj.1 (by show x.toNat = 37; omega))
        have h37c : ((x.toNat : Int) == 37) = false := by simpa using h37b
        have Heq := Lib.hid heq
        clear heq hs hx
        go_wp2_with (go_at_call 68; refine (w_seeN x false bb acc (by omega) _ hbx).mono ?_; rintro e w2 ⟨rfl, hbx2, hb2⟩)
        go_roundw
        case rel => exact ⟨k + 1, acc ++ [(x, false)], by go_num, by omega, by simp; omega, hbx2, hbel.trans hb2, Heq.out⟩
        case measure => simp [intOf]; omega
    · rw [drop_end hlt, unP_nil] at heq
      have HR2 := Lib.hid (show R = some acc from by rw [HR.out]; exact heq.symm)
      clear heq
      go_wp2_with fail
      go_ret
      rw [HR2.out]
      exact ⟨⟨rfl, hbx⟩, hbel⟩
end Go.Proofs.YtldlbfdfaigkcaaDoor
