/- Walks: each byte of a target. -/
import Derived.Test.YtiaboojdplcaoaaWTgt0
import Derived.Test.YtiaboojdplcaoaaApp
import Derived.Deep.Heap
import Derived.Deep.RegionWith
import Derived.Deep.RegionHeld3
namespace Go.Proofs.Ytiaboojdplcaoaa
open Go.RowKit Go.Larder
set_option linter.unusedVariables false
set_option linter.unusedSimpArgs false

theorem own_set_lt {α : Type} {E : ElemT α} {w : World} {base : Nat} {e : TypeId} {A : Option Addr} {c : Nat} {l : List α} (h : OwnL E w base e A c l) {a : Addr} (ha : a.block < base) (v : Value) : OwnL E (w.setCell a v) base e A c l := by
  obtain ⟨h1, h2⟩ := h
  refine ⟨h1, ?_⟩
  rcases h2 with h2 | ⟨g, cap, cur, hv, hg, hh, r⟩
  · exact .inl h2
  · exact .inr ⟨g, cap, cur, hv, hg, (Go.Deep.blk_setCell_other w a v g (by omega)).trans hh, r⟩
theorem frozen_below {B : Nat} {w w' : World} (h : Below B w w') {p : Addr} (hp : p.block < B) : w'.frozen? p = w.frozen? p := by
  unfold World.frozen?
  rw [h.block _ hp]
theorem sl_u8t : SlT Try.prog 78 5 1 1 := SlT.mk' (z := .int .u8 0) Try.underlying78 (by kernel_rfl) rfl
/-- The box bb holds a row of own bytes. -/
def BoxB (w : World) (bb : Nat) (acc : List UInt8) : Prop := ∃ A c, w.cell? ⟨bb, 0, none⟩ = some (.slice A acc.length c) ∧ w.frozen? ⟨bb, 0, none⟩ = false ∧ OwnL encB w (bb + 1) 5 A c acc ∧ bb < w.heap.size
theorem w_see (ch : UInt8) (b : Bool) (bb : Nat) (acc : List UInt8) (hl : acc.length ≤ 1000) (w : World) (h : BoxB w bb acc) :
    Calls Try.prog 65 #[.int .u8 ch.toNat, .bool b, .pointer (some ⟨bb, 0, none⟩)] w fun e w' => e = .returned (.tuple #[]) ∧ BoxB w' bb (acc ++ [ch]) ∧ Below bb w w' := by
  obtain ⟨A, cp, hc, hf, ho, hb⟩ := h
  go_enter Try.func65, Try.ntmps65
  go_wp2_with (at_builtin
               refine wpList_app encB sl_u8t [ch] rfl _ _ rfl rfl ho #[.int .u8 ch.toNat] rfl 0 rfl rfl (by omega) (by simp only [maxLen]; omega) (by omega) ?_
               intro g' c'' w3 hown3 hg3 hb3 hbg
               have k0 : w3.cell? ⟨bb, 0, none⟩ = some (.slice A acc.length cp) := (hb3.cell (p := ⟨bb, 0, none⟩) (by show bb < bb + 1; omega)).trans hc
               have f0 : w3.frozen? ⟨bb, 0, none⟩ = false := (frozen_below hb3 (p := ⟨bb, 0, none⟩) (by show bb < bb + 1; omega)).trans hf)
  go_end0
  refine ⟨rfl, ⟨some ⟨g', 0, none⟩, c'', ?_, ?_, own_set_lt hown3 (by show bb < bb + 1; omega) _, ?_⟩, ?_⟩
  · rw [List.length_append]
    exact World.cell?_setCell_same _ _ _ k0
  · rw [World.frozen?_setCell]; exact f0
  · have := hb3.size; simp; omega
  · have hb4 : Below bb w w3 := hb3.mono (by omega)
    exact hb4.setCell (p := ⟨bb, 0, none⟩) (Nat.le_refl _) _

theorem byte_or_nat : ∀ p q : Fin 16, IntKind.u8.wrap (bits BinOp.or IntKind.i64 (IntKind.i64.wrap (((p.val : Nat) : Int) * 16)) ((q.val : Nat) : Int)) = ((UInt8.ofNat (16 * ((p.val : Nat) : Int) + ((q.val : Nat) : Int)).toNat).toNat : Int) := by decide +kernel
theorem byte_or {a b : UInt8} (ha : 0 ≤ hexv a) (hb : 0 ≤ hexv b) : IntKind.u8.wrap (bits BinOp.or IntKind.i64 (IntKind.i64.wrap (hexv a * 16)) (hexv b)) = ((Larder.byteOf a b).toNat : Int) := by
  have h1 := hexv_lt a
  have h2 := hexv_lt b
  have := byte_or_nat ⟨(hexv a).toNat, by omega⟩ ⟨(hexv b).toNat, by omega⟩
  simp only [Int.toNat_of_nonneg ha, Int.toNat_of_nonneg hb] at this
  exact this
def EachPost (bb : Nat) (w : World) (r : Option (List UInt8)) (e : Ending) (w' : World) : Prop :=
  (match r with
    | none => e = .returned (.bool false)
    | some out => e = .returned (.bool true) ∧ BoxB w' bb out) ∧ Below bb w w'

set_option maxHeartbeats 4000000 in
theorem w_each (l : List UInt8) (hl : l.length ≤ 200) (bb : Nat) (w : World) (hbox : BoxB w bb []) :
    Calls Try.prog 64 #[S l, .func (.func 65) #[] #[.pointer (some ⟨bb, 0, none⟩)]] w (EachPost bb w (unGo l [])) := by
  obtain ⟨R, hR⟩ : ∃ R, R = unGo l [] := ⟨_, rfl⟩
  rw [← hR]
  have HR := Lib.hid hR
  clear hR
  go_enter Try.func64, Try.ntmps64
  go_wp2_with fail
  go_loopw [5] (fun i' wr => ∃ (k : Nat) (acc : List UInt8), i' = .int .i64 k ∧ k ≤ l.length ∧ acc.length ≤ k ∧ BoxB wr bb acc ∧ Below bb w wr ∧ unGo (l.drop k) acc = unGo l []) (fun i' _ => l.length - (intOf i').toNat)
  case atStart => exact ⟨0, [], rfl, by omega, by simp, hbox, Below.refl _ _, rfl⟩
  case round =>
    obtain ⟨k, acc, rfl, hk, hak, hbx, hbel, heq⟩ := hrel
    by_cases hlt : k < l.length
    · obtain ⟨x, hx, hs⟩ := drop_step hlt
      have hg : ∀ h, l[k]'h = x := fun h => by rw [List.getElem?_eq_getElem h] at hx; exact Option.some.inj hx
      rw [hs] at heq
      by_cases h37 : x = 37
      · subst h37
        by_cases h3 : l.length < k + 3
        · have hsh : (l.drop (k + 1)).length < 2 := by rw [List.length_drop]; omega
          rw [unGo_short hsh] at heq
          have HR2 := Lib.hid (show R = none from by rw [HR.out]; exact heq.symm)
          clear heq hs hx
          have a1 : (l.length : Int) < (k : Int) + 3 := by omega
          go_wp2_with fail
          go_ret
          rw [HR2.out]
          exact ⟨rfl, hbel⟩
        · obtain ⟨a, hxa, hsa⟩ := drop_step (l := l) (k := k + 1) (by omega)
          obtain ⟨b, hxb, hsb⟩ := drop_step (l := l) (k := k + 1 + 1) (by omega)
          have hga : ∀ h, l[k + 1]'h = a := fun h => by rw [List.getElem?_eq_getElem h] at hxa; exact Option.some.inj hxa
          have hgb : ∀ h, l[k + 2]'h = b := fun h => by have hxb := hxb; rw [List.getElem?_eq_getElem (by omega)] at hxb; exact Option.some.inj hxb
          have a1 : ¬ (l.length : Int) < (k : Int) + 3 := by omega
          have k1 : k + 1 < l.length := by omega
          have k2 : k + 2 < l.length := by omega
          have v1 : IntKind.i64.wrap ((k : Int) + 1) = (k : Int) + 1 := IntWalk.i64_in _ ⟨by omega, by omega⟩
          have v2 : (0 : Int) ≤ (k : Int) + 1 := by omega
          have v3 : (k : Int) + 1 < (l.length : Int) := by omega
          have v4 : ((k : Int) + 1).toNat = k + 1 := by omega
          have u1 : IntKind.i64.wrap ((k : Int) + 2) = (k : Int) + 2 := IntWalk.i64_in _ ⟨by omega, by omega⟩
          have u2 : (0 : Int) ≤ (k : Int) + 2 := by omega
          have u3 : (k : Int) + 2 < (l.length : Int) := by omega
          have u4 : ((k : Int) + 2).toNat = k + 2 := by omega
          rw [hsa, hsb] at heq
          by_cases hha : 0 ≤ hexv a
          · have n1 : ¬ hexv a < 0 := by omega
            by_cases hhb : 0 ≤ hexv b
            · have n2 : ¬ hexv b < 0 := by omega
              rw [unGo_esc hha hhb] at heq
              have Heq := Lib.hid heq
              have e9 := byte_or hha hhb
              have hbxD : BoxB wr.drew bb acc := hbx
              have hbelD : Below bb w wr.drew := hbel.drew
              clear heq hs hx hsa hsb hxa hxb
              go_wp2_with (go_at_call 94; refine (w_digit _ _).mono ?_; rintro e w' ⟨rfl, rfl⟩)
              go_region_with (first
                | (go_at_call 94; refine (w_digit _ _).mono ?_; rintro e w' ⟨rfl, rfl⟩)
                | (go_at_call 65; (try rw [e9]); refine (w_see (Larder.byteOf a b) true bb acc (by omega) _ hbxD).mono ?_; rintro e w2 ⟨rfl, hbx2, hb2⟩))
              all_goals go_wp2
              all_goals go_roundw
              all_goals first
                | exact ⟨k + 1 + 1 + 1, acc ++ [Larder.byteOf a b], by go_num, by omega, by simp; omega, hbx2, hbelD.trans hb2, Heq.out⟩
                | (simp [intOf]; omega)
            · have n2 : hexv b < 0 := by omega
              rw [unGo_bad (by omega)] at heq
              have HR2 := Lib.hid (show R = none from by rw [HR.out]; exact heq.symm)
              clear heq hs hx hsa hsb hxa hxb
              go_wp2_with (go_at_call 94; refine (w_digit _ _).mono ?_; rintro e w' ⟨rfl, rfl⟩)
              go_ret
              rw [HR2.out]
              exact ⟨rfl, hbel⟩
          · have n1 : hexv a < 0 := by omega
            rw [unGo_bad (by omega)] at heq
            have HR2 := Lib.hid (show R = none from by rw [HR.out]; exact heq.symm)
            clear heq hs hx hsa hsb hxa hxb
            go_wp2_with (go_at_call 94; refine (w_digit _ _).mono ?_; rintro e w' ⟨rfl, rfl⟩)
            go_ret
            rw [HR2.out]
            exact ⟨rfl, hbel⟩
      · rw [unGo_plain h37] at heq
        have h37b : ¬ (x.toNat : Int) = 37 := by
          intro h
          exact h37 (UInt8.toNat_inj.1 (by show x.toNat = 37; omega))
        have h37c : ((x.toNat : Int) == 37) = false := by simpa using h37b
        have Heq := Lib.hid heq
        clear heq hs hx
        go_wp2_with (go_at_call 65; refine (w_see x false bb acc (by omega) _ hbx).mono ?_; rintro e w2 ⟨rfl, hbx2, hb2⟩)
        go_roundw
        case rel => exact ⟨k + 1, acc ++ [x], by go_num, by omega, by simp; omega, hbx2, hbel.trans hb2, Heq.out⟩
        case measure => simp [intOf]; omega
    · rw [drop_end hlt, unGo_nil] at heq
      have HR2 := Lib.hid (show R = some acc from by rw [HR.out]; exact heq.symm)
      clear heq
      go_wp2_with fail
      go_ret
      rw [HR2.out]
      exact ⟨⟨rfl, hbx⟩, hbel⟩
end Go.Proofs.Ytiaboojdplcaoaa
