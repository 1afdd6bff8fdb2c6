/- Walk: the reference's books: no more records than there must be. -/
import Derived.Test.YtbchkaoocobpfaaWBr2
namespace Go.Larder
set_option linter.unusedVariables false
set_option linter.unusedSimpArgs false
theorem getM_mapK (f : List UInt8 → List UInt8) (k : List UInt8) : ∀ ks : List (List UInt8), getM (ks.map fun x => (x, f x)) k = if k ∈ ks then some (f k) else none
  | [] => rfl
  | x :: ks => by
    have ih := getM_mapK f k ks
    by_cases h : k = x
    · subst h; simp [getM]
    · simp [getM, h, ih]
theorem BookR.pre {m : Kv} {L : List Ent} (h : BookR m L) (i : Nat) : BookR (((sortL (keysM m)).take i).map fun k => (k, (getM m k).getD [])) ((compL m).take i) := by
  have hnd : (sortL (keysM m)).Nodup := (sortL_perm _).nodup_iff.2 h.nd
  have hc := h.comp
  refine ⟨?_, fun k => ?_, fun e he => hc.ok e (List.mem_of_mem_take he), ?_⟩
  · have : keysM (((sortL (keysM m)).take i).map fun k => (k, (getM m k).getD [])) = (sortL (keysM m)).take i := by simp [keysM, Function.comp_def]
    rw [this]
    exact hnd.sublist (List.take_sublist _ _)
  · rw [getM_mapK]
    unfold compL getL
    rw [← List.map_take, getF_map (fun k => (getM m k).getD [])]
  · rw [List.length_map, List.length_take, sortL_len]
    have := h.few
    simp only [keysM, List.length_map]
    omega
end Go.Larder
namespace Go.Proofs.Ytbchkaoocobpfaa
open Go.RowKit Go.Larder
set_option linter.unusedVariables false
set_option linter.unusedSimpArgs false
variable {w w' : World} {c cap : Nat} {A : Option Addr} {L : List Ent} {m : Kv}
set_option maxHeartbeats 4000000 in
set_option maxRecDepth 100000 in
theorem w_RCompact (hl : L.length ≤ 3000000) (hR : BookR m L) (h : RefB w c A cap L) :
    Calls Try.prog 41 #[.pointer (some ⟨c, 0, none⟩)] w fun e w' => e = .returned (.tuple #[]) ∧ RAfter w c A (compL m) w' := by
  have bx := BoxAt.new w [.slice none 0 0] 54
  have hb1 := (Below.refl w.heap.size w).alloc (Nat.le_refl _) (.cells #[.slice none 0 0] 54)
  have h1 := h.keep hb1
  have hks := w_RKeys (by omega) hR.ok (by rw [← hR.count]; exact hR.few) h1
  have h2r : RefB (w.alloc (.cells #[.slice none 0 0] 54)) w.heap.size none 0 [] := ⟨bx, OwnL.nil _ _ _⟩
  have hsz : (w.alloc (.cells #[.slice none 0 0] 54)).heap.size = w.heap.size + 1 := by simp
  have hclt := h.box.lt
  have hmem : ∀ (i : Nat) (k : List UInt8), (sortL (keysU L))[i]? = some k → ∃ x, getL L k = some x ∧ (compL m).take (i + 1) = (compL m).take i ++ [(true, k, x)] ∧ setEL ((compL m).take i) k x = 0 ∧ (∀ e ∈ (compL m).take i, OkEnt e) ∧ (keysU ((compL m).take i)).length ≤ 100 ∧ ((compL m).take i).length = i := fun i k hi => by
    have hks : sortL (keysM m) = sortL (keysU L) := hR.keys
    rw [← hks] at hi
    have hil : i < (sortL (keysM m)).length := (List.getElem?_eq_some_iff.1 hi).1
    have h1 : k ∈ keysM m := (sortL_perm _).mem_iff.1 (List.mem_of_getElem? hi)
    rw [keysM_mem] at h1
    cases hg : getM m k with
    | none => rw [hg] at h1; cases h1
    | some x =>
      have hlen := hR.keyLen hg
      have hp := hR.pre i
      have hci : (compL m)[i]? = some (true, k, x) := by unfold compL; rw [List.getElem?_map, hi, Option.map_some, hg]; rfl
      have hcl : ((compL m).take i).length = i := by rw [List.length_take, compL_len]; rw [sortL_len] at hil; simp [keysM] at hil; omega
      have hkc : (keysU ((compL m).take i)).length = i := by
        rw [← hp.count, List.length_map, List.length_take]; omega
      have hi100 : i < 100 := by rw [sortL_len] at hil; simp [keysM] at hil; have := hR.few; omega
      refine ⟨x, by rw [← hR.get]; exact hg, by rw [List.take_add_one, hci]; rfl, ?_, hp.ok, by omega, hcl⟩
      unfold setEL
      rw [if_neg, if_neg (by omega), if_neg (by intro h0; omega)]
      rintro (h0 | h0)
      · rw [h0] at hlen; simp at hlen
      · omega
  have hlen0 : (sortL (keysU L)).length = (compL m).length := by rw [← hR.keys, sortL_len, compL_len]; simp [keysM]
  obtain ⟨ks, hkse⟩ : ∃ ks, sortL (keysU L) = ks := ⟨_, rfl⟩
  rw [hkse] at hks hmem hlen0
  have hfew : ks.length ≤ 100 := by rw [hlen0, compL_len]; exact hR.few
  have Hmem := Lib.hid hmem
  have Hlen := Lib.hid hlen0
  have Hok := Lib.hid hR.ok
  clear hmem hlen0 hkse
  go_enter Try.func41, Try.ntmps41
  go_wp2_with fail
  generalize w.alloc (.cells #[.slice none 0 0] 54) = w1 at *
  refine Calls.mono hks ?_
  intro e w3 hp
  obtain ⟨⟨A3, c3, rfl, hr⟩, hb3⟩ := hp
  have hB3 := hb1.trans (hb3.mono hb1.size)
  have h2r3 := h2r.keep hb3
  have Hrl := Lib.hid (fun a ha => (hr.lt a ha).2)
  clear h2r hks bx h1
  generalize hc2 : w.heap.size = c2 at *
  go_wp2_with fail
  go_loopw [4, 5, 6, 12] (fun _ _ _ i' wr => ∃ (i : Nat) (A2 : Option Addr) (cap2 : Nat), i' = .int .i64 i ∧ i ≤ ks.length ∧ RefB wr c2 A2 cap2 ((compL m).take i) ∧ (∀ j, blkOf A2 = some j → w3.heap.size ≤ j) ∧ OwnL encL wr w1.heap.size 9 A3 c3 ks ∧ SameBut (fun j => j = c2) w3 wr) (fun _ _ _ i' _ => ks.length - (intOf i').toNat)
  case atStart => exact ⟨0, none, 0, rfl, by omega, h2r3, fun j hj => by simp [blkOf] at hj, hr, SameBut.refl _⟩
  case round =>
    clear hr h2r3
    obtain ⟨i, A2, cap2, rfl, hi, hb2, hnv, hr, hsm⟩ := hrel
    obtain ⟨wo, hwo⟩ : ∃ wo, wo = wr := ⟨_, rfl⟩
    subst hwo
    have hBo : Below w.heap.size w wo := by rw [hc2]; exact hB3.trans (hsm.toBelow (by have := hB3.size; omega) (fun j hj h0 => by omega))
    have hro := h.keep hBo
    by_cases hlt : i < ks.length
    · obtain ⟨k, hki, hd⟩ := drop_step hlt
      obtain ⟨x, hgx, htk, hse, hoe, hke, hcl⟩ := Hmem.out i k hki
      obtain ⟨gk, offk, hA, _, hck⟩ := hr.read.at_S hki
      subst hA
      have hgk := (hr.lt _ rfl).1
      have hget := w_RGet k (by omega) Hok.out hro
      rw [hgx] at hget
      have hnv2 := Lib.hid hnv
      have hsetc := fun (W : World) (hW : RefB W c2 A2 cap2 ((compL m).take i)) => w_RSet_ok k x (by omega) hoe hke hse hW
      rw [← htk] at hsetc
      have Hset := Lib.hid hsetc
      clear hgx htk hse hoe hke hcl hki hd hsetc hnv
      go_wp2_with fail
      refine Calls.mono hget ?_
      rintro e w4 ⟨rfl, hb4⟩
      have hb24 := hb2.keep hb4
      go_wp2_with fail
      refine Calls.mono (Hset.out w4 hb24) ?_
      rintro e w5 ⟨rfl, A5, cap5, hb5, hn5, hs5⟩
      have hs45 : SameBut (FR c2 A2) wo w5 := ((SameBut.refl wo).keep hb4).trans hs5 fun _ _ h => h
      have hr5 : OwnL encL w5 w1.heap.size 9 (some ⟨gk, offk, none⟩) c3 ks := hr.keep fun a ha => hs45.block _ (hr.lt _ ha).2 (by
        injection ha with ha
        subst ha
        rintro (h0 | h0)
        · simp only at h0; omega
        · have h1 := hnv2.out _ h0
          have := Hrl.out _ rfl
          simp only at this h1
          omega)
      have hsm5 : SameBut (fun j => j = c2) w3 w5 := hsm.trans hs45 fun j hj h0 => by
        rcases h0 with h0 | h0
        · exact h0
        · have := hnv2.out _ h0; omega
      have hnv5 : ∀ j, blkOf A5 = some j → w3.heap.size ≤ j := fun j hj => by
        rcases hn5 j hj with h0 | h0
        · exact hnv2.out j h0
        · exact Nat.le_trans (hsm.keep hb4).size h0
      go_wp2_with fail
      go_roundw
      case rel => exact ⟨i + 1, A5, cap5, by go_num, by omega, hb5, hnv5, hr5, hsm5⟩
      case measure => simp [intOf]; omega
    · obtain rfl : i = ks.length := by omega
      have htk : (compL m).take ks.length = compL m := List.take_of_length_le (by rw [Hlen.out]; exact Nat.le_refl _)
      rw [htk] at hb2
      have d0 := hb2.box.cell (j := 0) rfl
      have d1 := hro.box.cell (j := 0) rfl
      have f1 := hro.box.free 0
      have hne : c ≠ c2 := by omega
      have hfin : RAfter w c A (compL m) (wo.setCell ⟨c, 0, none⟩ (.slice A2 (compL m).length cap2)) := by
        refine ⟨A2, cap2, ⟨hro.box.set 0 _, hb2.own.keep fun a ha => heap_setCell_other _ _ _ _ ?_⟩, fun j hj => .inr ?_, ?_⟩
        · have h1 := hnv a.block (by rw [ha]; rfl)
          have := hB3.size
          show a.block ≠ c
          omega
        · have := hnv j hj
          have := hB3.size
          omega
        · exact ((SameBut.refl w).keep hBo).setCell ⟨c, 0, none⟩ _ (fun _ => .inl rfl)
      clear hro htk
      go_wp2_with fail
      go_end0
      exact ⟨rfl, hfin⟩
end Go.Proofs.Ytbchkaoocobpfaa
