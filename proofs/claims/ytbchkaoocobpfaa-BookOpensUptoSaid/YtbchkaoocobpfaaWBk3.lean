/- Walks: books: the keys in their order; no more records than there must be. -/
import Derived.Test.YtbchkaoocobpfaaWBk2
import Derived.Test.YtbchkaoocobpfaaIter
import Derived.CallsIn
import Derived.Lib.SmallJoins
import Derived.Sort.KeysCollected
import Derived.Maps.Range
namespace Go.Larder
open Go.RowKit
open Go.WideElems (Fit rd rg rg_of rd_mk)
set_option linter.unusedVariables false
set_option linter.unusedSimpArgs false
theorem MapAt.owns {P : Program} {w : World} {g : Nat} {m : Kv} {kt et : TypeId} (hk : P.underlying kt = some .string) (he : P.underlying et = some .string) (h : MapAt w g (m.map fun p => (p.1, S p.2))) (hl : ∀ p ∈ m, p.1.length ≤ maxLen ∧ p.2.length ≤ maxLen) (hn : m.length ≤ maxLen) :
    ∃ D : DataW Unit, w.ownsMap P kt (plainElem P et) g m.length D ∧ ∀ x, x ∈ keysM m ↔ Maps.has D (.string x) = true := by
  obtain ⟨es, clock, hb, hs, hes⟩ := h
  have hlen : es.size = m.length := by
    have := congrArg List.length hes
    simpa using this
  have hent : ∀ x ∈ es.toList, ∃ p ∈ m, x.key = S p.1 ∧ x.val = S p.2 := fun x hx => by
    have h1 : (x.key, x.val) ∈ (m.map fun p => (p.1, S p.2)).map entV := by rw [← hes]; exact List.mem_map.2 ⟨x, hx, rfl⟩
    obtain ⟨q, hq, h2⟩ := List.mem_map.1 h1
    obtain ⟨p, hp, rfl⟩ := List.mem_map.1 hq
    simp only [entV, Prod.mk.injEq] at h2
    exact ⟨p, hp, h2.1.symm, h2.2.symm⟩
  have hrd : ∀ x ∈ es.toList, ∃ p ∈ m, x.key = S p.1 ∧ rd (H := Unit) P kt (plainElem P et) x = some (.string p.1, .lit (.string p.2)) := fun x hx => by
    obtain ⟨p, hp, h1, h2⟩ := hent x hx
    refine ⟨p, hp, h1, ?_⟩
    obtain ⟨xk, xv, xb⟩ := x
    simp only at h1 h2
    subst h1 h2
    have hp2 := hl p hp
    have e1 := Go.WideMaps.keyOf_string_mk (P := P) hk (s := ⟨p.1.toArray⟩) (by rw [ba_size]; exact hp2.1)
    have e2 := plainElem_string (H := Unit) he (s := ⟨p.2.toArray⟩) (by rw [ba_size]; exact hp2.2)
    have := rd_mk (born := xb) e1 e2
    simpa using this
  refine ⟨_, ⟨es, clock, hb, ⟨by rw [hlen]; exact hn, hs, fun x hx => by obtain ⟨p, _, _, h2⟩ := hrd x hx; exact ⟨_, h2⟩⟩, Nat.le_of_eq hlen, rfl⟩, fun x => ?_⟩
  rw [Maps.has_eq, List.any_eq_true]
  constructor
  · intro hx
    obtain ⟨p, hp, rfl⟩ := List.mem_map.1 hx
    have h1 : entV (p.1, S p.2) ∈ es.toList.map (fun e => (e.key, e.val)) := by rw [hes]; exact List.mem_map.2 ⟨_, List.mem_map.2 ⟨p, hp, rfl⟩, rfl⟩
    obtain ⟨e, he1, he2⟩ := List.mem_map.1 h1
    simp only [entV, Prod.mk.injEq] at he2
    obtain ⟨q, hq, hk2, hr⟩ := hrd e he1
    refine ⟨rg P kt (plainElem P et) e, Go.mem_sorted.2 (List.mem_map.2 ⟨e, he1, rfl⟩), ?_⟩
    rw [rg_of hr]
    have : q.1 = p.1 := S_inj (hk2.symm.trans he2.1)
    simp [Lit.sameKey, this]
  · rintro ⟨y, hy, hs2⟩
    obtain ⟨e, he1, rfl⟩ := List.mem_map.1 (Go.mem_sorted.1 hy)
    obtain ⟨q, hq, hk2, hr⟩ := hrd e he1
    rw [rg_of hr] at hs2
    have : q.1 = x := by simpa [Lit.sameKey] using hs2
    exact List.mem_map.2 ⟨q, hq, this⟩
end Go.Larder
namespace Go.Proofs.Ytbchkaoocobpfaa
open Go.RowKit Go.Larder
set_option linter.unusedVariables false
set_option linter.unusedSimpArgs false
variable {w w' : World} {b gm : Nat} {p v : Value} {m : Kv} {n : Nat} {img : List UInt8}
def KeysP (w : World) (ks : List (List UInt8)) (e : Ending) (w' : World) : Prop := (∃ A c, e = .returned (.slice A ks.length c) ∧ OwnL encL w' w.heap.size 9 A c ks) ∧ Below w.heap.size w w'
theorem w_keysB (g n : Nat) (D : DataW Unit) (w : World) (hown : w.ownsMap Try.prog 9 (plainElem Try.prog 9) g n D) (ns : List (List UInt8)) (hnd : ns.Nodup) (hm : ∀ x, x ∈ ns ↔ Maps.has D (.string x) = true) (hl : ns.length ≤ 1000) :
    Calls Try.prog 50 #[.func (.func 64) #[] #[.pointer (some ⟨w.heap.size, 0, none⟩)]] (w.alloc (.cells #[.map (some g)] 82)) (KeysP w (sortL ns)) := by
  obtain ⟨es, hD, hpw, _⟩ := hown.entries (Maps.string_keyed Try.underlying9)
  obtain ⟨es', hD', hko⟩ := hown.keysOf
  obtain rfl : es = es' := by rw [hD] at hD'; simpa using hD'
  subst hD
  have hk : ∀ p ∈ es, ∃ x, p.1 = .string x := fun p hp => by obtain ⟨v, hv⟩ := hko p hp; obtain ⟨x, _, hx, _⟩ := Maps.keyOf_str Try.underlying9 hv; exact ⟨x, hx⟩
  have hlen : Maps.size (.map es : DataW Unit) = ns.length := by
    have hp := perm_strKeys hpw hk hnd hm
    have := hp.length_eq
    simp only [strKeys, List.length_map] at this
    exact this.symm
  have h := callsIn_wide.1 (Try.slices_Sorted_keys_50_51 g n (.map es) (plainElem Try.prog 9) w hown (by rw [hlen]; unfold maxLen; omega) (by rw [hlen]; omega))
  refine h.mono ?_
  rintro e w' ⟨v, ss, rfl, hS, hrow, hnil, hb⟩
  have hkn := keys_names hpw hk hnd hm hS
  change ss.mergeSort leB = _ at hkn
  have hsl : ss.length = (sortL ns).length := by rw [← hkn, List.length_mergeSort]
  have hB : Below w.heap.size w w' := ((Below.refl _ w).alloc (Nat.le_refl _) _).trans (hb.mono (by simp))
  rw [show ((ss.mergeSort fun x y => decide (x ≤ y)).map encStr) = (sortL ns).map (fun s => S s) from by rw [← hkn], hsl] at hrow
  refine ⟨?_, hB⟩
  rcases Go.Joins.ownsRow_forms hrow with ⟨rfl, h0⟩ | ⟨g', cap, rfl⟩
  · have : sortL ns = [] := List.length_eq_zero_iff.1 h0
    rw [this]
    exact ⟨none, 0, rfl, OwnL.nil _ _ _⟩
  · refine ⟨some ⟨g', 0, none⟩, cap, rfl, ?_⟩
    have ho : OwnL encL w' (w.alloc (.cells #[.map (some g)] 82)).heap.size 9 (some ⟨g', 0, none⟩) cap (sortL ns) := by unfold OwnL; rw [flat_S]; exact hrow
    exact ho.base_le (by simp)
set_option maxHeartbeats 1000000 in
theorem w_BKeys (hk : ∀ k x, getM m k = some x → x.length ≤ 900 ∧ 1 ≤ k.length ∧ k.length ≤ 50) (hf : m.length ≤ 100) (h : BookAt w b gm p v m n img) :
    Calls Try.prog 25 #[.pointer (some ⟨b, 0, none⟩)] w (KeysP w (sortL (keysM m))) := by
  have c0 := h.bld.box.cell (j := 0) rfl
  have hnd : (keysM m).Nodup := by
    have := h.map.nodup
    simpa [valS, keysM, Function.comp_def] using this
  obtain ⟨D, hown, hD⟩ := MapAt.owns (P := Try.prog) (kt := 9) (et := 9) Try.underlying9 Try.underlying9 h.map (fun q hq => by
    have := hk q.1 q.2 (getM_of_mem hnd hq)
    unfold maxLen
    omega) (by unfold maxLen; omega)
  have hs := w_keysB gm _ D w hown (keysM m) hnd hD (by simp [keysM]; omega)
  have hmk : ∀ W, Calls Try.prog 51 #[.map (some gm)] W fun e w' => e = .returned (.func (.func 64) #[] #[.pointer (some ⟨W.heap.size, 0, none⟩)]) ∧ w' = W.alloc (.cells #[.map (some gm)] 82) := fun W => callsIn_wide.1 (Try.maps_Keys_51 (some gm) W)
  have Hs := Lib.hid hs
  clear hs hown hD hk
  go_enter Try.func25, Try.ntmps25
  go_wp2_with fail
  refine Calls.mono (hmk _) ?_
  rintro e w1 ⟨rfl, rfl⟩
  go_wp2_with fail
  refine Calls.mono Hs.out ?_
  rintro e w2 hp
  obtain ⟨⟨A, c, rfl, hr⟩, hb⟩ := hp
  go_wp2_with fail
  go_ret
  exact ⟨⟨A, c, rfl, hr⟩, hb⟩
theorem imgGo_app (L : List Ent) (n : Nat) {i : Nat} {e : Ent} (h : L[i]? = some e) : imgGo n (L.take (i + 1)) = imgGo n (L.take i) ++ frameL (n + i) (recE e) := by
  have hi : i < L.length := (List.getElem?_eq_some_iff.1 h).1
  rw [List.take_add_one, h]
  show imgGo n (L.take i ++ [e]) = _
  rw [imgGo_snoc, List.length_take, Nat.min_eq_left (Nat.le_of_lt hi)]
set_option maxHeartbeats 2000000 in
theorem w_BCompact (hk : ∀ k x, getM m k = some x → x.length ≤ 900 ∧ 1 ≤ k.length ∧ k.length ≤ 50) (hf : m.length ≤ 100) (h : BookAt w b gm p v m n img) :
    Calls Try.prog 40 #[.pointer (some ⟨b, 0, none⟩)] w fun e w' => e = .returned (.tuple #[]) ∧ BkAfter w b gm v m m.length (imgGo 0 (compL m)) w' := by
  go_enter Try.func40, Try.ntmps40
  go_wp2_with fail
  refine Calls.mono (w_ResetB b _ _ p v img w h.bld) ?_
  rintro e w1 ⟨rfl, hb1, hs1⟩
  have hm1 : MapAt w1 gm (valS m) := h.map.but hs1 h.ne
  have c1 := hb1.box.cell (j := 1) rfl
  have f1 := hb1.box.free 1
  have hb2 := hb1.setMany (.int .i64 0)
  have hm2 := hm1.setCell ⟨b, 1, none⟩ h.ne (.int .i64 0)
  have hs2 : SameBut (fun j => j = b) w (w1.setCell ⟨b, 1, none⟩ (.int .i64 0)) := hs1.setCell ⟨b, 1, none⟩ _ (fun _ => rfl)
  have h2 : BookAt (w1.setCell ⟨b, 1, none⟩ (.int .i64 0)) b gm (.pointer none) (.slice none 0 0) m 0 [] := ⟨hb2, hm2⟩
  have hK := w_BKeys hk hf h2
  clear hb1 hm1 hb2 hm2 hs1
  go_wp2_with fail
  clear c1 f1
  generalize w1.setCell ⟨b, 1, none⟩ (.int .i64 0) = w2 at *
  refine Calls.mono hK ?_
  intro e w3 hp
  obtain ⟨⟨A, c, rfl, hr⟩, hb3⟩ := hp
  have h3 := h2.keep hb3
  have hs3 : SameBut (FB b gm v) w w3 := (hs2.keep hb3).mono fun j _ hj => .inl hj
  have hbl := h2.bld.lt
  have hnd : (keysM m).Nodup := by
    have := h.map.nodup
    simpa [valS, keysM, Function.comp_def] using this
  have hksl : (sortL (keysM m)).length = m.length := by rw [sortL_len]; simp [keysM]
  have hmem : ∀ (i : Nat) (k : List UInt8), (sortL (keysM m))[i]? = some k → ∃ x, getM m k = some x ∧ (compL m)[i]? = some (true, k, x) := fun i k hi => by
    have h1 : k ∈ keysM m := (sortL_perm _).mem_iff.1 (List.mem_of_getElem? hi)
    rw [keysM_mem] at h1
    cases hg : getM m k with
    | none => rw [hg] at h1; cases h1
    | some x => exact ⟨x, rfl, by unfold compL; rw [List.getElem?_map, hi, Option.map_some, hg]; rfl⟩
  obtain ⟨ks, hks⟩ : ∃ ks, sortL (keysM m) = ks := ⟨_, rfl⟩
  rw [hks] at hr hksl hmem ⊢
  have Hmem := Lib.hid hmem
  have Hk := Lib.hid hk
  have hgm2 := h2.map.lt
  have Hrl := Lib.hid (fun a ha => (hr.lt a ha).2)
  clear hmem hks hK h2 hs2 hk
  have Hksl := Lib.hid hksl
  have hkl : ks.length ≤ 100 := by omega
  clear hksl
  go_wp2_with fail
  go_loopw [3, 14] (fun _ i' wr => ∃ (i : Nat) (p' v' : Value) (im : List UInt8), i' = .int .i64 i ∧ i ≤ ks.length ∧ BookAt wr b gm p' v' m i im ∧ im.length ≤ 1000000 * i ∧ Hid (im = imgGo 0 ((compL m).take i)) ∧ NewV w3 (.slice none 0 0) v' ∧ OwnL encL wr w2.heap.size 9 A c ks ∧ SameBut (fun j => j = b ∨ j = gm) w3 wr) (fun _ i' _ => ks.length - (intOf i').toNat)
  case atStart => exact ⟨0, _, _, [], rfl, by omega, h3, by simp, Lib.hid rfl, NewV.refl _ _, hr, SameBut.refl _⟩
  case round =>
    clear hr
    obtain ⟨i, p', v', im, rfl, hi, hbk, hil, him, hnv, hr, hsm⟩ := hrel
    obtain ⟨wo, hwo⟩ : ∃ wo, wo = wr := ⟨_, rfl⟩
    subst hwo
    by_cases hlt : i < ks.length
    · obtain ⟨k, hki, hd⟩ := drop_step hlt
      obtain ⟨x, hx, hcx⟩ := Hmem.out i k hki
      have hlen := Hk.out k x hx
      have hck : ∃ g off, A = some ⟨g, off, none⟩ ∧ wo.cell? ⟨g, off + i, none⟩ = some (S k) := by
        obtain ⟨g, off, h1, _, h2⟩ := hr.read.at_S hki
        exact ⟨g, off, h1, h2⟩
      obtain ⟨gk, offk, hA, hck⟩ := hck
      subst hA
      have hgk := (hr.lt _ rfl).1
      have c0 := hbk.bld.box.cell (j := 0) rfl
      have hlk := lk_some hbk.map hx false
      have hrec := fun W => w_record 1 (by omega) k x hlen.2.2 hlen.1 W
      have hre : ([UInt8.ofNat 1, UInt8.ofNat k.length] ++ k ++ x) = recE (true, k, x) := rfl
      rw [hre] at hrec
      have hrl : (recE (true, k, x)).length ≤ 1000 := by simp [recE]; omega
      have Hn := Lib.hid (show im ++ frameL i (recE (true, k, x)) = imgGo 0 ((compL m).take (i + 1)) from by rw [imgGo_app _ _ hcx, him.out, Nat.zero_add])
      have hfl := frameL_len i (recE (true, k, x))
      obtain ⟨r, hrr⟩ : ∃ r, recE (true, k, x) = r := ⟨_, rfl⟩
      rw [hrr] at hrec hrl Hn hfl
      have Hfl := Lib.hid hfl
      clear hre hrr hx hcx hki hd hlen hfl
      go_wp2_with fail
      refine Calls.mono (hrec _) ?_
      rintro e w4 ⟨rfl, hb4⟩
      have h4 := hbk.keep hb4
      go_wp2_with fail
      refine Calls.mono (w_add b gm p' v' m i im r (by omega) (by omega) hrl w4 h4) ?_
      rintro e w5 ⟨rfl, p5, v5, h5, hnv5, hs5⟩
      have hs45 : SameBut (FB b gm v') wo w5 := ((SameBut.refl wo).keep hb4).trans hs5 fun _ _ h => h
      have hnw : NewV w3 (.slice none 0 0) v5 := NewV.trans hnv (fun j hj => (hnv5 j hj).imp id (fun h0 => Nat.le_trans hb4.size h0)) hsm.size
      have hr5 : OwnL encL w5 w2.heap.size 9 (some ⟨gk, offk, none⟩) c ks := hr.keep fun a ha => hs45.block _ (hr.lt _ ha).2 (by
        injection ha with ha
        subst ha
        rintro (h0 | h0 | h0)
        · show False; simp only at h0; omega
        · simp only at h0; omega
        · rcases hnv _ h0 with h1 | h1
          · simp [Value.ownBlock] at h1
          · have := Hrl.out _ rfl; simp only at this h1; omega)
      have hsm5 : SameBut (fun j => j = b ∨ j = gm) w3 w5 := hsm.trans hs45 fun j hj h0 => by
        rcases h0 with h0 | h0 | h0
        · exact .inl h0
        · exact .inr h0
        · rcases hnv _ h0 with h1 | h1
          · simp [Value.ownBlock] at h1
          · omega
      go_wp2_with fail
      go_roundw
      case rel => exact ⟨i + 1, p5, v5, im ++ frameL i r, by go_num, by omega, h5, by rw [List.length_append, Hfl.out]; omega, Hn, hnw, hr5, hsm5⟩
      case measure => simp [intOf]; omega
    · obtain rfl : i = ks.length := by omega
      have hfin : BkAfter w b gm v m m.length (imgGo 0 (compL m)) wo := by
        refine ⟨p', v', ?_, fun j hj => ?_, hs3.trans hsm fun j _ h0 => ?_⟩
        · have e1 : imgGo 0 (compL m) = im := by rw [him.out, List.take_of_length_le (by rw [compL_len, Hksl.out]; exact Nat.le_refl _)]
          rw [e1, ← Hksl.out]
          exact hbk
        · rcases hnv j hj with h1 | h1
          · simp [Value.ownBlock] at h1
          · exact .inr (Nat.le_trans hs3.size h1)
        · rcases h0 with h0 | h0
          · exact .inl h0
          · exact .inr (.inl h0)
      go_wp2_with fail
      go_end0
      exact ⟨rfl, hfin⟩
end Go.Proofs.Ytbchkaoocobpfaa
