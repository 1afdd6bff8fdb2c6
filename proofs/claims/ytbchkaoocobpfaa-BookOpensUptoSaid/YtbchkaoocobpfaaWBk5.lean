/- Walk: book.Open. -/
import Derived.Test.YtbchkaoocobpfaaWBk4
namespace Go.Proofs.Ytbchkaoocobpfaa
open Go.RowKit Go.Larder
set_option linter.unusedVariables false
set_option linter.unusedSimpArgs false
def OpenP (w : World) (m : Kv) (L : List Ent) (e : Ending) (w' : World) : Prop :=
  ∃ b gm p v, e = .returned (.tuple #[.pointer (some ⟨b, 0, none⟩), .int .i64 ((imgGo 0 L).length : Int)]) ∧ BookAt w' b gm p v m L.length (imgGo 0 L) ∧ (∀ j, FB b gm v j → w.heap.size ≤ j) ∧ Below w.heap.size w w'
theorem drop_ge {α : Type} {l : List α} {i : Nat} (h : ¬ i < l.length) : l.drop i = [] := List.drop_of_length_le (by omega)
set_option maxHeartbeats 4000000 in
set_option maxRecDepth 100000 in
theorem w_BOpen (l : List UInt8) (hl : l.length ≤ 4000000) (w : World) :
    Calls Try.prog 27 #[S l] w (OpenP w (openGo (recover l).1 [] []).1 (openGo (recover l).1 [] []).2) := by
  have hsm := recover_small l
  have hrv := fun W => w_Recover l (by omega) W
  obtain ⟨Q, hQ⟩ : ∃ Q, recover l = Q := ⟨_, rfl⟩
  rw [hQ] at hsm hrv ⊢
  clear hQ
  obtain ⟨rs, sz⟩ := Q
  simp only at hsm ⊢
  have hrl : rs.length ≤ 500000 := by omega
  have Hsm := Lib.hid hsm.1
  clear hsm
  obtain ⟨M, hM⟩ : ∃ M, openGo rs [] [] = M := ⟨_, rfl⟩
  rw [hM]
  have HM := Lib.hid (show openGo (rs.drop 0) [] [] = M from hM)
  clear hM
  go_enter Try.func27, Try.ntmps27
  go_wp2_with fail
  refine Calls.mono (w_BNew _) ?_
  rintro e w1 ⟨rfl, h1, hb1⟩
  go_wp2_with fail
  refine Calls.mono (hrv _) ?_
  intro e w2 hp
  obtain ⟨A, c, rfl, hr, hb2⟩ := hp
  simp only at hr ⊢
  have h2 := h1.keep hb2
  have hb := h1.bld.lt
  have hgm := h1.map.lt
  have hB2 := hb1.trans (hb2.mono hb1.size)
  have Hrl := Lib.hid (fun a ha => (hr.lt a ha).2)
  clear h1
  generalize hgb : w.heap.size + 1 = b at *
  generalize hgg : w.heap.size = gm at *
  have hbg : gm < b := by omega
  clear hgb
  go_wp2_with fail
  go_loopw [8, 17] (fun _ i' wr => ∃ (i : Nat) (m : Kv) (L : List Ent) (p v : Value), i' = .int .i64 i ∧ i ≤ rs.length ∧ L.length ≤ i ∧ BookAt wr b gm p v m L.length (imgGo 0 L) ∧ BookR m L ∧ Hid (openGo (rs.drop i) m L = M) ∧ NewV w2 (.slice none 0 0) v ∧ OwnL encL wr w1.heap.size 9 A c rs ∧ SameBut (fun j => j = b ∨ j = gm) w2 wr) (fun _ i' _ => rs.length - (intOf i').toNat)
  case atStart => exact ⟨0, [], [], _, _, rfl, by omega, by simp, h2, BookR.new, HM, NewV.refl _ _, hr, SameBut.refl _⟩
  case round =>
    clear hr h2 HM
    obtain ⟨i, m, L, p, v, rfl, hi, hLl, hbk, hR, hgo, hnv, hr, hsm⟩ := hrel
    obtain ⟨wo, hwo⟩ : ∃ wo, wo = wr := ⟨_, rfl⟩
    subst hwo
    have himg := imgGo_len L 0 hR.ok
    have hfinal : ∀ (w' : World), BookAt w' b gm p v m L.length (imgGo 0 L) → SameBut (fun _ => False) wo w' → (m, L) = M → OpenP w M.1 M.2 (.returned (.tuple #[.pointer (some ⟨b, 0, none⟩), .int .i64 ((imgGo 0 L).length : Int)])) w' := by
      rintro w' hbk' hs' rfl
      refine ⟨b, gm, p, v, rfl, hbk', ?_, ?_⟩
      · rintro j (rfl | rfl | hj)
        · omega
        · omega
        · rcases hnv j hj with h0 | h0
          · simp [Value.ownBlock] at h0
          · have := hB2.size; omega
      · have hB3 : Below w.heap.size w w2 := by rw [hgg]; exact hB2
        exact hB3.trans ((hsm.trans hs' (fun _ _ h => h.elim)).toBelow (by have := hB2.size; omega) (fun j hj h0 => by omega))
    by_cases hlt : i < rs.length
    · obtain ⟨r, hri, hd⟩ := drop_step hlt
      have hrl1 := Hsm.out r (List.mem_of_getElem? hri)
      obtain ⟨gk, offk, hA, _, hck⟩ := hr.read.at_S hri
      subst hA
      have hgk := (hr.lt _ rfl).1
      have hgo2 := hgo.out
      rw [hd] at hgo2
      have hag := w_again (p := p) (v := v) (b := b) (gm := gm) r hrl1 (n := L.length) (by omega) (img := imgGo 0 L) (by omega) ⟨L, hR⟩ hbk
      cases hq : (recOf r).bind (fun e => (stepB m e).map fun m' => (e, m')) with
      | none =>
        rw [hq] at hag
        simp only at hag
        have hfe := Lib.hid ((openGo_none hq).symm.trans hgo2)
        clear hq hri hd hgo hgo2
        have Hf := Lib.hid hfinal
        clear hfinal
        go_wp2_with fail
        refine Calls.mono hag ?_
        rintro e w3 ⟨rfl, hbk3, hs3⟩
        have hfin := Hf.out w3 hbk3 hs3 hfe.out
        go_wp2_with fail
        refine Calls.mono (w_LenB b _ _ p v (imgGo 0 L) w3 hbk3.bld) ?_
        rintro e w4 ⟨rfl, rfl⟩
        go_wp2_with fail
        go_ret2
        exact hfin
      | some q =>
        obtain ⟨x, m'⟩ := q
        rw [hq] at hag
        simp only at hag
        obtain ⟨h1, h2⟩ : recOf r = some x ∧ stepB m x = some m' := by
          cases h1 : recOf r with
          | none => rw [h1] at hq; cases hq
          | some y =>
            rw [h1] at hq
            simp only [Option.bind_some, Option.map_eq_some_iff] at hq
            obtain ⟨z, hz, hq⟩ := hq
            injection hq with e1 e2
            subst e1 e2
            exact ⟨rfl, hz⟩
        have hgo3 := Lib.hid (show openGo (rs.drop (i + 1)) m' (L ++ [x]) = M from (openGo_some h1 h2).symm.trans hgo2)
        have hR' := hR.step (recOf_del h1) h2
        have hLl' : (L ++ [x]).length = L.length + 1 := by simp
        have himg' : imgGo 0 (L ++ [x]) = imgGo 0 L ++ frameL L.length (recE x) := by rw [imgGo_snoc, Nat.zero_add]
        rw [← himg'] at hag
        have Hl := Lib.hid hLl'
        clear hq hri hd hgo hgo2 hfinal h1 h2 himg' hLl'
        have Hi := Lib.hid himg
        go_wp2_with fail
        refine Calls.mono hag ?_
        rintro e w3 ⟨rfl, p3, v3, hbk3, hnv3, hs3⟩
        have hr3 : OwnL encL w3 w1.heap.size 9 (some ⟨gk, offk, none⟩) c rs := hr.keep fun a ha => hs3.block _ (hr.lt _ ha).2 (by
          injection ha with ha
          subst ha
          rintro (h0 | h0 | h0)
          · simp only at h0; omega
          · simp only at h0; omega
          · rcases hnv _ h0 with h1 | h1
            · simp [Value.ownBlock] at h1
            · have := Hrl.out _ rfl; simp only at this h1; omega)
        have hsm3 : SameBut (fun j => j = b ∨ j = gm) w2 w3 := hsm.trans hs3 fun j hj h0 => by
          rcases h0 with h0 | h0 | h0
          · exact .inl h0
          · exact .inr h0
          · rcases hnv _ h0 with h1 | h1
            · simp [Value.ownBlock] at h1
            · omega
        have hnv4 : NewV w2 (.slice none 0 0) v3 := NewV.trans hnv hnv3 hsm.size
        have hbk4 : BookAt w3 b gm p3 v3 m' (L ++ [x]).length (imgGo 0 (L ++ [x])) := by rw [Hl.out]; exact hbk3
        clear hbk3 hag
        go_wp2_with fail
        go_roundw
        case rel => exact ⟨i + 1, m', L ++ [x], p3, v3, by go_num, by omega, by rw [Hl.out]; omega, hbk4, hR', hgo3, hnv4, hr3, hsm3⟩
        case measure => simp [intOf]; omega
    · have hgo2 := hgo.out
      rw [drop_ge hlt] at hgo2
      have hfin := hfinal wo hbk (SameBut.refl _) hgo2
      clear hfinal hgo hgo2
      go_wp2_with fail
      refine Calls.mono (w_LenB b _ _ p v (imgGo 0 L) wo hbk.bld) ?_
      rintro e w4 ⟨rfl, rfl⟩
      go_wp2_with fail
      go_ret2
      exact hfin
end Go.Proofs.Ytbchkaoocobpfaa
