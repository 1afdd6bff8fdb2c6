/- Walks: the reference's Copy and sorted. -/
import Derived.Test.YtbchkaoocobpfaaChecked
import Derived.Test.YtbchkaoocobpfaaSpecVary
import Derived.Test.YtbchkaoocobpfaaChg
import Derived.Test.YtbchkaoocobpfaaAppF
import Derived.Test.YtbchkaoocobpfaaAppG
import Derived.Test.YtbchkaoocobpfaaSlr
import Derived.Deep.RegionHeld3
import Derived.Sort.Walk0
import Derived.Deep.DeepCutAuto
namespace Go.Proofs.Ytbchkaoocobpfaa
open Go.RowKit Go.Larder Go.Sort
set_option linter.unusedVariables false
set_option linter.unusedSimpArgs false
theorem leB_yes {y s : List UInt8} (h : (Op.bytesLess y s = true ∨ (y == s) = true)) : leB y s = true := by
  unfold leB
  rw [decide_eq_true_eq]
  rcases h with h | h
  · rw [bytesLess_eq, decide_eq_true_eq] at h
    exact List.le_of_lt h
  · rw [eq_of_beq h]; exact List.le_refl _
theorem leB_no {y s : List UInt8} (h : (Op.bytesLess y s = false ∧ (y == s) = false)) : leB y s = false := by
  unfold leB
  rw [decide_eq_false_iff_not]
  intro hle
  obtain ⟨h1, h2⟩ := h
  rw [bytesLess_eq, decide_eq_false_iff_not, List.not_lt] at h1
  rw [List.le_antisymm hle h1] at h2
  simp at h2
theorem sl_strT : SlT Try.prog 30 9 1 16 := SlT.mk' (z := .string ByteArray.empty) Try.underlying30 (by kernel_rfl) rfl
theorem w_CopyT (l : List (List UInt8)) (hl : l.length ≤ 100000) (A : Option Addr) (c : Nat) (w : World) (hr : ReadL encL w w.heap.size A l) :
    Calls Try.prog 65 #[.slice A l.length c] w fun e w' => (∃ A2 c2, e = .returned (.slice A2 l.length c2) ∧ OwnL encL w' w.heap.size 9 A2 c2 l) ∧ Below w.heap.size w w' := by
  have hn : OwnL encL w w.heap.size 9 none 0 ([] : List (List UInt8)) := OwnL.nil _ _ _
  go_enter Try.func65, Try.ntmps65
  go_wp2_with (at_builtin
               refine wpList_app_any encL sl_strT l rfl _ _ rfl rfl hn rfl hr (by simp; omega) (by simp only [maxLen, List.length_nil]; omega) (Nat.le_refl _) ?_
               intro A2 c2 w3 hown3 hb3)
  go_ret
  exact ⟨⟨A2, c2, by simp, by simpa using hown3⟩, hb3⟩
set_option maxHeartbeats 8000000 in
set_option maxRecDepth 100000 in
theorem w_sorted (l : List (List UInt8)) (hl : l.length ≤ 1000) (A : Option Addr) (c : Nat) (w : World) (hr : ReadL encL w w.heap.size A l) :
    Calls Try.prog 53 #[.slice A l.length c] w fun e w' => (∃ A' c', e = .returned (.slice A' (sortL l).length c') ∧ OwnL encL w' w.heap.size 9 A' c' (sortL l)) ∧ Below w.heap.size w w' := by
  go_enter Try.func53, Try.ntmps53
  go_wp2_with fail
  go_loopw [3, 9] (fun o' i' wr => ∃ (i : Nat) (out : List (List UInt8)) (A : Option Addr) (c : Nat), i' = .int .i64 i ∧ o' = .slice A out.length c ∧ i ≤ l.length ∧ out.length = i ∧ Hid (out = sortL (l.take i)) ∧ OwnL encL wr w.heap.size 9 A c out ∧ Below w.heap.size w wr)
    (fun _ i' _ => l.length - (intOf i').toNat)
  case atStart => exact ⟨0, [], none, 0, rfl, rfl, by omega, rfl, Lib.hid (by simp [sortL]), OwnL.nil _ _ _, Below.refl _ _⟩
  case round =>
    obtain ⟨i, out, A1, c1, rfl, rfl, hi, hol, hso, hown, hbel⟩ := hrel
    obtain ⟨wo, hwo⟩ : ∃ wo, wo = wr := ⟨_, rfl⟩
    subst hwo
    have Hol := Lib.hid hol
    have holb : out.length ≤ 1000 := by omega
    clear hol
    by_cases hlt : i < l.length
    · obtain ⟨s, hx, hd⟩ := drop_step hlt
      obtain ⟨g, off, rfl, hgb, hc0⟩ := (hr.below hbel (Nat.le_refl _)).at_S hx
      have Hx := Lib.hid hx
      clear hx hd
      go_wp2_with fail
      go_loopw [6] (fun k' wv => ∃ k : Nat, k' = .int .i64 k ∧ k ≤ out.length ∧ k ≤ posOf s out ∧ wv = wo) (fun k' _ => out.length - (intOf k').toNat)
      case atStart => exact ⟨0, rfl, by omega, by omega, by first | rfl | trivial⟩
      case round =>
        obtain ⟨k, rfl, hk, hkp, rfl⟩ := hrel
        by_cases hkl : k < out.length
        · obtain ⟨y, hy⟩ : ∃ y, out[k]? = some y := ⟨_, List.getElem?_eq_getElem hkl⟩
          obtain ⟨g2, off2, rfl, hg2, hc2⟩ := hown.read.at_S hy
          cases hle : (Op.bytesLess y s || y == s)
          · have hle2 : Op.bytesLess y s = false ∧ (y == s) = false := by simpa using hle
            have Hpos := Lib.hid (posOf_stop hy hkp (leB_no hle2))
            have hl1 := hle2.1
            have hl2 := hle2.2
            have hle3 : ¬ (Op.bytesLess y s = true ∨ (y == s) = true) := by rw [hl1, hl2]; simp
            go_wp2_with fail
            have Hy2 := Lib.hid Hpos.out
            obtain ⟨A4, hs1, hr1⟩ := run_sliceH (some ⟨g2, off2, none⟩) out.length c1 k (by have := hown.le_cap; omega)
            obtain ⟨A3, hs2, hr2⟩ := run_sliceL (some ⟨g2, off2, none⟩) out.length c1 k hk hown.le_cap
            have hrt := hr1 hk hown.read
            have hrd := hr2 rfl hown.read
            have htk : (out.take k).length = k := by rw [List.length_take]; omega
            have hdk : (out.drop k).length = out.length - k := by rw [List.length_drop]
            have hcp : ∀ W, Below wr.heap.size wr W → Calls Try.prog 65 #[.slice A4 k c1] W fun e w' => (∃ A2 c2, e = .returned (.slice A2 k c2) ∧ OwnL encL w' W.heap.size 9 A2 c2 (out.take k)) ∧ Below W.heap.size W w' :=
              fun W hW => by
                have h := w_CopyT (out.take k) (by omega) A4 c1 W ((ReadL.below hrt hW (Nat.le_refl _)).more hW.size)
                rwa [htk] at h
            have hB0 : Below wr.heap.size wr wr.drew := (Below.refl _ wr).drew
            have hBl : Below wr.heap.size wr (wr.drew.alloc (.cells #[S s] 9)) := hB0.alloc (Nat.le_refl _) _
            have htb : (out.take k).length ≤ 1000 := by omega
            have hdb : (out.drop k).length ≤ 1000 := by omega
            clear hdk
            have hins := Lib.hid (show insAt k s out = sortL (l.take (i + 1)) from by
              have h := ins_sort (s := s) hso.out
              rw [Hy2.out] at h
              rw [h, List.take_add_one, Hx.out]; rfl)
            have hlen := Lib.hid (show (insAt k s out).length = i + 1 from by unfold insAt; simp; have := Hol.out; omega)
            have hlen2 : (insAt k s out).length = k + (1 + (out.length - k)) := by unfold insAt; simp; omega
            refine wp_region_held_drew (S := (fun W => Below wr.heap.size wr W)) (by kernel_rfl) hB0 (fun hHeld => ?_)
            refine wpAnyH_take (i := 0) (v := ?_) rfl (by kernel_rfl) (by kernel_rfl) (by kernel_rfl) (fun _ _ _ h => h) (Or.inl ⟨by rfl, by (intro W hSw; (try dsimp only at hSw); go_simp; try (with_reducible rfl))⟩) (by assumption) ?_
            try simp only [Act.put, List.setIfInBounds_toArray, List.set_cons_zero, List.set_cons_succ]
            refine wpAnyH_take (i := 1) (v := ?_) rfl (by kernel_rfl) (by kernel_rfl) (by kernel_rfl) (fun _ _ _ h => h) (Or.inl ⟨by rfl, by (intro W hSw; (try dsimp only at hSw); go_simp; try (with_reducible rfl))⟩) (by assumption) ?_
            try simp only [Act.put, List.setIfInBounds_toArray, List.set_cons_zero, List.set_cons_succ]
            refine wpAnyH_take (i := 2) (v := ?_) rfl (by kernel_rfl) (by kernel_rfl) (by kernel_rfl) (fun _ _ _ h => h) (Or.inl ⟨by rfl, by (intro W hSw; (try dsimp only at hSw); go_simp; try (with_reducible rfl))⟩) (by assumption) ?_
            try simp only [Act.put, List.setIfInBounds_toArray, List.set_cons_zero, List.set_cons_succ]
            refine wpAnyH_take (i := 4) (v := ?_) rfl (by kernel_rfl) (by kernel_rfl) (by kernel_rfl) (fun _ _ _ h => h) (Or.inl ⟨by rfl, by (intro W hSw; (try dsimp only at hSw); go_simp; try (with_reducible rfl))⟩) (by assumption) ?_
            try simp only [Act.put, List.setIfInBounds_toArray, List.set_cons_zero, List.set_cons_succ]
            refine wpAnyH_take (i := 6) (v := ?_) rfl (by kernel_rfl) (by kernel_rfl) (by kernel_rfl) (fun _ _ _ h => h) (Or.inl ⟨by rfl, by (intro W hSw; (try dsimp only at hSw); go_simp; try (with_reducible rfl))⟩) (by assumption) ?_
            try simp only [Act.put, List.setIfInBounds_toArray, List.set_cons_zero, List.set_cons_succ]
            refine wpAnyH_take (i := 7) (v := ?_) rfl (by kernel_rfl) (by kernel_rfl) (by kernel_rfl) (fun _ _ _ h => h) (Or.inl ⟨by rfl, by (intro W hSw; (try dsimp only at hSw); go_simp; try (with_reducible rfl))⟩) (by assumption) ?_
            try simp only [Act.put, List.setIfInBounds_toArray, List.set_cons_zero, List.set_cons_succ]
            refine wpAnyH_take (i := 8) (v := ?_) rfl (by kernel_rfl) (by kernel_rfl) (by kernel_rfl) (fun _ _ _ h => h) (Or.inl ⟨by rfl, by (intro W hSw; (try dsimp only at hSw); go_simp; try (with_reducible rfl))⟩) (by assumption) ?_
            try simp only [Act.put, List.setIfInBounds_toArray, List.set_cons_zero, List.set_cons_succ]
            refine wpAnyH_ready (rs := [3, 5]) (by kernel_rfl) (by simp) ?_
            refine AllReadyH.cons rfl (fun K hK => ?_) ?_
            · (go_simp; go_at_call 65; refine Calls.mono (hcp _ (by exact hB0)) ?_; rintro e w1 ⟨⟨A5, c5, rfl, hown5⟩, hb5⟩; have hB1 : Below wr.heap.size wr w1 := Below.trans (by exact hB0) (hb5.mono (by first | exact Nat.le_refl _ | (simp; done) | exact (Below.size hB2))))
              refine hK.out _ _ hB1 (fun hHeld => ?_)
              clear hK K
              try simp only [Act.put, List.setIfInBounds_toArray, List.set_cons_zero, List.set_cons_succ]
              refine wpAnyH_ready (rs := [5]) (by kernel_rfl) (by simp) ?_
              refine AllReadyH.cons rfl (fun K hK => ?_) ?_
              · (go_simp; (try go_wp2_with fail))
                refine hK.out _ _ (hB1.alloc hB1.size _) (fun hHeld => ?_)
                clear hK K
                try simp only [Act.put, List.setIfInBounds_toArray, List.set_cons_zero, List.set_cons_succ]
                refine wpAnyH_ready (rs := [9]) (by kernel_rfl) (by simp) ?_
                refine AllReadyH.cons rfl (fun K hK => ?_) ?_
                · (refine step_app_atn (base := w1.heap.size) encL sl_strT (out.drop k) (by rfl) _ _ (by rfl) (l := [s]) (by rfl) (by exact (own_lit (E := encL) w1 w1.heap.size 9 #[S s] [s] rfl (Nat.le_refl _) (by simp [maxLen]))) (by rfl) (ReadL.below hrd (by exact (hB1.alloc hB1.size (.cells #[S s] 9))) (Nat.le_refl _)) rfl (by rw [List.length_drop]) (by simp; omega) (by simp [maxLen]; omega) (by first | exact Nat.le_refl _ | exact hB2.size | (simp; done)) ?_; intro A6 c6 w3 hown6 hgr6 hb6; have hB3 : Below wr.heap.size wr w3 := Below.trans (by exact (hB1.alloc hB1.size (.cells #[S s] 9))) (hb6.mono hB1.size); have hown5b : OwnL encL w3 wr.heap.size 9 A5 c5 (out.take k) := hown5.keep fun a ha => (hb6.block a.block (hown5.lt a ha).2).trans (Below.heap_alloc w1 _ _ (hown5.lt a ha).2))
                  refine hK.out _ _ hB3 (fun hHeld => ?_)
                  clear hK K
                  try simp only [Act.put, List.setIfInBounds_toArray, List.set_cons_zero, List.set_cons_succ]
                  refine wpAnyH_ready (rs := [10]) (by kernel_rfl) (by simp) ?_
                  refine AllReadyH.cons rfl (fun K hK => ?_) ?_
                  · (refine step_app_atn (base := wr.heap.size) encL sl_strT ([s] ++ out.drop k) (by rfl) _ _ (by rfl) (l := out.take k) (by rfl) (by exact hown5b) (by rfl) (by exact OwnL.read hown6) htk (by first | (rw [List.length_append, List.length_drop]; done) | (rw [List.length_append, List.length_drop]; rfl) | (simp; omega)) (by simp; omega) (by simp [maxLen]; omega) (by exact Below.size hB3) ?_; intro A7 c7 w4 hown7 hgr7 hb7; have hB4 : Below wr.heap.size wr w4 := Below.trans hB3 hb7)
                    refine hK.out _ _ hB4 (fun hHeld => ?_)
                    clear hK K
                    try simp only [Act.put, List.setIfInBounds_toArray, List.set_cons_zero, List.set_cons_succ]
                    refine wpAnyH_ready (rs := [11]) (by kernel_rfl) (by simp) ?_
                    refine AllReadyH.cons rfl (fun K hK => ?_) ?_
                    · (go_simp; (try go_wp2_with fail))
                      refine hK.out _ _ hB4 (fun hHeld => ?_)
                      clear hK K
                      try simp only [Act.put, List.setIfInBounds_toArray, List.set_cons_zero, List.set_cons_succ]
                      refine wpAnyH_done (by kernel_rfl) ?_ _
                      go_wp2_with fail
                      go_roundw
                      case rel => exact ⟨i + 1, insAt k s out, A7, c7, by go_num, by rw [hlen2], by omega, hlen.out, hins, by simpa [insAt] using hown7.base_le hbel.size, hbel.trans (hB4.mono hbel.size)⟩
                      case measure => simp [intOf]; omega
                    exact AllReadyH.nil
                  exact AllReadyH.nil
                exact AllReadyH.nil
              exact AllReadyH.nil
            refine AllReadyH.cons rfl (fun K hK => ?_) ?_
            · (go_simp; (try go_wp2_with fail))
              refine hK.out _ _ hBl (fun hHeld => ?_)
              clear hK K
              try simp only [Act.put, List.setIfInBounds_toArray, List.set_cons_zero, List.set_cons_succ]
              refine wpAnyH_ready (rs := [3]) (by kernel_rfl) (by simp) ?_
              refine AllReadyH.cons rfl (fun K hK => ?_) ?_
              · (go_simp; go_at_call 65; refine Calls.mono (hcp _ (by exact hBl)) ?_; rintro e w2 ⟨⟨A5, c5, rfl, hown5⟩, hb5⟩; have hB2 : Below wr.heap.size wr w2 := Below.trans (by exact hBl) (hb5.mono (by first | exact Nat.le_refl _ | (simp; done) | exact (Below.size hB2))); have hlit2 : OwnL encL w2 wr.heap.size 9 (some ⟨wr.heap.size, 0, none⟩) [s].length [s] := OwnL.keep (own_lit (E := encL) wr.drew wr.heap.size 9 #[S s] [s] rfl (Nat.le_refl _) (by simp [maxLen])) fun a ha => hb5.block a.block (by cases ha; show wr.heap.size < (wr.heap.push _).size; rw [Array.size_push]; omega))
                refine hK.out _ _ hB2 (fun hHeld => ?_)
                clear hK K
                try simp only [Act.put, List.setIfInBounds_toArray, List.set_cons_zero, List.set_cons_succ]
                refine wpAnyH_ready (rs := [9]) (by kernel_rfl) (by simp) ?_
                refine AllReadyH.cons rfl (fun K hK => ?_) ?_
                · (refine step_app_atn (base := wr.heap.size) encL sl_strT (out.drop k) (by rfl) _ _ (by rfl) (l := [s]) (by rfl) (by exact hlit2) (by rfl) (ReadL.below hrd (by exact hB2) (Nat.le_refl _)) rfl (by rw [List.length_drop]) (by simp; omega) (by simp [maxLen]; omega) (by first | exact Nat.le_refl _ | exact hB2.size | (simp; done)) ?_; intro A6 c6 w3 hown6 hgr6 hb6; have hB3 : Below wr.heap.size wr w3 := Below.trans (by exact hB2) (hb6.mono (Nat.le_refl _)); have hown5b : OwnL encL w3 wr.heap.size 9 A5 c5 (out.take k) := (hown5.base_le (by show wr.heap.size ≤ (wr.heap.push _).size; simp)).keep fun a ha => hgr6.block a.block (hown5.lt a ha).2 (by have h7 : (wr.heap.push (.cells #[S s] 9)).size ≤ a.block := (hown5.lt a ha).1; simp at h7; simp [blkOf]; omega))
                  refine hK.out _ _ hB3 (fun hHeld => ?_)
                  clear hK K
                  try simp only [Act.put, List.setIfInBounds_toArray, List.set_cons_zero, List.set_cons_succ]
                  refine wpAnyH_ready (rs := [10]) (by kernel_rfl) (by simp) ?_
                  refine AllReadyH.cons rfl (fun K hK => ?_) ?_
                  · (refine step_app_atn (base := wr.heap.size) encL sl_strT ([s] ++ out.drop k) (by rfl) _ _ (by rfl) (l := out.take k) (by rfl) (by exact hown5b) (by rfl) (by exact OwnL.read hown6) htk (by first | (rw [List.length_append, List.length_drop]; done) | (rw [List.length_append, List.length_drop]; rfl) | (simp; omega)) (by simp; omega) (by simp [maxLen]; omega) (by exact Below.size hB3) ?_; intro A7 c7 w4 hown7 hgr7 hb7; have hB4 : Below wr.heap.size wr w4 := Below.trans hB3 hb7)
                    refine hK.out _ _ hB4 (fun hHeld => ?_)
                    clear hK K
                    try simp only [Act.put, List.setIfInBounds_toArray, List.set_cons_zero, List.set_cons_succ]
                    refine wpAnyH_ready (rs := [11]) (by kernel_rfl) (by simp) ?_
                    refine AllReadyH.cons rfl (fun K hK => ?_) ?_
                    · (go_simp; (try go_wp2_with fail))
                      refine hK.out _ _ hB4 (fun hHeld => ?_)
                      clear hK K
                      try simp only [Act.put, List.setIfInBounds_toArray, List.set_cons_zero, List.set_cons_succ]
                      refine wpAnyH_done (by kernel_rfl) ?_ _
                      go_wp2_with fail
                      go_roundw
                      case rel => exact ⟨i + 1, insAt k s out, A7, c7, by go_num, by rw [hlen2], by omega, hlen.out, hins, by simpa [insAt] using hown7.base_le hbel.size, hbel.trans (hB4.mono hbel.size)⟩
                      case measure => simp [intOf]; omega
                    exact AllReadyH.nil
                  exact AllReadyH.nil
                exact AllReadyH.nil
              exact AllReadyH.nil
            exact AllReadyH.nil
          · have hle2 : Op.bytesLess y s = true ∨ (y == s) = true := by simpa using hle
            have Hpos := Lib.hid (posOf_step hy hkp (leB_yes hle2))
            clear hle2
            go_wp2_with fail
            go_roundw
            case rel => exact ⟨k + 1, by go_num, by omega, Hpos.out, by first | rfl | trivial⟩
            case measure => simp [intOf]; omega
        · have Hpos := Lib.hid (show posOf s out = k from by have := posOf_le s out; omega)
          have hI : ¬ (k : Int) < (out.length : Int) := by omega
          go_wp2_with fail
          have Hy2 := Lib.hid Hpos.out
          obtain ⟨A4, hs1, hr1⟩ := run_sliceH A1 out.length c1 k (by have := hown.le_cap; omega)
          obtain ⟨A3, hs2, hr2⟩ := run_sliceL A1 out.length c1 k hk hown.le_cap
          have hrt := hr1 hk hown.read
          have hrd := hr2 rfl hown.read
          have htk : (out.take k).length = k := by rw [List.length_take]; omega
          have hdk : (out.drop k).length = out.length - k := by rw [List.length_drop]
          have hcp : ∀ W, Below wr.heap.size wr W → Calls Try.prog 65 #[.slice A4 k c1] W fun e w' => (∃ A2 c2, e = .returned (.slice A2 k c2) ∧ OwnL encL w' W.heap.size 9 A2 c2 (out.take k)) ∧ Below W.heap.size W w' :=
            fun W hW => by
              have h := w_CopyT (out.take k) (by omega) A4 c1 W ((ReadL.below hrt hW (Nat.le_refl _)).more hW.size)
              rwa [htk] at h
          have hB0 : Below wr.heap.size wr wr.drew := (Below.refl _ wr).drew
          have hBl : Below wr.heap.size wr (wr.drew.alloc (.cells #[S s] 9)) := hB0.alloc (Nat.le_refl _) _
          have htb : (out.take k).length ≤ 1000 := by omega
          have hdb : (out.drop k).length ≤ 1000 := by omega
          clear hdk
          have hins := Lib.hid (show insAt k s out = sortL (l.take (i + 1)) from by
            have h := ins_sort (s := s) hso.out
            rw [Hy2.out] at h
            rw [h, List.take_add_one, Hx.out]; rfl)
          have hlen := Lib.hid (show (insAt k s out).length = i + 1 from by unfold insAt; simp; have := Hol.out; omega)
          have hlen2 : (insAt k s out).length = k + (1 + (out.length - k)) := by unfold insAt; simp; omega
          refine wp_region_held_drew (S := (fun W => Below wr.heap.size wr W)) (by kernel_rfl) hB0 (fun hHeld => ?_)
          refine wpAnyH_take (i := 0) (v := ?_) rfl (by kernel_rfl) (by kernel_rfl) (by kernel_rfl) (fun _ _ _ h => h) (Or.inl ⟨by rfl, by (intro W hSw; (try dsimp only at hSw); go_simp; try (with_reducible rfl))⟩) (by assumption) ?_
          try simp only [Act.put, List.setIfInBounds_toArray, List.set_cons_zero, List.set_cons_succ]
          refine wpAnyH_take (i := 1) (v := ?_) rfl (by kernel_rfl) (by kernel_rfl) (by kernel_rfl) (fun _ _ _ h => h) (Or.inl ⟨by rfl, by (intro W hSw; (try dsimp only at hSw); go_simp; try (with_reducible rfl))⟩) (by assumption) ?_
          try simp only [Act.put, List.setIfInBounds_toArray, List.set_cons_zero, List.set_cons_succ]
          refine wpAnyH_take (i := 2) (v := ?_) rfl (by kernel_rfl) (by kernel_rfl) (by kernel_rfl) (fun _ _ _ h => h) (Or.inl ⟨by rfl, by (intro W hSw; (try dsimp only at hSw); go_simp; try (with_reducible rfl))⟩) (by assumption) ?_
          try simp only [Act.put, List.setIfInBounds_toArray, List.set_cons_zero, List.set_cons_succ]
          refine wpAnyH_take (i := 4) (v := ?_) rfl (by kernel_rfl) (by kernel_rfl) (by kernel_rfl) (fun _ _ _ h => h) (Or.inl ⟨by rfl, by (intro W hSw; (try dsimp only at hSw); go_simp; try (with_reducible rfl))⟩) (by assumption) ?_
          try simp only [Act.put, List.setIfInBounds_toArray, List.set_cons_zero, List.set_cons_succ]
          refine wpAnyH_take (i := 6) (v := ?_) rfl (by kernel_rfl) (by kernel_rfl) (by kernel_rfl) (fun _ _ _ h => h) (Or.inl ⟨by rfl, by (intro W hSw; (try dsimp only at hSw); go_simp; try (with_reducible rfl))⟩) (by assumption) ?_
          try simp only [Act.put, List.setIfInBounds_toArray, List.set_cons_zero, List.set_cons_succ]
          refine wpAnyH_take (i := 7) (v := ?_) rfl (by kernel_rfl) (by kernel_rfl) (by kernel_rfl) (fun _ _ _ h => h) (Or.inl ⟨by rfl, by (intro W hSw; (try dsimp only at hSw); go_simp; try (with_reducible rfl))⟩) (by assumption) ?_
          try simp only [Act.put, List.setIfInBounds_toArray, List.set_cons_zero, List.set_cons_succ]
          refine wpAnyH_take (i := 8) (v := ?_) rfl (by kernel_rfl) (by kernel_rfl) (by kernel_rfl) (fun _ _ _ h => h) (Or.inl ⟨by rfl, by (intro W hSw; (try dsimp only at hSw); go_simp; try (with_reducible rfl))⟩) (by assumption) ?_
          try simp only [Act.put, List.setIfInBounds_toArray, List.set_cons_zero, List.set_cons_succ]
          refine wpAnyH_ready (rs := [3, 5]) (by kernel_rfl) (by simp) ?_
          refine AllReadyH.cons rfl (fun K hK => ?_) ?_
          · (go_simp; go_at_call 65; refine Calls.mono (hcp _ (by exact hB0)) ?_; rintro e w1 ⟨⟨A5, c5, rfl, hown5⟩, hb5⟩; have hB1 : Below wr.heap.size wr w1 := Below.trans (by exact hB0) (hb5.mono (by first | exact Nat.le_refl _ | (simp; done) | exact (Below.size hB2))))
            refine hK.out _ _ hB1 (fun hHeld => ?_)
            clear hK K
            try simp only [Act.put, List.setIfInBounds_toArray, List.set_cons_zero, List.set_cons_succ]
            refine wpAnyH_ready (rs := [5]) (by kernel_rfl) (by simp) ?_
            refine AllReadyH.cons rfl (fun K hK => ?_) ?_
            · (go_simp; (try go_wp2_with fail))
              refine hK.out _ _ (hB1.alloc hB1.size _) (fun hHeld => ?_)
              clear hK K
              try simp only [Act.put, List.setIfInBounds_toArray, List.set_cons_zero, List.set_cons_succ]
              refine wpAnyH_ready (rs := [9]) (by kernel_rfl) (by simp) ?_
              refine AllReadyH.cons rfl (fun K hK => ?_) ?_
              · (refine step_app_atn (base := w1.heap.size) encL sl_strT (out.drop k) (by rfl) _ _ (by rfl) (l := [s]) (by rfl) (by exact (own_lit (E := encL) w1 w1.heap.size 9 #[S s] [s] rfl (Nat.le_refl _) (by simp [maxLen]))) (by rfl) (ReadL.below hrd (by exact (hB1.alloc hB1.size (.cells #[S s] 9))) (Nat.le_refl _)) rfl (by rw [List.length_drop]) (by simp; omega) (by simp [maxLen]; omega) (by first | exact Nat.le_refl _ | exact hB2.size | (simp; done)) ?_; intro A6 c6 w3 hown6 hgr6 hb6; have hB3 : Below wr.heap.size wr w3 := Below.trans (by exact (hB1.alloc hB1.size (.cells #[S s] 9))) (hb6.mono hB1.size); have hown5b : OwnL encL w3 wr.heap.size 9 A5 c5 (out.take k) := hown5.keep fun a ha => (hb6.block a.block (hown5.lt a ha).2).trans (Below.heap_alloc w1 _ _ (hown5.lt a ha).2))
                refine hK.out _ _ hB3 (fun hHeld => ?_)
                clear hK K
                try simp only [Act.put, List.setIfInBounds_toArray, List.set_cons_zero, List.set_cons_succ]
                refine wpAnyH_ready (rs := [10]) (by kernel_rfl) (by simp) ?_
                refine AllReadyH.cons rfl (fun K hK => ?_) ?_
                · (refine step_app_atn (base := wr.heap.size) encL sl_strT ([s] ++ out.drop k) (by rfl) _ _ (by rfl) (l := out.take k) (by rfl) (by exact hown5b) (by rfl) (by exact OwnL.read hown6) htk (by first | (rw [List.length_append, List.length_drop]; done) | (rw [List.length_append, List.length_drop]; rfl) | (simp; omega)) (by simp; omega) (by simp [maxLen]; omega) (by exact Below.size hB3) ?_; intro A7 c7 w4 hown7 hgr7 hb7; have hB4 : Below wr.heap.size wr w4 := Below.trans hB3 hb7)
                  refine hK.out _ _ hB4 (fun hHeld => ?_)
                  clear hK K
                  try simp only [Act.put, List.setIfInBounds_toArray, List.set_cons_zero, List.set_cons_succ]
                  refine wpAnyH_ready (rs := [11]) (by kernel_rfl) (by simp) ?_
                  refine AllReadyH.cons rfl (fun K hK => ?_) ?_
                  · (go_simp; (try go_wp2_with fail))
                    refine hK.out _ _ hB4 (fun hHeld => ?_)
                    clear hK K
                    try simp only [Act.put, List.setIfInBounds_toArray, List.set_cons_zero, List.set_cons_succ]
                    refine wpAnyH_done (by kernel_rfl) ?_ _
                    go_wp2_with fail
                    go_roundw
                    case rel => exact ⟨i + 1, insAt k s out, A7, c7, by go_num, by rw [hlen2], by omega, hlen.out, hins, by simpa [insAt] using hown7.base_le hbel.size, hbel.trans (hB4.mono hbel.size)⟩
                    case measure => simp [intOf]; omega
                  exact AllReadyH.nil
                exact AllReadyH.nil
              exact AllReadyH.nil
            exact AllReadyH.nil
          refine AllReadyH.cons rfl (fun K hK => ?_) ?_
          · (go_simp; (try go_wp2_with fail))
            refine hK.out _ _ hBl (fun hHeld => ?_)
            clear hK K
            try simp only [Act.put, List.setIfInBounds_toArray, List.set_cons_zero, List.set_cons_succ]
            refine wpAnyH_ready (rs := [3]) (by kernel_rfl) (by simp) ?_
            refine AllReadyH.cons rfl (fun K hK => ?_) ?_
            · (go_simp; go_at_call 65; refine Calls.mono (hcp _ (by exact hBl)) ?_; rintro e w2 ⟨⟨A5, c5, rfl, hown5⟩, hb5⟩; have hB2 : Below wr.heap.size wr w2 := Below.trans (by exact hBl) (hb5.mono (by first | exact Nat.le_refl _ | (simp; done) | exact (Below.size hB2))); have hlit2 : OwnL encL w2 wr.heap.size 9 (some ⟨wr.heap.size, 0, none⟩) [s].length [s] := OwnL.keep (own_lit (E := encL) wr.drew wr.heap.size 9 #[S s] [s] rfl (Nat.le_refl _) (by simp [maxLen])) fun a ha => hb5.block a.block (by cases ha; show wr.heap.size < (wr.heap.push _).size; rw [Array.size_push]; omega))
              refine hK.out _ _ hB2 (fun hHeld => ?_)
              clear hK K
              try simp only [Act.put, List.setIfInBounds_toArray, List.set_cons_zero, List.set_cons_succ]
              refine wpAnyH_ready (rs := [9]) (by kernel_rfl) (by simp) ?_
              refine AllReadyH.cons rfl (fun K hK => ?_) ?_
              · (refine step_app_atn (base := wr.heap.size) encL sl_strT (out.drop k) (by rfl) _ _ (by rfl) (l := [s]) (by rfl) (by exact hlit2) (by rfl) (ReadL.below hrd (by exact hB2) (Nat.le_refl _)) rfl (by rw [List.length_drop]) (by simp; omega) (by simp [maxLen]; omega) (by first | exact Nat.le_refl _ | exact hB2.size | (simp; done)) ?_; intro A6 c6 w3 hown6 hgr6 hb6; have hB3 : Below wr.heap.size wr w3 := Below.trans (by exact hB2) (hb6.mono (Nat.le_refl _)); have hown5b : OwnL encL w3 wr.heap.size 9 A5 c5 (out.take k) := (hown5.base_le (by show wr.heap.size ≤ (wr.heap.push _).size; simp)).keep fun a ha => hgr6.block a.block (hown5.lt a ha).2 (by have h7 : (wr.heap.push (.cells #[S s] 9)).size ≤ a.block := (hown5.lt a ha).1; simp at h7; simp [blkOf]; omega))
                refine hK.out _ _ hB3 (fun hHeld => ?_)
                clear hK K
                try simp only [Act.put, List.setIfInBounds_toArray, List.set_cons_zero, List.set_cons_succ]
                refine wpAnyH_ready (rs := [10]) (by kernel_rfl) (by simp) ?_
                refine AllReadyH.cons rfl (fun K hK => ?_) ?_
                · (refine step_app_atn (base := wr.heap.size) encL sl_strT ([s] ++ out.drop k) (by rfl) _ _ (by rfl) (l := out.take k) (by rfl) (by exact hown5b) (by rfl) (by exact OwnL.read hown6) htk (by first | (rw [List.length_append, List.length_drop]; done) | (rw [List.length_append, List.length_drop]; rfl) | (simp; omega)) (by simp; omega) (by simp [maxLen]; omega) (by exact Below.size hB3) ?_; intro A7 c7 w4 hown7 hgr7 hb7; have hB4 : Below wr.heap.size wr w4 := Below.trans hB3 hb7)
                  refine hK.out _ _ hB4 (fun hHeld => ?_)
                  clear hK K
                  try simp only [Act.put, List.setIfInBounds_toArray, List.set_cons_zero, List.set_cons_succ]
                  refine wpAnyH_ready (rs := [11]) (by kernel_rfl) (by simp) ?_
                  refine AllReadyH.cons rfl (fun K hK => ?_) ?_
                  · (go_simp; (try go_wp2_with fail))
                    refine hK.out _ _ hB4 (fun hHeld => ?_)
                    clear hK K
                    try simp only [Act.put, List.setIfInBounds_toArray, List.set_cons_zero, List.set_cons_succ]
                    refine wpAnyH_done (by kernel_rfl) ?_ _
                    go_wp2_with fail
                    go_roundw
                    case rel => exact ⟨i + 1, insAt k s out, A7, c7, by go_num, by rw [hlen2], by omega, hlen.out, hins, by simpa [insAt] using hown7.base_le hbel.size, hbel.trans (hB4.mono hbel.size)⟩
                    case measure => simp [intOf]; omega
                  exact AllReadyH.nil
                exact AllReadyH.nil
              exact AllReadyH.nil
            exact AllReadyH.nil
          exact AllReadyH.nil
    · obtain rfl : i = l.length := by omega
      have Hso := Lib.hid (show out = sortL l from by have := hso.out; rwa [List.take_length] at this)
      go_wp2_with fail
      go_ret
      rw [← Hso.out]
      exact ⟨⟨A1, c1, rfl, hown⟩, hbel⟩
end Go.Proofs.Ytbchkaoocobpfaa
